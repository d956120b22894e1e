/- Sorting rows of numbers: what is equal; turning a part round. -/
import Derived.Test.YteookcnimfaelaaM22
set_option linter.unusedVariables false
set_option linter.unusedSimpArgs false
namespace Go.Mw
set_option maxRecDepth 100000
structure EInv (l m : List Int) (a b : Nat) (v : Int) (i j : Nat) : Prop where
 seg : SegP l m a b
 ai : a + 1 ≤ i
 ij : i ≤ j + 1
 jb : j < b
 aj : a ≤ j
 pv : m[a]! = v
 lo : ∀ k, a + 1 ≤ k → k < i → ¬ v < m[k]!
 hi : ∀ k, j < k → k < b → v < m[k]!
structure EPost (l m : List Int) (a b : Nat) (v : Int) (i : Nat) : Prop where
 seg : SegP l m a b
 ai : a < i
 ib : i ≤ b
 lo : ∀ k, a ≤ k → k < i → ¬ v < m[k]!
 hi : ∀ k, i ≤ k → k < b → v < m[k]!
theorem EInv.up {l m : List Int} {a b i j : Nat} {v : Int} (h : EInv l m a b v i j) (hij : i ≤ j) (hlt : ¬ m[a]! < m[i]!) : EInv l m a b v (i + 1) j :=
 ⟨h.seg, by have := h.ai; omega, by omega, h.jb, h.aj, h.pv, fun k h1 h2 => by
  by_cases e : k = i
  ·rw [e, ← h.pv]; exact hlt
  ·exact h.lo k h1 (by omega), h.hi⟩
theorem EInv.down {l m : List Int} {a b i j : Nat} {v : Int} (h : EInv l m a b v i j) (hij : i ≤ j) (hge : m[a]! < m[j]!) : EInv l m a b v i (j - 1) :=
 ⟨h.seg, h.ai, by omega, by have := h.jb; omega, by have := h.ai; omega, h.pv, h.lo, fun k h1 h2 => by
  by_cases e : k = j
  ·rw [e, ← h.pv]; exact hge
  ·exact h.hi k (by omega) h2⟩
theorem EInv.swap {l m : List Int} {a b i j : Nat} {v : Int} (hbl : b ≤ l.length) (h : EInv l m a b v i j) (hij : i ≤ j) (hge : m[a]! < m[i]!) (hlt : ¬ m[a]! < m[j]!) : EInv l (sw m i j) a b v (i + 1) (j - 1) := by
 have hml := h.seg.len
 have h1 := h.ai
 have h2 := h.jb
 have hpv := h.pv
 have hne : i ≠ j := fun e => hlt (by rw [← e]; exact hge)
 have hi' : i < m.length := by omega
 have hj' : j < m.length := by omega
 have hg := @sw_get Int _ m i j
 refine ⟨h.seg.tr (sw_seg hi' hj' (by omega) (by omega) (by omega) (by omega)), by omega, by omega, by omega, by omega, ?_, fun k h3 h4 => ?_, fun k h3 h4 => ?_⟩
 ·rw [hg hi' hj', if_neg (show ¬ a = j by omega), if_neg (show ¬ a = i by omega)]; exact hpv
 ·rw [hg hi' hj', if_neg (show ¬ k = j by omega)]
  by_cases e : k = i
  ·rw [if_pos e, ← hpv]; exact hlt
  ·rw [if_neg e]; exact h.lo k h3 (by omega)
 ·rw [hg hi' hj']
  by_cases e : k = j
  ·rw [if_pos e, ← hpv]; exact hge
  ·rw [if_neg e, if_neg (by omega)]; exact h.hi k (by omega) h4
theorem EInv.fin {l m : List Int} {a b i j : Nat} {v : Int} (h : EInv l m a b v i j) (hij : ¬ i ≤ j) : EPost l m a b v i := by
 have h1 := h.ai
 have h2 := h.jb
 have h3 := h.ij
 refine ⟨h.seg, by omega, by omega, fun k h5 h6 => ?_, fun k h5 h6 => h.hi k (by omega) h6⟩
 by_cases e : k = a
 ·rw [e, h.pv]; omega
 ·exact h.lo k (by omega) h6
theorem EInv.start {l : List Int} {a b p : Nat} (hbl : b ≤ l.length) (h1 : a ≤ p) (h2 : p < b) : EInv l (sw l a p) a b l[p]! (a + 1) (b - 1) := by
 refine ⟨sw_seg (by omega) (by omega) (Nat.le_refl _) (by omega) h1 h2, Nat.le_refl _, by omega, by omega, by omega, ?_, fun k h3 h4 => by omega, fun k h3 h4 => by omega⟩
 rw [sw_get (by omega) (by omega)]
 by_cases e : a = p
 ·rw [if_pos e, e]
 ·rw [if_neg e, if_pos rfl]
theorem eqL2 {l m : List Int} {a b i j L : Nat} {v : Int} (hL : l.length = L) (hb : b ≤ l.length) (hl : l.length ≤ 1000000) {r st ss s0 : Nat} {H : List Ob} {lp : List Lp} (hr : r < H.length) (hp : EInv l m a b v i j) {z : Nat} (hz : z = i) {d : AV} {A : List (Nat × AV)} (hA : (look d 0 A = .sl r st [] s0 0 L ∧ look d 1 A = I a ∧ look d 9 A = I i ∧ look d 10 A = I j)) {B : Nat} :
 Wp G l_slices_partitionEqualOrdered_int__2 B ⟨aT d 84 A, dh H r st ss m, lp⟩ (fun e σ => e = .ext 2 ∧ ∃ (i : Nat) (A : List (Nat × AV)), z ≤ i ∧ EInv l m a b v i j ∧ (i ≤ j → m[a]! < m[i]!) ∧ (look .undef 0 A = .sl r st [] s0 0 L ∧ look .undef 1 A = I a ∧ look .undef 9 A = I i ∧ look .undef 10 A = I j) ∧ σ = ⟨aT .undef 84 A, dh H r st ss m, lp⟩) := by
 subst hL
 obtain ⟨h0, h1, h2, h3⟩ := hA
 have hle : z ≤ i := by omega
 refine wp_loopQ (fun (i : Nat) σ => z ≤ i ∧ EInv l m a b v i j ∧ σ = ⟨aT .undef 84 [(0, .sl r st [] s0 0 l.length), (1, I a), (9, I i), (10, I j)], dh H r st ss m, lp⟩) (fun i => j + 1 - i) ?_ i ?_
 ·rintro i σ ⟨hzx, hp, rfl⟩ N Q hQ hN
  have b0 := hp.ai; have b1 := hp.ij; have b2 := hp.jb; have b3 := hp.aj
  have hml := hp.seg.len
  have b4 : a < l.length := by omega
  have b4' : a < m.length := by omega
  by_cases hij : i ≤ j
  ·have b5 : i < l.length := by omega
   have b5' : i < m.length := by omega
   have w1 : IntKind.i64.wrap ((i : Int) + 1) = ((i + 1 : Nat) : Int) := by rw [wrapI] <;> omega
   by_cases hlt : m[a]! < m[i]!
   ·subst hQ
    simp only [go_sem, ↓reduceIte, ↓gA, ↓gB, ↓gC, ↓gD, ↓cA, ↓cB, Int.ofNat_le, Int.ofNat_lt, hij, b4, b4', b5, b5', dh_get hr, hlt]
    exact ⟨i, _, hzx, hp, fun _ => hlt, by simp only [go_sem, ↓reduceIte, ↓gA, ↓gB, ↓gC, ↓gD, ↓cA, ↓cB], rfl⟩
   ·simp only [go_sem, ↓reduceIte, ↓gA, ↓gB, ↓gC, ↓gD, ↓cA, ↓cB, Int.ofNat_le, Int.ofNat_lt, hij, b4, b4', b5, b5', dh_get hr, hlt, w1]
    refine hN (i + 1) _ (by omega) ⟨by omega, hp.up hij hlt, ?_⟩
    simp only [go_sem, ↓reduceIte, ↓gA, ↓gB, ↓gC, ↓gD, ↓cA, ↓cB]
  ·subst hQ
   simp only [go_sem, ↓reduceIte, ↓gA, ↓gB, ↓gC, ↓gD, ↓cA, ↓cB, Int.ofNat_le, hij]
   exact ⟨i, _, hzx, hp, fun h => absurd h hij, by simp only [go_sem, ↓reduceIte, ↓gA, ↓gB, ↓gC, ↓gD, ↓cA, ↓cB], rfl⟩
 ·refine ⟨hle, hp, ?_⟩
  simp only [go_sem, ↓reduceIte, ↓gA, ↓gB, ↓gC, ↓gD, ↓cA, ↓cB, h0, h1, h2, h3]
theorem eqL4 {l m : List Int} {a b i j L : Nat} {v : Int} (hL : l.length = L) (hb : b ≤ l.length) (hl : l.length ≤ 1000000) {r st ss s0 : Nat} {H : List Ob} {lp : List Lp} (hr : r < H.length) (hp : EInv l m a b v i j) {z : Nat} (hz : z = j) {d : AV} {A : List (Nat × AV)} (hA : (look d 0 A = .sl r st [] s0 0 L ∧ look d 1 A = I a ∧ look d 9 A = I i ∧ look d 10 A = I j)) {B : Nat} :
 Wp G l_slices_partitionEqualOrdered_int__4 B ⟨aT d 84 A, dh H r st ss m, lp⟩ (fun e σ => e = .ext 4 ∧ ∃ (j : Nat) (A : List (Nat × AV)), j ≤ z ∧ EInv l m a b v i j ∧ (i ≤ j → ¬ m[a]! < m[j]!) ∧ (look .undef 0 A = .sl r st [] s0 0 L ∧ look .undef 1 A = I a ∧ look .undef 9 A = I i ∧ look .undef 10 A = I j) ∧ σ = ⟨aT .undef 84 A, dh H r st ss m, lp⟩) := by
 subst hL
 obtain ⟨h0, h1, h2, h3⟩ := hA
 have hle : j ≤ z := by omega
 refine wp_loopQ (fun (j : Nat) σ => j ≤ z ∧ EInv l m a b v i j ∧ σ = ⟨aT .undef 84 [(0, .sl r st [] s0 0 l.length), (1, I a), (9, I i), (10, I j)], dh H r st ss m, lp⟩) (fun j => j + 1 - i) ?_ j ?_
 ·rintro j σ ⟨hzx, hp, rfl⟩ N Q hQ hN
  have b0 := hp.ai; have b1 := hp.ij; have b2 := hp.jb; have b3 := hp.aj
  have hml := hp.seg.len
  have b4 : a < l.length := by omega
  have b4' : a < m.length := by omega
  by_cases hij : i ≤ j
  ·have b5 : j < l.length := by omega
   have b5' : j < m.length := by omega
   have w1 : IntKind.i64.wrap ((j : Int) - 1) = ((j - 1 : Nat) : Int) := by rw [wrapI] <;> omega
   by_cases hlt : m[a]! < m[j]!
   ·simp only [go_sem, ↓reduceIte, ↓gA, ↓gB, ↓gC, ↓gD, ↓cA, ↓cB, Int.ofNat_le, Int.ofNat_lt, hij, b4, b4', b5, b5', dh_get hr, hlt, w1]
    refine hN (j - 1) _ (by omega) ⟨by omega, hp.down hij hlt, ?_⟩
    simp only [go_sem, ↓reduceIte, ↓gA, ↓gB, ↓gC, ↓gD, ↓cA, ↓cB]
   ·subst hQ
    simp only [go_sem, ↓reduceIte, ↓gA, ↓gB, ↓gC, ↓gD, ↓cA, ↓cB, Int.ofNat_le, Int.ofNat_lt, hij, b4, b4', b5, b5', dh_get hr, hlt]
    exact ⟨j, _, hzx, hp, fun _ => hlt, by simp only [go_sem, ↓reduceIte, ↓gA, ↓gB, ↓gC, ↓gD, ↓cA, ↓cB], rfl⟩
  ·subst hQ
   simp only [go_sem, ↓reduceIte, ↓gA, ↓gB, ↓gC, ↓gD, ↓cA, ↓cB, Int.ofNat_le, hij]
   exact ⟨j, _, hzx, hp, fun h => absurd h hij, by simp only [go_sem, ↓reduceIte, ↓gA, ↓gB, ↓gC, ↓gD, ↓cA, ↓cB], rfl⟩
 ·refine ⟨hle, hp, ?_⟩
  simp only [go_sem, ↓reduceIte, ↓gA, ↓gB, ↓gC, ↓gD, ↓cA, ↓cB, h0, h1, h2, h3]
theorem eqL0 {l m : List Int} {a b i j L : Nat} {v : Int} (hL : l.length = L) (hb : b ≤ l.length) (hl : l.length ≤ 1000000) {r st ss s0 : Nat} {H : List Ob} {lp : List Lp} (hr : r < H.length) (hp : EInv l m a b v i j) {d : AV} {A : List (Nat × AV)} (hA : (look d 0 A = .sl r st [] s0 0 L ∧ look d 1 A = I a ∧ look d 9 A = I i ∧ look d 10 A = I j)) {B : Nat} :
 Wp G l_slices_partitionEqualOrdered_int__0 B ⟨aT d 84 A, dh H r st ss m, lp⟩ (fun e σ => e = .ext 0 ∧ ∃ (m : List Int) (i j : Nat) (A : List (Nat × AV)), EInv l m a b v i j ∧ ¬ i ≤ j ∧ (look .undef 0 A = .sl r st [] s0 0 L ∧ look .undef 1 A = I a ∧ look .undef 9 A = I i ∧ look .undef 10 A = I j) ∧ σ = ⟨aT .undef 84 A, dh H r st ss m, lp⟩) := by
 subst hL
 obtain ⟨h0, h1, h2, h3⟩ := hA
 refine wp_loopQ (fun (g : Nat × Nat × List Int) σ => EInv l g.2.2 a b v g.1 g.2.1 ∧ σ = ⟨aT .undef 84 [(0, .sl r st [] s0 0 l.length), (1, I a), (9, I g.1), (10, I g.2.1)], dh H r st ss g.2.2, lp⟩) (fun g => g.2.1 + 1 - g.1) ?_ (i, j, m) ?_
 ·rintro ⟨i, j, m⟩ σ ⟨hp, rfl⟩ N Q hQ hN
  simp only at hp ⊢
  simp only [go_sem, ↓reduceIte, ↓gA, ↓gB, ↓gC, ↓gD, ↓cA, ↓cB]
  refine (eqL2 (s0 := s0) rfl hb hl hr hp rfl (by simp only [go_sem, ↓reduceIte, ↓gA, ↓gB, ↓gC, ↓gD, ↓cA, ↓cB])).mono ?_
  rintro e σ ⟨rfl, i', A, hzi, hp, hex, ⟨h0, h1, h2, h3⟩, rfl⟩
  simp only [go_sem, ↓reduceIte, ↓gA, ↓gB, ↓gC, ↓gD, ↓cA, ↓cB]
  refine (eqL4 rfl hb hl hr hp rfl ⟨h0, h1, h2, h3⟩).mono ?_
  rintro e σ ⟨rfl, j', A, hzj, hp, hex2, ⟨h0, h1, h2, h3⟩, rfl⟩
  have b0 := hp.ai; have b1 := hp.ij; have b2 := hp.jb; have b3 := hp.aj
  have hml := hp.seg.len
  by_cases hij : i' ≤ j'
  ·have hgt : ¬ j' < i' := by omega
   have b5 : i' < l.length := by omega
   have b5' : i' < m.length := by omega
   have b6 : j' < l.length := by omega
   have b6' : j' < m.length := by omega
   have w2 : IntKind.i64.wrap ((i' : Int) + 1) = ((i' + 1 : Nat) : Int) := by rw [wrapI] <;> omega
   have w3 : IntKind.i64.wrap ((j' : Int) - 1) = ((j' - 1 : Nat) : Int) := by rw [wrapI] <;> omega
   simp only [go_sem, ↓reduceIte, ↓gA, ↓gB, ↓gC, ↓gD, ↓cA, ↓cB, h0, h1, h2, h3, Int.ofNat_lt, hgt, b5, b5', b6, b6', dh_get hr, w2, w3]
   refine ⟨by simpa using b6', hN (i' + 1, j' - 1, sw m i' j') _ (by simp only; omega) ⟨hp.swap hb hij (hex (by omega)) (hex2 hij), ?_⟩⟩
   simp only [go_sem, ↓reduceIte, ↓gA, ↓gB, ↓gC, ↓gD, ↓cA, ↓cB, h0, h1, sw]
  ·have hgt : j' < i' := by omega
   subst hQ
   simp only [go_sem, ↓reduceIte, ↓gA, ↓gB, ↓gC, ↓gD, ↓cA, ↓cB, h0, h1, h2, h3, Int.ofNat_lt, hgt]
   exact ⟨m, i', j', _, hp, hij, by simp only [go_sem, ↓reduceIte, ↓gA, ↓gB, ↓gC, ↓gD, ↓cA, ↓cB, h0, h1, h2, h3], rfl⟩
 ·refine ⟨hp, ?_⟩
  simp only [go_sem, ↓reduceIte, ↓gA, ↓gB, ↓gC, ↓gD, ↓cA, ↓cB, h0, h1, h2, h3]
theorem eqI_ok {l : List Int} {a b p : Nat} (hap : a ≤ p) (hpb : p < b) (hb : b ≤ l.length) (hl : l.length ≤ 1000000) {t : List AV} {lp : List Lp} {H : List Ob} {r st ss s0 bs : Nat} {K : AV → St → Prop} {L : Nat} (hL : l.length = L) (hr : r < H.length)
 (hK : ∀ l' i, EPost l l' a b l[p]! i → K (I (i : Nat)) ⟨t, dh H r st ss l', lp⟩) : WpCall G f_slices_partitionEqualOrdered_int_ [.sl r st [] s0 0 L, I a, I b, I p] bs [] ⟨t, dh H r st ss l, lp⟩ K := by
 subst hL
 refine wpCall_S g_slices_partitionEqualOrdered_int_ rfl ?_
 rw [entry_aT (by simp)]
 have wa : IntKind.i64.wrap ((a : Int) + 1) = ((a + 1 : Nat) : Int) := by rw [wrapI] <;> omega
 have wb : IntKind.i64.wrap ((b : Int) - 1) = ((b - 1 : Nat) : Int) := by rw [wrapI] <;> omega
 have a1 : a < l.length := by omega
 have p1 : p < l.length := by omega
 simp only [go_sem, ↓reduceIte, ↓gA, ↓gB, ↓gC, ↓gD, ↓cA, ↓cB, c_slices_partitionEqualOrdered_int_, wa, wb, a1, p1, dh_get hr, Int.ofNat_lt]
 refine ⟨by simpa using p1, ?_⟩
 have hst := EInv.start (l := l) hb hap hpb
 have hsw : (l.set a l[p]!).set p l[a]! = sw l a p := rfl
 rw [hsw]
 refine (eqL0 (s0 := s0) rfl hb hl hr hst (by simp only [go_sem, ↓reduceIte, ↓gA, ↓gB, ↓gC, ↓gD, ↓cA, ↓cB])).mono ?_
 rintro e σ ⟨rfl, n, i2, j2, A, hp, hij2, ⟨h0, h1, h2, h3⟩, rfl⟩
 simp only [go_sem, ↓reduceIte, ↓gA, ↓gB, ↓gC, ↓gD, ↓cA, ↓cB, h0, h1, h2, h3]
 exact hK _ i2 (hp.fin hij2)
theorem revI_ok {l : List Int} {a b : Nat} (hab : a < b) (hb : b ≤ l.length) (hl : l.length ≤ 1000000) {t : List AV} {lp : List Lp} {H : List Ob} {r st ss s0 bs : Nat} {K : AV → St → Prop} {L : Nat} (hL : l.length = L) (hr : r < H.length)
 (hK : ∀ l', SegP l l' a b → K (.tup []) ⟨t, dh H r st ss l', lp⟩) : WpCall G f_slices_reverseRangeOrdered_int_ [.sl r st [] s0 0 L, I a, I b] bs [] ⟨t, dh H r st ss l, lp⟩ K := by
 subst hL
 refine wpCall_S g_slices_reverseRangeOrdered_int_ rfl ?_
 rw [entry_aT (by simp)]
 have wb : IntKind.i64.wrap ((b : Int) - 1) = ((b - 1 : Nat) : Int) := by rw [wrapI] <;> omega
 simp only [go_sem, ↓reduceIte, ↓gA, ↓gB, ↓gC, ↓gD, ↓cA, ↓cB, c_slices_reverseRangeOrdered_int_, wb]
 refine wp_loopQ (fun (g : Nat × Nat × List Int) σ => SegP l g.2.2 a b ∧ a ≤ g.1 ∧ g.2.1 < b ∧ g.1 ≤ b ∧ σ = ⟨aT .undef 32 [(0, .sl r st [] s0 0 l.length), (6, I g.1), (7, I g.2.1)], dh H r st ss g.2.2, lp⟩) (fun g => g.2.1 + 1 - g.1) ?_ (a, b - 1, l) ?_
 ·rintro ⟨i, j, m⟩ σ ⟨hp, h1, h2, h3, rfl⟩ N Q hQ hN
  simp only at hp h1 h2 h3 ⊢
  have hml := hp.len
  by_cases hij : i < j
  ·have b5 : i < l.length := by omega
   have b5' : i < m.length := by omega
   have b6 : j < l.length := by omega
   have b6' : j < m.length := by omega
   have w2 : IntKind.i64.wrap ((i : Int) + 1) = ((i + 1 : Nat) : Int) := by rw [wrapI] <;> omega
   have w3 : IntKind.i64.wrap ((j : Int) - 1) = ((j - 1 : Nat) : Int) := by rw [wrapI] <;> omega
   simp only [go_sem, ↓reduceIte, ↓gA, ↓gB, ↓gC, ↓gD, ↓cA, ↓cB, Int.ofNat_lt, hij, b5, b5', b6, b6', dh_get hr, w2, w3]
   refine ⟨by simpa using b6', hN (i + 1, j - 1, sw m i j) _ (by simp only; omega) ⟨hp.tr (sw_seg b5' b6' h1 (by omega) (by omega) h2), by simp only; omega, by simp only; omega, by simp only; omega, ?_⟩⟩
   simp only [go_sem, ↓reduceIte, ↓gA, ↓gB, ↓gC, ↓gD, ↓cA, ↓cB, sw]
  ·subst hQ
   simp only [go_sem, ↓reduceIte, ↓gA, ↓gB, ↓gC, ↓gD, ↓cA, ↓cB, Int.ofNat_lt, hij]
   exact hK m hp
 ·refine ⟨SegP.refl, Nat.le_refl _, by simp only; omega, by simp only; omega, ?_⟩
  simp only [go_sem, ↓reduceIte, ↓gA, ↓gB, ↓gC, ↓gD, ↓cA, ↓cB]
end Go.Mw
/- Sorting rows of numbers: a part that is nearly sorted. -/
namespace Go.Mw
set_option maxRecDepth 100000
def Low (l : List Int) (a b : Nat) : Prop := a = 0 ∨ ∀ i, a ≤ i → i < b → ¬ l[i]! < l[a-1]!
theorem Low.seg {l m : List Int} {a b : Nat} (h : Low l a b) (hs : SegP l m a b) : Low m a b := by
 rcases h with h | h
 ·exact .inl h
 ·by_cases h0 : a = 0
  ·exact .inl h0
  refine .inr (fun i h1 h2 => ?_)
  rw [hs.out (a - 1) (by omega)]
  exact hs.all (fun x => ¬ x < l[a-1]!) h i h1 h2
theorem Srt.swR {m : List Int} {a i j : Nat} (h : Srt ltI m a i) (hj : i < j) (hl : j < m.length) : Srt ltI (sw m j (j - 1)) a i := by
 intro p q h1 h2 h3
 rw [sw_get (by omega) (by omega), sw_get (by omega) (by omega), if_neg (by omega), if_neg (by omega), if_neg (by omega), if_neg (by omega)]
 exact h p q h1 h2 h3
theorem Srt.snoc {m : List Int} {a i : Nat} (h : Srt ltI m a i) (ha : a < i) (hl : ¬ m[i]! < m[i-1]!) : Srt ltI m a (i + 1) := by
 have := (Hole.start h).fin to_ltI (by omega) (Nat.le_refl _) (.inr (by unfold ltI; rw [decide_eq_false_iff_not]; exact hl))
 exact this
theorem Srt.sub {m : List Int} {a i c d : Nat} (h : Srt ltI m a i) (h1 : a ≤ c) (h2 : d ≤ i) : Srt ltI m c d := fun p q g1 g2 g3 => h p q (by omega) g2 (by omega)
theorem Srt.swL {m : List Int} {a i : Nat} (h : Srt ltI m a i) (hi : i < m.length) : Srt ltI (sw m i (i - 1)) a (i - 1) := by
 intro p q h1 h2 h3
 rw [sw_get (by omega) (by omega), sw_get (by omega) (by omega), if_neg (by omega), if_neg (by omega), if_neg (by omega), if_neg (by omega)]
 exact h p q h1 h2 (by omega)
def PL (d : AV) (A : List (Nat × AV)) (r st s0 L a b i c : Nat) : Prop := look d 0 A = .sl r st [] s0 0 L ∧ look d 1 A = I a ∧ look d 2 A = I b ∧ look d 7 A = I i ∧ look d 8 A = I c
theorem piL2 {m : List Int} {a b i c L : Nat} (hL : m.length = L) (hb : b ≤ m.length) (hl : m.length ≤ 1000000) {r st ss s0 : Nat} {H : List Ob} {lp : List Lp} (hr : r < H.length) (hai : a + 1 ≤ i) (hib : i ≤ b) (hs : Srt ltI m a i) {d : AV} {A : List (Nat × AV)} (hA : PL d A r st s0 L a b i c) {B : Nat} :
 Wp G l_slices_partialInsertionSortOrdered_int__2 B ⟨aT d 133 A, dh H r st ss m, lp⟩ (fun e σ => e = .ext 2 ∧ ∃ (i : Nat) (A : List (Nat × AV)), a + 1 ≤ i ∧ i ≤ b ∧ Srt ltI m a i ∧ (i < b → m[i]! < m[i-1]!) ∧ PL .undef A r st s0 L a b i c ∧ σ = ⟨aT .undef 133 A, dh H r st ss m, lp⟩) := by
 subst hL
 obtain ⟨h0, h1, h2, h3, h4⟩ := hA
 refine wp_loopQ (fun (i : Nat) σ => a + 1 ≤ i ∧ i ≤ b ∧ Srt ltI m a i ∧ σ = ⟨aT .undef 133 [(0, .sl r st [] s0 0 m.length), (1, I a), (2, I b), (7, I i), (8, I c)], dh H r st ss m, lp⟩) (fun i => b - i) ?_ i ?_
 ·rintro i σ ⟨g1, g2, g3, rfl⟩ N Q hQ hN
  by_cases hij : i < b
  ·have b5 : i < m.length := by omega
   have b6 : i - 1 < m.length := by omega
   have w1 : IntKind.i64.wrap ((i : Int) + 1) = ((i + 1 : Nat) : Int) := by rw [wrapI] <;> omega
   have w2 : IntKind.i64.wrap ((i : Int) - 1) = ((i - 1 : Nat) : Int) := by rw [wrapI] <;> omega
   by_cases hlt : m[i]! < m[i-1]!
   ·subst hQ
    simp only [go_sem, ↓reduceIte, ↓gA, ↓gB, ↓gC, ↓gD, ↓cA, ↓cB, Int.ofNat_lt, hij, b5, b6, dh_get hr, hlt, w2]
    exact ⟨i, _, g1, g2, g3, fun _ => hlt, by unfold PL; simp only [go_sem, ↓reduceIte, ↓gA, ↓gB, ↓gC, ↓gD, ↓cA, ↓cB], rfl⟩
   ·simp only [go_sem, ↓reduceIte, ↓gA, ↓gB, ↓gC, ↓gD, ↓cA, ↓cB, Int.ofNat_lt, hij, b5, b6, dh_get hr, hlt, w1, w2]
    refine hN (i + 1) _ (by omega) ⟨by omega, by omega, g3.snoc (by omega) hlt, ?_⟩
    simp only [go_sem, ↓reduceIte, ↓gA, ↓gB, ↓gC, ↓gD, ↓cA, ↓cB]
  ·subst hQ
   simp only [go_sem, ↓reduceIte, ↓gA, ↓gB, ↓gC, ↓gD, ↓cA, ↓cB, Int.ofNat_lt, hij]
   exact ⟨i, _, g1, g2, g3, fun h => absurd h hij, by unfold PL; simp only [go_sem, ↓reduceIte, ↓gA, ↓gB, ↓gC, ↓gD, ↓cA, ↓cB], rfl⟩
 ·refine ⟨hai, hib, hs, ?_⟩
  simp only [go_sem, ↓reduceIte, ↓gA, ↓gB, ↓gC, ↓gD, ↓cA, ↓cB, h0, h1, h2, h3, h4]
theorem piL4 {l m : List Int} {a b i c L : Nat} (hL : l.length = L) (hb : b ≤ l.length) (hl : l.length ≤ 1000000) {r st ss s0 : Nat} {H : List Ob} {lp : List Lp} (hr : r < H.length) (hai : a + 2 ≤ i) (hib : i < b) (hlow : Low l a b) (hseg : SegP l m a b) (hs : Srt ltI m a (i - 1)) {d : AV} {A : List (Nat × AV)} (hA : PL d A r st s0 L a b i c) (h5 : look d 9 A = I (i - 1 : Nat)) {B : Nat} :
 Wp G l_slices_partialInsertionSortOrdered_int__4 B ⟨aT d 133 A, dh H r st ss m, lp⟩ (fun e σ => e = .ext 4 ∧ ∃ (m : List Int) (A : List (Nat × AV)), SegP l m a b ∧ Srt ltI m a i ∧ PL .undef A r st s0 L a b i c ∧ σ = ⟨aT .undef 133 A, dh H r st ss m, lp⟩) := by
 subst hL
 obtain ⟨h0, h1, h2, h3, h4⟩ := hA
 refine wp_loopQ (fun (g : Nat × List Int) σ => (a ≤ g.1 ∧ g.1 ≤ i - 1) ∧ SegP l g.2 a b ∧ Hole ltI g.2 a (i - 1) g.1 ∧ σ = ⟨aT .undef 133 [(0, .sl r st [] s0 0 l.length), (1, I a), (2, I b), (7, I i), (8, I c), (9, I g.1)], dh H r st ss g.2, lp⟩) (fun g => g.1) ?_ (i - 1, m) ?_
 ·rintro ⟨j, n⟩ σ ⟨⟨hj1, hj2⟩, hn, hh, rfl⟩ N Q hQ hN
  simp only at hj1 hj2 hn hh ⊢
  have hnl := hn.len
  have hi1 : i - 1 + 1 = i := by omega
  by_cases hj : 1 ≤ j
  ·have hj' : (1 : Int) ≤ (j : Int) := by omega
   have hj0 : j < n.length := by omega
   have hj3 : j - 1 < n.length := by omega
   have w1 : IntKind.i64.wrap ((j : Int) - 1) = ((j - 1 : Nat) : Int) := by rw [wrapI] <;> omega
   have hjl : j < l.length := by omega
   have hjl1 : j - 1 < l.length := by omega
   by_cases hlt : n[j]! < n[j-1]!
   ·have haj : a < j := by
     rcases hlow.seg hn with h | h
     ·omega
     ·refine Nat.lt_of_le_of_ne hj1 (fun e => ?_)
      subst e
      exact h _ (Nat.le_refl _) (by omega) hlt
    simp only [go_sem, ↓reduceIte, ↓gA, ↓gB, ↓gC, ↓gD, ↓cA, ↓cB, hj', Int.ofNat_lt, hjl, hjl1, hj0, hj3, w1, dh_get hr, hlt]
    refine ⟨by simpa using hj3, hN (j - 1, sw n j (j - 1)) _ (by simp only; omega) ⟨⟨by simp only; omega, by simp only; omega⟩, hn.tr (sw_seg hj0 hj3 (by omega) (by omega) (by omega) (by omega)), hh.step to_ltI haj hj2 (by omega) (by unfold ltI; rw [decide_eq_true_eq]; exact hlt), ?_⟩⟩
    simp only [go_sem, ↓reduceIte, ↓gA, ↓gB, ↓gC, ↓gD, ↓cA, ↓cB, sw]
   ·subst hQ
    simp only [go_sem, ↓reduceIte, ↓gA, ↓gB, ↓gC, ↓gD, ↓cA, ↓cB, hj', Int.ofNat_lt, hjl, hjl1, hj0, hj3, w1, dh_get hr, hlt]
    refine ⟨n, _, hn, ?_, by unfold PL; simp only [go_sem, ↓reduceIte, ↓gA, ↓gB, ↓gC, ↓gD, ↓cA, ↓cB], rfl⟩
    have := hh.fin to_ltI hj1 hj2 (.inr (by unfold ltI; rw [decide_eq_false_iff_not]; exact hlt))
    rw [hi1] at this; exact this
  ·subst hQ
   have hj' : ¬ (1 : Int) ≤ (j : Int) := by omega
   simp only [go_sem, ↓reduceIte, ↓gA, ↓gB, ↓gC, ↓gD, ↓cA, ↓cB, hj']
   refine ⟨n, _, hn, ?_, by unfold PL; simp only [go_sem, ↓reduceIte, ↓gA, ↓gB, ↓gC, ↓gD, ↓cA, ↓cB], rfl⟩
   have := hh.fin to_ltI hj1 hj2 (.inl (by omega))
   rw [hi1] at this; exact this
 ·refine ⟨⟨by simp only; omega, Nat.le_refl _⟩, hseg, Hole.start hs, ?_⟩
  simp only [go_sem, ↓reduceIte, ↓gA, ↓gB, ↓gC, ↓gD, ↓cA, ↓cB, h0, h1, h2, h3, h4, h5]
theorem piL6 {l m : List Int} {a b i c L : Nat} (hL : l.length = L) (hb : b ≤ l.length) (hl : l.length ≤ 1000000) {r st ss s0 : Nat} {H : List Ob} {lp : List Lp} (hr : r < H.length) (hai : a + 1 ≤ i) (hib : i + 1 ≤ b) (hseg : SegP l m a b) (hs : Srt ltI m a i) {d : AV} {A : List (Nat × AV)} (hA : PL d A r st s0 L a b i c) (h5 : look d 10 A = I (i + 1 : Nat)) {B : Nat} :
 Wp G l_slices_partialInsertionSortOrdered_int__6 B ⟨aT d 133 A, dh H r st ss m, lp⟩ (fun e σ => e = .ext 6 ∧ ∃ (m : List Int) (A : List (Nat × AV)), SegP l m a b ∧ Srt ltI m a i ∧ PL .undef A r st s0 L a b i c ∧ σ = ⟨aT .undef 133 A, dh H r st ss m, lp⟩) := by
 subst hL
 obtain ⟨h0, h1, h2, h3, h4⟩ := hA
 refine wp_loopQ (fun (g : Nat × List Int) σ => (i + 1 ≤ g.1 ∧ g.1 ≤ b) ∧ SegP l g.2 a b ∧ Srt ltI g.2 a i ∧ σ = ⟨aT .undef 133 [(0, .sl r st [] s0 0 l.length), (1, I a), (2, I b), (7, I i), (8, I c), (10, I g.1)], dh H r st ss g.2, lp⟩) (fun g => b - g.1) ?_ (i + 1, m) ?_
 ·rintro ⟨j, n⟩ σ ⟨⟨hj1, hj2⟩, hn, hh, rfl⟩ N Q hQ hN
  simp only at hj1 hj2 hn hh ⊢
  have hnl := hn.len
  by_cases hj : j < b
  ·have hj0 : j < n.length := by omega
   have hj3 : j - 1 < n.length := by omega
   have w1 : IntKind.i64.wrap ((j : Int) - 1) = ((j - 1 : Nat) : Int) := by rw [wrapI] <;> omega
   have w2 : IntKind.i64.wrap ((j : Int) + 1) = ((j + 1 : Nat) : Int) := by rw [wrapI] <;> omega
   have hjl : j < l.length := by omega
   have hjl1 : j - 1 < l.length := by omega
   by_cases hlt : n[j]! < n[j-1]!
   ·simp only [go_sem, ↓reduceIte, ↓gA, ↓gB, ↓gC, ↓gD, ↓cA, ↓cB, hj, Int.ofNat_lt, hjl, hjl1, hj0, hj3, w1, w2, dh_get hr, hlt]
    refine ⟨by simpa using hj3, hN (j + 1, sw n j (j - 1)) _ (by simp only; omega) ⟨⟨by simp only; omega, by simp only; omega⟩, hn.tr (sw_seg hj0 hj3 (by omega) (by omega) (by omega) (by omega)), hh.swR (by omega) hj0, ?_⟩⟩
    simp only [go_sem, ↓reduceIte, ↓gA, ↓gB, ↓gC, ↓gD, ↓cA, ↓cB, sw]
   ·subst hQ
    simp only [go_sem, ↓reduceIte, ↓gA, ↓gB, ↓gC, ↓gD, ↓cA, ↓cB, hj, Int.ofNat_lt, hjl, hjl1, hj0, hj3, w1, w2, dh_get hr, hlt]
    exact ⟨n, _, hn, hh, by unfold PL; simp only [go_sem, ↓reduceIte, ↓gA, ↓gB, ↓gC, ↓gD, ↓cA, ↓cB], rfl⟩
  ·subst hQ
   simp only [go_sem, ↓reduceIte, ↓gA, ↓gB, ↓gC, ↓gD, ↓cA, ↓cB, hj, Int.ofNat_lt]
   exact ⟨n, _, hn, hh, by unfold PL; simp only [go_sem, ↓reduceIte, ↓gA, ↓gB, ↓gC, ↓gD, ↓cA, ↓cB], rfl⟩
 ·refine ⟨⟨Nat.le_refl _, hib⟩, hseg, hs, ?_⟩
  simp only [go_sem, ↓reduceIte, ↓gA, ↓gB, ↓gC, ↓gD, ↓cA, ↓cB, h0, h1, h2, h3, h4, h5]
theorem piI_ok {l : List Int} {a b : Nat} (hab : a < b) (hb : b ≤ l.length) (hl : l.length ≤ 1000000) (hlow : Low l a b) {t : List AV} {lp : List Lp} {H : List Ob} {r st ss s0 bs : Nat} {K : AV → St → Prop} {L : Nat} (hL : l.length = L) (hr : r < H.length)
 (hK : ∀ l' q, SegP l l' a b → (q = true → Srt ltI l' a b) → K (Bo q) ⟨t, dh H r st ss l', lp⟩) : WpCall G f_slices_partialInsertionSortOrdered_int_ [.sl r st [] s0 0 L, I a, I b] bs [] ⟨t, dh H r st ss l, lp⟩ K := by
 subst hL
 refine wpCall_S g_slices_partialInsertionSortOrdered_int_ rfl ?_
 rw [entry_aT (by simp)]
 have wa : IntKind.i64.wrap ((a : Int) + 1) = ((a + 1 : Nat) : Int) := by rw [wrapI] <;> omega
 have wba : IntKind.i64.wrap ((b : Int) - (a : Int)) = ((b - a : Nat) : Int) := by rw [wrapI] <;> omega
 simp only [go_sem, ↓reduceIte, ↓gA, ↓gB, ↓gC, ↓gD, ↓cA, ↓cB, c_slices_partialInsertionSortOrdered_int_, wa]
 refine wp_loopQ (fun (g : Nat × Nat × List Int) σ => (g.1 ≤ 5 ∧ a + 1 ≤ g.2.1 ∧ g.2.1 ≤ b) ∧ SegP l g.2.2 a b ∧ Srt ltI g.2.2 a g.2.1 ∧ σ = ⟨aT .undef 133 [(0, .sl r st [] s0 0 l.length), (1, I a), (2, I b), (7, I g.2.1), (8, I g.1)], dh H r st ss g.2.2, lp⟩) (fun g => 5 - g.1) ?_ (0, a + 1, l) ?_
 ·rintro ⟨c, i, m⟩ σ ⟨⟨hc, hi1, hi2⟩, hm, hs, rfl⟩ N Q hQ hN
  simp only at hc hi1 hi2 hm hs ⊢
  have hml := hm.len
  have wc : IntKind.i64.wrap ((c : Int) + 1) = ((c + 1 : Nat) : Int) := by rw [wrapI] <;> omega
  by_cases hc5 : c < 5
  ·have hc5' : (c : Int) < 5 := by omega
   simp only [go_sem, ↓reduceIte, ↓gA, ↓gB, ↓gC, ↓gD, ↓cA, ↓cB, hc5']
   refine (piL2 (s0 := s0) (c := c) hml (by omega) (by omega) hr hi1 hi2 hs (by unfold PL; simp only [go_sem, ↓reduceIte, ↓gA, ↓gB, ↓gC, ↓gD, ↓cA, ↓cB])).mono ?_
   rintro e σ ⟨rfl, i, A, hi1, hi2, hs, hx, ⟨h0, h1, h2, h3, h4⟩, rfl⟩
   by_cases hib : i = b
   ·subst hib
    subst hQ
    simp only [go_sem, ↓reduceIte, ↓gA, ↓gB, ↓gC, ↓gD, ↓cA, ↓cB, h0, h1, h2, h3, h4]
    exact hK m true hm (fun _ => hs)
   ·have hib' : ((i : Int) == (b : Int)) = false := by rw [beq_eq_false_iff_ne]; omega
    by_cases h50 : b - a < 50
    ·have h50' : ((b - a : Nat) : Int) < 50 := by omega
     subst hQ
     simp only [go_sem, ↓reduceIte, ↓gA, ↓gB, ↓gC, ↓gD, ↓cA, ↓cB, h0, h1, h2, h3, h4, hib', wba, h50']
     exact hK m false hm (fun h => by cases h)
    ·have h50' : ¬ ((b - a : Nat) : Int) < 50 := by omega
     have b5 : i < l.length := by omega
     have b6 : i - 1 < l.length := by omega
     have b5' : i < m.length := by omega
     have b6' : i - 1 < m.length := by omega
     have w2 : IntKind.i64.wrap ((i : Int) - 1) = ((i - 1 : Nat) : Int) := by rw [wrapI] <;> omega
     have w3 : IntKind.i64.wrap ((i : Int) - (a : Int)) = ((i - a : Nat) : Int) := by rw [wrapI] <;> omega
     have w4 : IntKind.i64.wrap ((b : Int) - (i : Int)) = ((b - i : Nat) : Int) := by rw [wrapI] <;> omega
     have w5 : IntKind.i64.wrap ((i : Int) + 1) = ((i + 1 : Nat) : Int) := by rw [wrapI] <;> omega
     have hsw : (m.set i m[i-1]!).set (i - 1) m[i]! = sw m i (i - 1) := rfl
     have hm2 : SegP l (sw m i (i - 1)) a b := hm.tr (sw_seg b5' b6' (by omega) (by omega) (by omega) (by omega))
     by_cases hi2' : i - a < 2
     ·have h2' : ¬ (2 : Int) ≤ ((i - a : Nat) : Int) := by omega
      have hs2 : Srt ltI (sw m i (i - 1)) a i := Srt.one (by omega)
      by_cases hbi : b - i < 2
      ·have h3' : ¬ (2 : Int) ≤ ((b - i : Nat) : Int) := by omega
       simp only [go_sem, ↓reduceIte, ↓gA, ↓gB, ↓gC, ↓gD, ↓cA, ↓cB, h0, h1, h2, h3, h4, hib', wba, h50', Int.ofNat_lt, b5, b6, b5', b6', w2, w3, w4, dh_get hr, h2', h3', wc, hsw]
       refine ⟨by simpa using b6', hN (c + 1, i, sw m i (i - 1)) _ (by simp only; omega) ⟨⟨by simp only; omega, hi1, hi2⟩, hm2, hs2, ?_⟩⟩
       simp only [go_sem, ↓reduceIte, ↓gA, ↓gB, ↓gC, ↓gD, ↓cA, ↓cB, h0, h1, h2, h3]
      ·have h3' : (2 : Int) ≤ ((b - i : Nat) : Int) := by omega
       simp only [go_sem, ↓reduceIte, ↓gA, ↓gB, ↓gC, ↓gD, ↓cA, ↓cB, h0, h1, h2, h3, h4, hib', wba, h50', Int.ofNat_lt, b5, b6, b5', b6', w2, w3, w4, w5, dh_get hr, h2', h3', wc, hsw]
       refine ⟨by simpa using b6', ?_⟩
       refine (piL6 (s0 := s0) (c := c) rfl hb hl hr hi1 (by omega) hm2 hs2 (by unfold PL; simp only [go_sem, ↓reduceIte, ↓gA, ↓gB, ↓gC, ↓gD, ↓cA, ↓cB, h0, h1, h2, h3, h4]) (by simp only [go_sem, ↓reduceIte, ↓gA, ↓gB, ↓gC, ↓gD, ↓cA, ↓cB])).mono ?_
       rintro e σ ⟨rfl, n, A, hn, hsn, ⟨h0, h1, h2, h3, h4⟩, rfl⟩
       simp only [go_sem, ↓reduceIte, ↓gA, ↓gB, ↓gC, ↓gD, ↓cA, ↓cB, h0, h1, h2, h3, h4, wc]
       refine hN (c + 1, i, n) _ (by simp only; omega) ⟨⟨by simp only; omega, hi1, hi2⟩, hn, hsn, ?_⟩
       simp only [go_sem, ↓reduceIte, ↓gA, ↓gB, ↓gC, ↓gD, ↓cA, ↓cB, h0, h1, h2, h3]
     ·have h2' : (2 : Int) ≤ ((i - a : Nat) : Int) := by omega
      have hs2 : Srt ltI (sw m i (i - 1)) a (i - 1) := hs.swL b5'
      simp only [go_sem, ↓reduceIte, ↓gA, ↓gB, ↓gC, ↓gD, ↓cA, ↓cB, h0, h1, h2, h3, h4, hib', wba, h50', Int.ofNat_lt, b5, b6, b5', b6', w2, w3, dh_get hr, h2', hsw]
      refine ⟨by simpa using b6', ?_⟩
      refine (piL4 (s0 := s0) (c := c) rfl hb hl hr (by omega) (by omega) hlow hm2 hs2 (by unfold PL; simp only [go_sem, ↓reduceIte, ↓gA, ↓gB, ↓gC, ↓gD, ↓cA, ↓cB, h0, h1, h2, h3, h4]) (by simp only [go_sem, ↓reduceIte, ↓gA, ↓gB, ↓gC, ↓gD, ↓cA, ↓cB])).mono ?_
      rintro e σ ⟨rfl, n, A, hn, hsn, ⟨h0, h1, h2, h3, h4⟩, rfl⟩
      by_cases hbi : b - i < 2
      ·have h3' : ¬ (2 : Int) ≤ ((b - i : Nat) : Int) := by omega
       simp only [go_sem, ↓reduceIte, ↓gA, ↓gB, ↓gC, ↓gD, ↓cA, ↓cB, h0, h1, h2, h3, h4, w4, h3', wc]
       refine hN (c + 1, i, n) _ (by simp only; omega) ⟨⟨by simp only; omega, hi1, hi2⟩, hn, hsn, ?_⟩
       simp only [go_sem, ↓reduceIte, ↓gA, ↓gB, ↓gC, ↓gD, ↓cA, ↓cB, h0, h1, h2, h3]
      ·have h3' : (2 : Int) ≤ ((b - i : Nat) : Int) := by omega
       simp only [go_sem, ↓reduceIte, ↓gA, ↓gB, ↓gC, ↓gD, ↓cA, ↓cB, h0, h1, h2, h3, h4, w4, w5, h3', wc]
       refine (piL6 (s0 := s0) (c := c) rfl hb hl hr hi1 (by omega) hn hsn (by unfold PL; simp only [go_sem, ↓reduceIte, ↓gA, ↓gB, ↓gC, ↓gD, ↓cA, ↓cB, h0, h1, h2, h3, h4]) (by simp only [go_sem, ↓reduceIte, ↓gA, ↓gB, ↓gC, ↓gD, ↓cA, ↓cB])).mono ?_
       rintro e σ ⟨rfl, n, A, hn, hsn, ⟨h0, h1, h2, h3, h4⟩, rfl⟩
       simp only [go_sem, ↓reduceIte, ↓gA, ↓gB, ↓gC, ↓gD, ↓cA, ↓cB, h0, h1, h2, h3, h4, wc]
       refine hN (c + 1, i, n) _ (by simp only; omega) ⟨⟨by simp only; omega, hi1, hi2⟩, hn, hsn, ?_⟩
       simp only [go_sem, ↓reduceIte, ↓gA, ↓gB, ↓gC, ↓gD, ↓cA, ↓cB, h0, h1, h2, h3]
  ·have hc5' : ¬ (c : Int) < 5 := by omega
   subst hQ
   simp only [go_sem, ↓reduceIte, ↓gA, ↓gB, ↓gC, ↓gD, ↓cA, ↓cB, hc5']
   exact hK m false hm (fun h => by cases h)
 ·refine ⟨⟨by simp only; omega, Nat.le_refl _, hab⟩, SegP.refl, Srt.one (by simp only; omega), ?_⟩
  simp only [go_sem, ↓reduceIte, ↓gA, ↓gB, ↓gC, ↓gD, ↓cA, ↓cB]
end Go.Mw
/- Sorting: the length of a number in bits, random numbers. -/
namespace Go.Mw
set_option maxRecDepth 100000
def lenTab : List UInt8 := [0, 1, 2, 2, 3, 3, 3, 3, 4, 4, 4, 4, 4, 4, 4, 4, 5, 5, 5, 5, 5, 5, 5, 5, 5, 5, 5, 5, 5, 5, 5, 5, 6, 6, 6, 6, 6, 6, 6, 6, 6, 6, 6, 6, 6, 6, 6, 6, 6, 6, 6, 6, 6, 6, 6, 6, 6, 6, 6, 6, 6, 6, 6, 6, 7, 7, 7, 7, 7, 7, 7, 7, 7, 7, 7, 7, 7, 7, 7, 7, 7, 7, 7, 7, 7, 7, 7, 7, 7, 7, 7, 7, 7, 7, 7, 7, 7, 7, 7, 7, 7, 7, 7, 7, 7, 7, 7, 7, 7, 7, 7, 7, 7, 7, 7, 7, 7, 7, 7, 7, 7, 7, 7, 7, 7, 7, 7, 7, 8, 8, 8, 8, 8, 8, 8, 8, 8, 8, 8, 8, 8, 8, 8, 8, 8, 8, 8, 8, 8, 8, 8, 8, 8, 8, 8, 8, 8, 8, 8, 8, 8, 8, 8, 8, 8, 8, 8, 8, 8, 8, 8, 8, 8, 8, 8, 8, 8, 8, 8, 8, 8, 8, 8, 8, 8, 8, 8, 8, 8, 8, 8, 8, 8, 8, 8, 8, 8, 8, 8, 8, 8, 8, 8, 8, 8, 8, 8, 8, 8, 8, 8, 8, 8, 8, 8, 8, 8, 8, 8, 8, 8, 8, 8, 8, 8, 8, 8, 8, 8, 8, 8, 8, 8, 8, 8, 8, 8, 8, 8, 8, 8, 8, 8, 8, 8, 8, 8, 8, 8, 8, 8, 8, 8, 8, 8, 8]
theorem lenTab_ok : ∀ n < 256, lenTab[n]!.toNat ≤ 8 ∧ (0 < n → 2 ^ lenTab[n]!.toNat ≤ 2 * n) := by decide +kernel
theorem bshr_u {n k : Nat} (hk : k ≤ 64) : bshr .u64 (n : Int) (k : Int) = ((n / 2 ^ k : Nat) : Int) := by
 unfold bshr
 rw [Int.toNat_natCast, Nat.min_eq_left (show k ≤ IntKind.u64.bits from hk), Int.fdiv_eq_ediv_of_nonneg _ (by exact_mod_cast Nat.zero_le _)]
 norm_cast
theorem wrap_u8 {n : Nat} (h : n < 256) : IntKind.u8.wrap (n : Int) = (n : Int) := by
 have h1 : ∀ n : Nat, n < 256 → IntKind.u8.wrap (n : Int) = (n : Int) := by decide +kernel
 exact h1 _ h
theorem len64_fin {p m : Nat} (hp : p ≤ 16) (hm : m < 256) : AV.int .i64 (IntKind.i64.wrap ((p : Int) + IntKind.i64.wrap ((lenTab[m]!.toNat : Nat) : Int))) = I ((p + lenTab[m]!.toNat : Nat) : Int) := by
 obtain ⟨g1, g2⟩ := lenTab_ok m hm
 have e : IntKind.i64.wrap ((lenTab[m]!.toNat : Nat) : Int) = ((lenTab[m]!.toNat : Nat) : Int) := by rw [wrapI] <;> omega
 have e2 : IntKind.i64.wrap ((p : Int) + ((lenTab[m]!.toNat : Nat) : Int)) = ((p + lenTab[m]!.toNat : Nat) : Int) := by rw [wrapI] <;> omega
 rw [e, e2]
theorem len64_ok (n : Nat) (hn : n ≤ 1000000) : ∃ v : Nat, v ≤ 24 ∧ (0 < n → 2 ^ v ≤ 2 * n) ∧ FnT G f_math_bits_Len64 [.int .u64 n] (I v) := by
 have h1 : ¬ (4294967296 : Int) ≤ (n : Int) := by omega
 have e16 : bshr .u64 (n : Int) 16 = ((n / 2 ^ 16 : Nat) : Int) := bshr_u (n := n) (k := 16) (by omega)
 have e8 : bshr .u64 (n : Int) 8 = ((n / 2 ^ 8 : Nat) : Int) := bshr_u (n := n) (k := 8) (by omega)
 have w16 : IntKind.i64.wrap 16 = 16 := by decide
 have w8 : IntKind.i64.wrap 8 = 8 := by decide
 have w8' : IntKind.i64.wrap (0 + 8) = 8 := by decide
 by_cases hA : 65536 ≤ n
 ·have h2 : (65536 : Int) ≤ (n : Int) := by omega
  obtain ⟨g1, g2⟩ := lenTab_ok (n / 2 ^ 16) (by omega)
  have h3 : ¬ (256 : Int) ≤ ((n / 2 ^ 16 : Nat) : Int) := by omega
  refine ⟨16 + lenTab[n / 2 ^ 16]!.toNat, by omega, fun h0 => ?_, FnP.mk' g_math_bits_Len64 rfl rfl ?_⟩
  ·have := g2 (by omega)
   rw [Nat.pow_add]; omega
  ·simp only [go_sem, ↓reduceIte, ↓gA, ↓gB, ↓gC, ↓gD, ↓cA, ↓cB, c_math_bits_Len64, h1, h2, e16, h3, wrap_u8 (show n / 2 ^ 16 < 256 by omega)]
   exact ⟨by simp; omega, by first | exact len64_fin (p := 16) (by omega) (by omega) | (rw [w16]; exact len64_fin (p := 16) (by omega) (by omega))⟩
 ·have h2 : ¬ (65536 : Int) ≤ (n : Int) := by omega
  by_cases hB : 256 ≤ n
  ·have h3 : (256 : Int) ≤ (n : Int) := by omega
   obtain ⟨g1, g2⟩ := lenTab_ok (n / 2 ^ 8) (by omega)
   refine ⟨8 + lenTab[n / 2 ^ 8]!.toNat, by omega, fun h0 => ?_, FnP.mk' g_math_bits_Len64 rfl rfl ?_⟩
   ·have := g2 (by omega)
    rw [Nat.pow_add]; omega
   ·simp only [go_sem, ↓reduceIte, ↓gA, ↓gB, ↓gC, ↓gD, ↓cA, ↓cB, c_math_bits_Len64, h1, h2, e8, h3, wrap_u8 (show n / 2 ^ 8 < 256 by omega)]
    exact ⟨by simp; omega, by first | exact len64_fin (p := 8) (by omega) (by omega) | (rw [w8]; exact len64_fin (p := 8) (by omega) (by omega)) | (rw [w8']; exact len64_fin (p := 8) (by omega) (by omega))⟩
  ·have h3 : ¬ (256 : Int) ≤ (n : Int) := by omega
   obtain ⟨g1, g2⟩ := lenTab_ok n (by omega)
   refine ⟨0 + lenTab[n]!.toNat, by omega, fun h0 => ?_, FnP.mk' g_math_bits_Len64 rfl rfl ?_⟩
   ·have := g2 (by omega)
    rw [Nat.zero_add]; exact this
   ·simp only [go_sem, ↓reduceIte, ↓gA, ↓gB, ↓gC, ↓gD, ↓cA, ↓cB, c_math_bits_Len64, h1, h2, h3, wrap_u8 (show n < 256 by omega)]
    have key := len64_fin (p := 0) (m := n) (by omega) (by omega)
    rw [Nat.zero_add] at key
    exact ⟨by omega, key⟩
theorem lenN_ok (n : Nat) (hn : n ≤ 1000000) : ∃ v : Nat, v ≤ 24 ∧ (0 < n → 2 ^ v ≤ 2 * n) ∧ FnT G f_math_bits_Len [.int .u64 n] (I v) := by
 obtain ⟨v, h1, h2, h3⟩ := len64_ok n hn
 have hr : ∀ {fr : Bool} {roots : List Nat} {b : Nat} {ss : List Nat} {σ : St} {k : AV → St → Prop}, callT G f_math_bits_Len64 [.int .u64 n] fr roots b ss σ k = k (I v) σ := h3.rule
 refine ⟨v, h1, h2, FnP.mk' g_math_bits_Len rfl rfl ?_⟩
 simp only [go_sem, ↓reduceIte, ↓gA, ↓gB, ↓gC, ↓gD, ↓cA, ↓cB, c_math_bits_Len, hr]
theorem wrap_u64 {n : Nat} (h : n ≤ 1000000) : IntKind.u64.wrap (n : Int) = (n : Int) := by
 exact IntWalk.u64_in _ ⟨by omega, by omega⟩
theorem npow_ok (n : Nat) (h0 : 0 < n) (hn : n ≤ 1000000) : ∃ v : Nat, v ≤ 24 ∧ 2 ^ v ≤ 2 * n ∧ FnT G f_slices_nextPowerOfTwo [I n] (.int .u64 ((2 ^ v : Nat) : Int)) := by
 obtain ⟨v, h1, h2, h3⟩ := lenN_ok n hn
 have hr : ∀ {fr : Bool} {roots : List Nat} {b : Nat} {ss : List Nat} {σ : St} {k : AV → St → Prop}, callT G f_math_bits_Len [.int .u64 n] fr roots b ss σ k = k (I v) σ := h3.rule
 have hs : bshl .u64 1 (v : Int) = ((2 ^ v : Nat) : Int) := by
  have : ∀ v ≤ 24, bshl .u64 1 ((v : Nat) : Int) = ((2 ^ v : Nat) : Int) := by decide
  exact this v h1
 refine ⟨v, h1, h2 h0, FnP.mk' g_slices_nextPowerOfTwo rfl rfl ?_⟩
 simp only [go_sem, ↓reduceIte, ↓gA, ↓gB, ↓gC, ↓gD, ↓cA, ↓cB, c_slices_nextPowerOfTwo, wrap_u64 hn, hr, Int.natCast_nonneg, hs]
end Go.Mw
/- Sorting rows of numbers: pivots, breaking patterns. -/
namespace Go.Mw
set_option maxRecDepth 100000
def dc (H : List Ob) (r st ss : Nat) (n : Int) : List Ob := H.set r ⟨st, ss, .own 1 [.int .u64 n]⟩
theorem dc_get {H : List Ob} {r st ss : Nat} {n : Int} (hr : r < H.length) : (dc H r st ss n)[r]? = some ⟨st, ss, .own 1 [.int .u64 n]⟩ := by unfold dc; rw [List.getElem?_set_self hr]
theorem dc_set {H : List Ob} {r st ss st' ss' : Nat} {n m : Int} : (dc H r st ss n).set r ⟨st', ss', .own 1 [.int .u64 m]⟩ = dc H r st' ss' m := by unfold dc; rw [List.set_set]
theorem dc_len {H : List Ob} {r st ss : Nat} {n : Int} : (dc H r st ss n).length = H.length := by unfold dc; rw [List.length_set]
theorem dc_take {H : List Ob} {r st ss : Nat} {n : Int} : (dc H r st ss n).take H.length = dc H r st ss n := List.take_of_length_le (by rw [dc_len]; exact Nat.le_refl _)
attribute [go_sem] dc_set dc_len dc_take
theorem next_ok {n : Int} {t : List AV} {lp : List Lp} {H : List Ob} {r st ss s0 bs : Nat} {K : AV → St → Prop} (hr : r < H.length)
 (hK : ∀ n', K (.int .u64 n') ⟨t, dc H r st ss n', lp⟩) : WpCall G f___slices_xorshift__Next [.ptr r st [] s0 0 0] bs [] ⟨t, dc H r st ss n, lp⟩ K := by
 refine wpCall_S g___slices_xorshift__Next rfl ?_
 rw [entry_aT (by simp)]
 simp only [go_sem, ↓reduceIte, ↓gA, ↓gB, ↓gC, ↓gD, ↓cA, ↓cB, c___slices_xorshift__Next, dc_get hr]
 exact hK _
theorem dh_set1 {H : List Ob} {r st ss st' ss' : Nat} {n m : Int} : (dh H r st ss [n]).set r ⟨st', ss', .own 1 [.int .i64 m]⟩ = dh H r st' ss' [m] := by unfold dh; rw [List.set_set]; rfl
theorem ord2_ok {l : List Int} {x y : Nat} (hx : x < l.length) (hy : y < l.length) {n : Int} {t : List AV} {lp : List Lp} {H : List Ob} {r st ss s0 bs : Nat} {K : AV → St → Prop} (hr : r < H.length)
 (hK : ∀ n' (z w : Nat), (z = x ∧ w = y ∨ z = y ∧ w = x) → K (.tup [I z, I w]) ⟨t, dh H r st ss [n'], lp⟩) : WpCall G f_slices_order2Ordered_int_ [.lst (l.map I), I x, I y, .ptr r st [] s0 0 0] bs [] ⟨t, dh H r st ss [n], lp⟩ K := by
 refine wpCall_S g_slices_order2Ordered_int_ rfl ?_
 rw [entry_aT (by simp)]
 have hxi : (x : Int) < (l.length : Int) := by omega
 have hyi : (y : Int) < (l.length : Int) := by omega
 simp only [go_sem, ↓reduceIte, ↓gA, ↓gB, ↓gC, ↓gD, ↓cA, ↓cB, c_slices_order2Ordered_int_, dh_get hr, hx, hy, hxi, hyi, dh_set1]
 exact ⟨fun _ => hK _ y x (.inr ⟨rfl, rfl⟩), fun _ => hK _ x y (.inl ⟨rfl, rfl⟩)⟩
theorem med_ok {l : List Int} {x y z : Nat} (hx : x < l.length) (hy : y < l.length) (hz : z < l.length) {n : Int} {t : List AV} {lp : List Lp} {H : List Ob} {r st ss s0 bs : Nat} {K : AV → St → Prop} (hr : r < H.length)
 (hK : ∀ n' (w : Nat), (w = x ∨ w = y ∨ w = z) → K (I w) ⟨t, dh H r st ss [n'], lp⟩) : WpCall G f_slices_medianOrdered_int_ [.lst (l.map I), I x, I y, I z, .ptr r st [] s0 0 0] bs [] ⟨t, dh H r st ss [n], lp⟩ K := by
 refine wpCall_S g_slices_medianOrdered_int_ rfl ?_
 rw [entry_aT (by simp)]
 simp only [go_sem, ↓reduceIte, ↓gA, ↓gB, ↓gC, ↓gD, ↓cA, ↓cB, c_slices_medianOrdered_int_]
 refine ord2_ok hx hy hr (fun n1 x1 y1 h1 => ?_)
 simp only [go_sem, ↓reduceIte, ↓gA, ↓gB, ↓gC, ↓gD, ↓cA, ↓cB]
 refine ord2_ok (show y1 < l.length by omega) hz hr (fun n2 y2 z2 h2 => ?_)
 simp only [go_sem, ↓reduceIte, ↓gA, ↓gB, ↓gC, ↓gD, ↓cA, ↓cB]
 refine ord2_ok (show x1 < l.length by omega) (show y2 < l.length by omega) hr (fun n3 x3 y3 h3 => ?_)
 simp only [go_sem, ↓reduceIte, ↓gA, ↓gB, ↓gC, ↓gD, ↓cA, ↓cB]
 exact hK _ y3 (by omega)
theorem medA_ok {l : List Int} {x : Nat} (h0 : 0 < x) (hx : x + 1 < l.length) (hl : l.length ≤ 1000000) {n : Int} {t : List AV} {lp : List Lp} {H : List Ob} {r st ss s0 bs : Nat} {K : AV → St → Prop} (hr : r < H.length)
 (hK : ∀ n' (w : Nat), (x - 1 ≤ w ∧ w ≤ x + 1) → K (I w) ⟨t, dh H r st ss [n'], lp⟩) : WpCall G f_slices_medianAdjacentOrdered_int_ [.lst (l.map I), I x, .ptr r st [] s0 0 0] bs [] ⟨t, dh H r st ss [n], lp⟩ K := by
 refine wpCall_S g_slices_medianAdjacentOrdered_int_ rfl ?_
 rw [entry_aT (by simp)]
 have w1 : IntKind.i64.wrap ((x : Int) - 1) = ((x - 1 : Nat) : Int) := by rw [wrapI] <;> omega
 have w2 : IntKind.i64.wrap ((x : Int) + 1) = ((x + 1 : Nat) : Int) := by rw [wrapI] <;> omega
 simp only [go_sem, ↓reduceIte, ↓gA, ↓gB, ↓gC, ↓gD, ↓cA, ↓cB, c_slices_medianAdjacentOrdered_int_, w1, w2]
 refine med_ok (by omega) (by omega) (by omega) hr (fun n1 w h => ?_)
 simp only [go_sem, ↓reduceIte, ↓gA, ↓gB, ↓gC, ↓gD, ↓cA, ↓cB]
 exact hK _ w (by omega)
theorem FnP.some {f : FuncId} {xs : List AV} {P : AV → Prop} (h : FnP G f xs fun rs h => P (packV (treeBL 0 h rs)) ∧ rs.all AV.flats = true) : ∃ v, P v ∧ FnT G f xs v := by
 obtain ⟨F, n, rs, σ1, h1, h2, h3, h4, h5, h6, h7, h8⟩ := h.ok
 exact ⟨_, h7, F, n, rs, σ1, h1, h2, h3, h4, h5, h6, rfl, h8⟩
theorem tdiv4 {n : Nat} (h : n ≤ 1000000) : IntKind.i64.wrap (((n : Nat) : Int).tdiv 4) = ((n / 4 : Nat) : Int) := by
 have : ((n : Nat) : Int).tdiv 4 = ((n / 4 : Nat) : Int) := by
  rw [Int.tdiv_eq_ediv_of_nonneg (by omega)]; omega
 rw [this, wrapI] <;> omega
theorem pivI_ok {l : List Int} {a b : Nat} (hab : a < b) (h8 : 8 ≤ b - a) (hb : b ≤ l.length) (hl : l.length ≤ 1000000) : ∃ v, (∃ (p : Nat) (h : Int), v = .tup [I p, I h] ∧ a ≤ p ∧ p < b) ∧ FnT G f_slices_choosePivotOrdered_int_ [.lst (l.map I), I a, I b] v := by
 refine FnP.some (FnP.mk' g_slices_choosePivotOrdered_int_ rfl rfl ?_)
 have h8' : (8 : Int) ≤ ((b - a : Nat) : Int) := by omega
 have w1 : IntKind.i64.wrap ((b : Int) - (a : Int)) = ((b - a : Nat) : Int) := by rw [wrapI] <;> omega
 have w2 := tdiv4 (n := b - a) (by omega)
 have w3 : IntKind.i64.wrap ((((b - a) / 4 : Nat) : Int) * 1) = (((b - a) / 4 : Nat) : Int) := by rw [wrapI] <;> omega
 have w4 : IntKind.i64.wrap ((((b - a) / 4 : Nat) : Int) * 2) = (((b - a) / 4 * 2 : Nat) : Int) := by rw [wrapI] <;> omega
 have w5 : IntKind.i64.wrap ((((b - a) / 4 : Nat) : Int) * 3) = (((b - a) / 4 * 3 : Nat) : Int) := by rw [wrapI] <;> omega
 have v3 : IntKind.i64.wrap ((a : Int) + (((b - a) / 4 : Nat) : Int)) = ((a + (b - a) / 4 : Nat) : Int) := by rw [wrapI] <;> omega
 have v4 : IntKind.i64.wrap ((a : Int) + (((b - a) / 4 * 2 : Nat) : Int)) = ((a + (b - a) / 4 * 2 : Nat) : Int) := by rw [wrapI] <;> omega
 have v5 : IntKind.i64.wrap ((a : Int) + (((b - a) / 4 * 3 : Nat) : Int)) = ((a + (b - a) / 4 * 3 : Nat) : Int) := by rw [wrapI] <;> omega
 have hh : ([⟨1, 0, .own 1 [.int .i64 0]⟩] : List Ob) = dh [goneOb] 0 1 0 [0] := rfl
 have hr : 0 < [goneOb].length := by decide
 have fin : ∀ (n : Int) (w : Nat), a ≤ w → w < b → ∃ (p : Nat) (h : Int), AV.tup [I w, I n] = .tup [I p, I h] ∧ a ≤ p ∧ p < b := fun n w h1 h2 => ⟨w, n, rfl, h1, h2⟩
 by_cases h50 : 50 ≤ b - a
 ·have h50' : (50 : Int) ≤ ((b - a : Nat) : Int) := by omega
  simp only [go_sem, ↓reduceIte, ↓gA, ↓gB, ↓gC, ↓gD, ↓cA, ↓cB, c_slices_choosePivotOrdered_int_, w1, w2, w3, w4, w5, v3, v4, v5, h8', h50', hh]
  refine medA_ok (n := 0) (by omega) (by omega) hl hr (fun n1 x1 h1 => ?_)
  simp only [go_sem, ↓reduceIte, ↓gA, ↓gB, ↓gC, ↓gD, ↓cA, ↓cB]
  refine medA_ok (by omega) (by omega) hl hr (fun n2 x2 h2 => ?_)
  simp only [go_sem, ↓reduceIte, ↓gA, ↓gB, ↓gC, ↓gD, ↓cA, ↓cB]
  refine medA_ok (by omega) (by omega) hl hr (fun n3 x3 h3 => ?_)
  simp only [go_sem, ↓reduceIte, ↓gA, ↓gB, ↓gC, ↓gD, ↓cA, ↓cB]
  refine med_ok (by omega) (by omega) (by omega) hr (fun n4 x4 h4 => ?_)
  have hn : dh [⟨0, 0, .gone⟩] 0 1 0 [n4] = [⟨1, 0, .own 1 [.int .i64 n4]⟩] := rfl
  simp only [go_sem, ↓reduceIte, ↓gA, ↓gB, ↓gC, ↓gD, ↓cA, ↓cB, hn]
  exact ⟨fun _ => fin _ x4 (by omega) (by omega), fun _ => ⟨fun _ => fin _ x4 (by omega) (by omega), fun _ => fin _ x4 (by omega) (by omega)⟩⟩
 ·have h50' : ¬ (50 : Int) ≤ ((b - a : Nat) : Int) := by omega
  simp only [go_sem, ↓reduceIte, ↓gA, ↓gB, ↓gC, ↓gD, ↓cA, ↓cB, c_slices_choosePivotOrdered_int_, w1, w2, w3, w4, w5, v3, v4, v5, h8', h50', hh]
  refine med_ok (n := 0) (by omega) (by omega) (by omega) hr (fun n4 x4 h4 => ?_)
  have hn : dh [⟨0, 0, .gone⟩] 0 1 0 [n4] = [⟨1, 0, .own 1 [.int .i64 n4]⟩] := rfl
  simp only [go_sem, ↓reduceIte, ↓gA, ↓gB, ↓gC, ↓gD, ↓cA, ↓cB, hn]
  exact ⟨fun _ => fin _ x4 (by omega) (by omega), fun _ => ⟨fun _ => fin _ x4 (by omega) (by omega), fun _ => fin _ x4 (by omega) (by omega)⟩⟩
end Go.Mw
/- Sorting rows of numbers: breaking patterns. -/
namespace Go.Mw
set_option maxRecDepth 100000
def dx (H : List Ob) (r st ss : Nat) (l : List Int) (st2 : Nat) (n : Int) : List Ob := dc (dh (H ++ [goneOb]) r st ss l) H.length st2 0 n
theorem dx_get {H : List Ob} {r st ss st2 : Nat} {l : List Int} {n : Int} (hr : r < H.length) : (dx H r st ss l st2 n)[r]? = some ⟨st, ss, .own 1 (l.map I)⟩ := by
 unfold dx dc
 rw [List.getElem?_set_ne (by omega)]
 exact dh_get (by simp; omega)
theorem dx_set {H : List Ob} {r st ss st' ss' st2 : Nat} {l m : List Int} {n : Int} (hr : r < H.length) : (dx H r st ss l st2 n).set r ⟨st', ss', .own 1 (m.map I)⟩ = dx H r st' ss' m st2 n := by
 unfold dx dc
 rw [List.set_comm _ _ (by omega), dh_set]
theorem dx_take {H : List Ob} {r st ss st2 : Nat} {l : List Int} {n : Int} (hr : r < H.length) : (dx H r st ss l st2 n).take H.length = dh H r st ss l := by
 unfold dx dc dh
 rw [List.take_set_of_le (Nat.le_refl _), List.set_append_left _ _ hr, List.take_append_of_le_length (by simp)]
 exact List.take_of_length_le (by simp)
theorem wrap_ad {x y : Nat} (h : x + y ≤ 1000000000) : IntKind.i64.wrap ((x : Int) + (y : Int)) = ((x + y : Nat) : Int) := by rw [wrapI] <;> omega
theorem band_u {x : Int} {m : Nat} (hm : m < 2 ^ 64) : ∃ w : Nat, band .u64 x (m : Int) = (w : Int) ∧ w ≤ m := by
 unfold band
 refine ⟨(BitVec.ofInt 64 x &&& BitVec.ofInt 64 (m : Int)).toNat, ?_, ?_⟩
 ·exact IntWalk.u64_in _ ⟨by omega, by
   have := (BitVec.ofInt 64 x &&& BitVec.ofInt 64 (m : Int)).isLt
   show ((BitVec.ofInt 64 x &&& BitVec.ofInt 64 (m : Int)).toNat : Int) ≤ _
   omega⟩
 ·rw [BitVec.toNat_and]
  refine Nat.le_trans Nat.and_le_right ?_
  rw [BitVec.toNat_ofInt]
  omega
theorem bpI_ok {l : List Int} {a b : Nat} (hab : a < b) (h8 : 8 ≤ b - a) (hb : b ≤ l.length) (hl : l.length ≤ 1000000) {t : List AV} {lp : List Lp} {H : List Ob} {r st ss s0 bs : Nat} {K : AV → St → Prop} {L : Nat} (hL : l.length = L) (hr : r < H.length)
 (hK : ∀ l', SegP l l' a b → K (.tup []) ⟨t, dh H r st ss l', lp⟩) : WpCall G f_slices_breakPatternsOrdered_int_ [.sl r st [] s0 0 L, I a, I b] bs [] ⟨t, dh H r st ss l, lp⟩ K := by
 subst hL
 refine wpCall_S g_slices_breakPatternsOrdered_int_ rfl ?_
 rw [entry_aT (by simp)]
 have h8' : (8 : Int) ≤ ((b - a : Nat) : Int) := by omega
 have w1 : IntKind.i64.wrap ((b : Int) - (a : Int)) = ((b - a : Nat) : Int) := by rw [wrapI] <;> omega
 have w2 := tdiv4 (n := b - a) (by omega)
 have w4 : IntKind.i64.wrap ((((b - a) / 4 : Nat) : Int) * 2) = (((b - a) / 4 * 2 : Nat) : Int) := by rw [wrapI] <;> omega
 have v4 : IntKind.i64.wrap ((a : Int) + (((b - a) / 4 * 2 : Nat) : Int)) = ((a + (b - a) / 4 * 2 : Nat) : Int) := by rw [wrapI] <;> omega
 have v5 : IntKind.i64.wrap (((a + (b - a) / 4 * 2 : Nat) : Int) - 1) = ((a + (b - a) / 4 * 2 - 1 : Nat) : Int) := by rw [wrapI] <;> omega
 obtain ⟨v, g1, g2, g3⟩ := npow_ok (b - a) (by omega) (by omega)
 have hnp : ∀ {fr : Bool} {roots : List Nat} {b' : Nat} {ss : List Nat} {σ : St} {k : AV → St → Prop}, callT G f_slices_nextPowerOfTwo [.int .i64 ((b - a : Nat) : Int)] fr roots b' ss σ k = k (.int .u64 ((2 ^ v : Nat) : Int)) σ := g3.rule
 simp only [go_sem, ↓reduceIte, ↓gA, ↓gB, ↓gC, ↓gD, ↓cA, ↓cB, c_slices_breakPatternsOrdered_int_, w1, w2, w4, v4, v5, h8', hnp, wrap_u64 (show b - a ≤ 1000000 by omega)]
 have e1 : (dh H r st ss l ++ [(⟨0, 0, .gone⟩ : Ob)])[H.length]? = some ⟨0, 0, .gone⟩ := by
  rw [List.getElem?_append_right (by rw [dh_len]; exact Nat.le_refl _), dh_len, Nat.sub_self]; rfl
 have e2 : ∀ n, (dh H r st ss l ++ [(⟨0, 0, .gone⟩ : Ob)]).set H.length ⟨1, 0, .own 1 [.int .u64 n]⟩ = dx H r st ss l 1 n := by
  intro n
  unfold dx dc dh
  rw [List.set_append_left _ _ hr, goneOb]
 have e3 : ∀ {m n}, (dx H r st ss m 1 n)[H.length]? = some ⟨1, 0, .own 1 [.int .u64 n]⟩ := by
  intro m n
  unfold dx
  exact dc_get (by rw [dh_len]; simp)
 have e4 : ∀ {m n n'}, (dx H r st ss m 1 n).set H.length ⟨1, 0, .own 1 [.int .u64 n']⟩ = dx H r st ss m 1 n' := by
  intro m n n'
  unfold dx
  exact dc_set
 have hpos : 0 < 2 ^ v := Nat.two_pow_pos v
 have hlt64 : 2 ^ v < 2 ^ 64 := Nat.pow_lt_pow_right (by omega) (by omega)
 have wm : IntKind.u64.wrap (((2 ^ v : Nat) : Int) - 1) = ((2 ^ v - 1 : Nat) : Int) := by
  have e : ((2 ^ v : Nat) : Int) - 1 = ((2 ^ v - 1 : Nat) : Int) := by omega
  rw [e]
  exact IntWalk.u64_in _ ⟨by omega, by omega⟩
 have wt : IntKind.i64.wrap (((a + (b - a) / 4 * 2 : Nat) : Int) + 1) = ((a + (b - a) / 4 * 2 + 1 : Nat) : Int) := by rw [wrapI] <;> omega
 simp only [go_sem, ↓reduceIte, ↓gA, ↓gB, ↓gC, ↓gD, ↓cA, ↓cB, e1, e2, e3, e4, dh_len, w1, w2, w4, v4, v5, hnp]
 refine wp_loopQ (fun (g : Nat × List Int × Int) σ => (a + (b - a) / 4 * 2 - 1 ≤ g.1 ∧ g.1 ≤ a + (b - a) / 4 * 2 + 2) ∧ SegP l g.2.1 a b ∧ σ = ⟨aT .undef 65 [(0, .sl r st [] s0 0 l.length), (1, I a), (6, I ((b - a : Nat) : Int)), (7, .ptr H.length 1 [] 0 0 0), (8, .int .u64 ((2 ^ v : Nat) : Int)), (9, I g.1)], dx H r st ss g.2.1 1 g.2.2, lp⟩) (fun g => a + (b - a) / 4 * 2 + 2 - g.1) ?_ (a + (b - a) / 4 * 2 - 1, l, ((b - a : Nat) : Int)) ?_
 ·rintro ⟨i, m, n⟩ σ ⟨⟨hi1, hi2⟩, hm, rfl⟩ N Q hQ hN
  simp only at hi1 hi2 hm ⊢
  have hml := hm.len
  by_cases hi : i ≤ a + (b - a) / 4 * 2 + 1
  ·have hnx : ∀ {K : AV → St → Prop} {t : List AV} {bs : Nat}, (∀ n', K (.int .u64 n') ⟨t, dx H r st ss m 1 n', lp⟩) → WpCall G f___slices_xorshift__Next [.ptr H.length 1 [] 0 0 0] bs [] ⟨t, dx H r st ss m 1 n, lp⟩ K := fun hK => next_ok (by rw [dh_len]; simp) hK
   simp only [go_sem, ↓reduceIte, ↓gA, ↓gB, ↓gC, ↓gD, ↓cA, ↓cB, w1, w2, w4, v4, wt, Int.ofNat_le, hi]
   refine hnx (fun n' => ?_)
   obtain ⟨w, hw, hw2⟩ := band_u (x := n') (m := 2 ^ v - 1) (by omega)
   have ww : IntKind.i64.wrap (w : Int) = (w : Int) := by rw [wrapI] <;> omega
   have wi : IntKind.i64.wrap ((i : Int) + 1) = ((i + 1 : Nat) : Int) := by rw [wrapI] <;> omega
   have bi : i < l.length := by omega
   have bi' : i < m.length := by omega
   -- a swap
   have go : ∀ o : Nat, o < b - a → SegP l (sw m i (a + o)) a b := fun o ho => hm.tr (sw_seg bi' (by omega) (by omega) (by omega) (by omega) (by omega))
   by_cases hge : b - a ≤ w
   ·have wo : IntKind.i64.wrap ((w : Int) - ((b - a : Nat) : Int)) = ((w - (b - a) : Nat) : Int) := by rw [wrapI] <;> omega
    have ho : w - (b - a) < b - a := by omega
    have wa2 := wrap_ad (x := a) (y := w - (b - a)) (by omega)
    have bo : a + (w - (b - a)) < l.length := by omega
    have bo' : a + (w - (b - a)) < m.length := by omega
    simp only [go_sem, ↓reduceIte, ↓gA, ↓gB, ↓gC, ↓gD, ↓cA, ↓cB, wm, hw, ww, Int.ofNat_le, Int.ofNat_lt, hge, wo, wa2, bi, bo, bi', bo', dx_get hr, dx_set hr, wi]
    refine ⟨by simpa using bo', hN (i + 1, sw m i (a + (w - (b - a))), n') _ (by simp only; omega) ⟨⟨by simp only; omega, by simp only; omega⟩, go _ ho, ?_⟩⟩
    simp only [go_sem, ↓reduceIte, ↓gA, ↓gB, ↓gC, ↓gD, ↓cA, ↓cB, sw]
   ·have ho : w < b - a := by omega
    have wa2 := wrap_ad (x := a) (y := w) (by omega)
    have bo : a + w < l.length := by omega
    have bo' : a + w < m.length := by omega
    simp only [go_sem, ↓reduceIte, ↓gA, ↓gB, ↓gC, ↓gD, ↓cA, ↓cB, wm, hw, ww, Int.ofNat_le, Int.ofNat_lt, hge, wa2, bi, bo, bi', bo', dx_get hr, dx_set hr, wi]
    refine ⟨by simpa using bo', hN (i + 1, sw m i (a + w), n') _ (by simp only; omega) ⟨⟨by simp only; omega, by simp only; omega⟩, go _ ho, ?_⟩⟩
    simp only [go_sem, ↓reduceIte, ↓gA, ↓gB, ↓gC, ↓gD, ↓cA, ↓cB, sw]
  ·subst hQ
   simp only [go_sem, ↓reduceIte, ↓gA, ↓gB, ↓gC, ↓gD, ↓cA, ↓cB, w1, w2, w4, v4, wt, Int.ofNat_le, hi, dx_take hr]
   exact hK m hm
 ·refine ⟨⟨Nat.le_refl _, by simp only; omega⟩, SegP.refl, ?_⟩
  simp only [go_sem, ↓reduceIte, ↓gA, ↓gB, ↓gC, ↓gD, ↓cA, ↓cB]
end Go.Mw
/- Sorting rows of numbers: pdqsort. -/
namespace Go.Mw
set_option maxRecDepth 100000
theorem wp_cut {c d : C} {b : Nat} {σ : St} {Q : Ex → St → Prop} (R : St → Prop) (h1 : Wp G c b σ (fun e σ1 => match e with | .nrm => R σ1 | e => Q e σ1)) (h2 : ∀ σ1, R σ1 → Wp G d b σ1 Q) : Wp G (.seq c d) b σ Q := by
 rw [wp_seq]
 refine h1.mono (fun e σ1 h => ?_)
 cases e with
 | nrm => exact h2 σ1 h
 | ext i => exact h
 | ret => exact h
def Prt (m : List Int) (a c d b : Nat) : Prop := ∀ i j, a ≤ i → i < j → j < b → (i < c ∨ d ≤ j) → ¬ m[j]! < m[i]!
theorem Prt.step {m n : List Int} {a c d b c' d' : Nat} (h : Prt m a c d b) (hs : SegP m n c d) (hc : a ≤ c) (hd : d ≤ b) (h1 : c ≤ c') (h2 : d' ≤ d) (hn : Prt n c c' d' d) : Prt n a c' d' b := by
 intro i j g1 g2 g3 g4
 by_cases e1 : i < c
 ·rw [hs.out i (.inl e1)]
  by_cases e2 : j < c
  ·rw [hs.out j (.inl e2)]; exact h i j g1 g2 g3 (.inl e1)
  ·by_cases e3 : d ≤ j
   ·rw [hs.out j (.inr e3)]; exact h i j g1 g2 g3 (.inl e1)
   ·exact hs.all (fun x => ¬ x < m[i]!) (fun k k1 k2 => h i k g1 (by omega) (by omega) (.inl e1)) j (by omega) (by omega)
 ·by_cases e3 : d ≤ j
  ·rw [hs.out j (.inr e3)]
   by_cases e4 : d ≤ i
   ·rw [hs.out i (.inr e4)]; exact h i j g1 g2 g3 (.inr e3)
   ·exact hs.all (fun x => ¬ m[j]! < x) (fun k k1 k2 => h k j (by omega) (by omega) (by omega) (.inr e3)) i (by omega) (by omega)
  ·exact hn i j (by omega) g2 (by omega) g4
theorem Prt.fin {m n : List Int} {a c d b : Nat} (h : Prt m a c d b) (hs : SegP m n c d) (hc : a ≤ c) (hcd : c ≤ d) (hd : d ≤ b) (hn : Srt ltI n c d) : Srt ltI n a b := by
 have h1 : Prt n a d d b := h.step hs hc hd hcd (Nat.le_refl _) (fun i j g1 g2 g3 g4 => by
  have := hn i j g1 g2 g3
  unfold ltI at this
  rw [decide_eq_false_iff_not] at this; exact this)
 intro i j g1 g2 g3
 unfold ltI
 rw [decide_eq_false_iff_not]
 exact h1 i j g1 g2 g3 (by omega)
theorem Prt.low {l m : List Int} {a c d b : Nat} (h : Prt m a c d b) (hl : Low l a b) (hs : SegP l m a b) (hc : a ≤ c) (hd : d ≤ b) : Low m c d := by
 by_cases e : c = a
 ·subst e
  rcases hl.seg hs with h | h
  ·exact .inl h
  ·exact .inr (fun i h1 h2 => h i h1 (by omega))
 ·exact .inr (fun i h1 h2 => h (c - 1) i (by omega) (by omega) (by omega) (.inl (by omega)))
def PDs (A : List (Nat × AV)) (r st s0 L a b : Nat) (lim : Int) (wb wp : Bool) : Prop :=
 look .undef 0 A = .sl r st [] s0 0 L ∧ look .undef 1 A = I a ∧ look .undef 2 A = I b ∧ look .undef 3 A = I lim ∧ look .undef 8 A = Bo wb ∧ look .undef 9 A = Bo wp
def PSt (r st ss s0 L : Nat) (H : List Ob) (lp : List Lp) (m : List Int) (a b : Nat) (lim : Int) (wb wp : Bool) (σ : St) (X : List (Nat × AV) → Prop) : Prop :=
 ∃ A, PDs A r st s0 L a b lim wb wp ∧ X A ∧ σ = ⟨aT .undef 134 A, dh H r st ss m, lp⟩
theorem pdq_ok (d : Nat) : ∀ {l : List Int} {a b : Nat} {lim : Int}, b - a ≤ d → a ≤ b → b ≤ l.length → l.length ≤ 1000000 → Low l a b → ∀ {t : List AV} {lp : List Lp} {H : List Ob} {r st ss s0 bs : Nat} {K : AV → St → Prop} {L : Nat}, l.length = L → r < H.length →
 (∀ l', SegP l l' a b → Srt ltI l' a b → K (.tup []) ⟨t, dh H r st ss l', lp⟩) → WpCall G f_slices_pdqsortOrdered_int_ [.sl r st [] s0 0 L, I a, I b, I lim] bs [] ⟨t, dh H r st ss l, lp⟩ K := by
 induction d using Nat.strongRecOn with
 | _ d ih =>
 intro l a b lim hd hab hb hl hlow t lp H r st ss s0 bs K L hL hr hK
 subst hL
 refine wpCall_S g_slices_pdqsortOrdered_int_ rfl ?_
 rw [entry_aT (by simp)]
 simp only [go_sem, ↓reduceIte, ↓gA, ↓gB, ↓gC, ↓gD, ↓cA, ↓cB, c_slices_pdqsortOrdered_int_]
 refine wp_loopQ (fun (g : Nat × Nat × Int × Bool × Bool × List Int) σ => (a ≤ g.1 ∧ g.1 ≤ g.2.1 ∧ g.2.1 ≤ b) ∧ SegP l g.2.2.2.2.2 a b ∧ Prt g.2.2.2.2.2 a g.1 g.2.1 b ∧ σ = ⟨aT .undef 134 [(0, .sl r st [] s0 0 l.length), (1, I g.1), (2, I g.2.1), (3, I g.2.2.1), (8, Bo g.2.2.2.1), (9, Bo g.2.2.2.2.1)], dh H r st ss g.2.2.2.2.2, lp⟩) (fun g => g.2.1 - g.1) ?_ (a, b, lim, true, true, l) ?_
 ·rintro ⟨a', b', lim, wb, wp, m⟩ σ ⟨⟨ha, hab', hb'⟩, hm, hp, rfl⟩ N Q hQ hN
  simp only at ha hab' hb' hm hp ⊢
  have hml := hm.len
  have hlow' := hp.low hlow hm ha hb'
  have w1 : IntKind.i64.wrap ((b' : Int) - (a' : Int)) = ((b' - a' : Nat) : Int) := by rw [wrapI] <;> omega
  rw [wp_blk]
  refine wp_cut (fun σ => PSt r st ss s0 l.length H lp m a' b' lim wb wp σ (fun A => look .undef 10 A = I (b' - a' : Nat))) ?_ ?_
  ·simp only [go_sem, ↓reduceIte, ↓gA, ↓gB, ↓gC, ↓gD, ↓cA, ↓cB, w1]
   refine ⟨_, ⟨?_, ?_, ?_, ?_, ?_, ?_⟩, ?_, rfl⟩ <;> simp only [go_sem, ↓reduceIte, ↓gA, ↓gB, ↓gC, ↓gD, ↓cA, ↓cB]
  rintro σ ⟨A, ⟨h0, h1, h2, h3, h4, h5⟩, h6, rfl⟩
  refine wp_cut (fun σ => 12 < b' - a' ∧ PSt r st ss s0 l.length H lp m a' b' lim wb wp σ (fun A => look .undef 10 A = I (b' - a' : Nat))) ?_ ?_
  ·by_cases h12 : b' - a' ≤ 12
   ·have h12' : ((b' - a' : Nat) : Int) ≤ 12 := by omega
    subst hQ
    simp only [go_sem, ↓reduceIte, ↓gA, ↓gB, ↓gC, ↓gD, ↓cA, ↓cB, h0, h1, h2, h3, h4, h5, h6, h12']
    refine insI_ok hab' (by omega) (by omega) hml hr (fun n hn hs => ?_)
    simp only [go_sem, ↓reduceIte, ↓gA, ↓gB, ↓gC, ↓gD, ↓cA, ↓cB]
    exact hK n (hm.tr (hn.wide ha hb')) (hp.fin hn ha hab' hb' hs)
   ·have h12' : ¬ ((b' - a' : Nat) : Int) ≤ 12 := by omega
    simp only [go_sem, ↓reduceIte, ↓gA, ↓gB, ↓gC, ↓gD, ↓cA, ↓cB, h0, h1, h2, h3, h4, h5, h6, h12']
    refine ⟨by omega, _, ⟨?_, ?_, ?_, ?_, ?_, ?_⟩, ?_, rfl⟩ <;> simp only [go_sem, ↓reduceIte, ↓gA, ↓gB, ↓gC, ↓gD, ↓cA, ↓cB, h0, h1, h2, h3, h4, h5, h6]
  rintro σ ⟨h12, A, ⟨h0, h1, h2, h3, h4, h5⟩, h6, rfl⟩
  refine wp_cut (fun σ => PSt r st ss s0 l.length H lp m a' b' lim wb wp σ (fun A => look .undef 10 A = I (b' - a' : Nat))) ?_ ?_
  ·subst hQ
   simp only [go_sem, ↓reduceIte, ↓gA, ↓gB, ↓gC, ↓gD, ↓cA, ↓cB, h0, h1, h2, h3, h4, h5, h6]
   refine ⟨fun _ => ?_, fun _ => ?_⟩
   ·refine heapI_ok (by omega) (by omega) (by omega) hml hr (fun n hn hs => ?_)
    simp only [go_sem, ↓reduceIte, ↓gA, ↓gB, ↓gC, ↓gD, ↓cA, ↓cB]
    exact hK n (hm.tr (hn.wide ha hb')) (hp.fin hn ha hab' hb' hs)
   ·refine ⟨_, ⟨?_, ?_, ?_, ?_, ?_, ?_⟩, ?_, rfl⟩ <;> simp only [go_sem, ↓reduceIte, ↓gA, ↓gB, ↓gC, ↓gD, ↓cA, ↓cB, h0, h1, h2, h3, h4, h5, h6]
  rintro σ ⟨A, ⟨h0, h1, h2, h3, h4, h5⟩, h6, rfl⟩
  -- patterns
  refine wp_cut (fun σ => ∃ m2 lim2, SegP m m2 a' b' ∧ PSt r st ss s0 l.length H lp m2 a' b' lim2 wb wp σ (fun A => look .undef 10 A = I (b' - a' : Nat))) ?_ ?_
  ·simp only [go_sem, ↓reduceIte, ↓gA, ↓gB, ↓gC, ↓gD, ↓cA, ↓cB, h0, h1, h2, h3, h4, h5, h6]
   refine ⟨fun _ => ?_, fun _ => ?_⟩
   ·refine bpI_ok (by omega) (by omega) (by omega) (by omega) hml hr (fun n hn => ?_)
    simp only [go_sem, ↓reduceIte, ↓gA, ↓gB, ↓gC, ↓gD, ↓cA, ↓cB, h3]
    refine ⟨n, IntKind.i64.wrap (lim - 1), hn, _, ⟨?_, ?_, ?_, ?_, ?_, ?_⟩, ?_, rfl⟩ <;> simp only [go_sem, ↓reduceIte, ↓gA, ↓gB, ↓gC, ↓gD, ↓cA, ↓cB, h0, h1, h2, h3, h4, h5, h6]
   ·refine ⟨m, lim, SegP.refl, _, ⟨?_, ?_, ?_, ?_, ?_, ?_⟩, ?_, rfl⟩ <;> simp only [go_sem, ↓reduceIte, ↓gA, ↓gB, ↓gC, ↓gD, ↓cA, ↓cB, h0, h1, h2, h3, h4, h5, h6]
  clear h0 h1 h2 h3 h4 h5 h6 A
  rintro σ ⟨m2, lim2, hm2, A, ⟨h0, h1, h2, h3, h4, h5⟩, h6, rfl⟩
  have hml2 : m2.length = l.length := hm2.len.trans hml
  have hle : l.length ≤ m2.length := by omega
  have hv : List.map frz (List.take l.length (List.map I m2)) = List.map I m2 := by
   rw [List.take_of_length_le (by simp; omega), List.map_map]
   rfl
  -- the pivot
  obtain ⟨v, ⟨p, hint, rfl, hp1, hp2⟩, hpv⟩ := pivI_ok (l := m2) (a := a') (b := b') (by omega) (by omega) (by omega) (by omega)
  have hpr : ∀ {fr : Bool} {roots : List Nat} {b'' : Nat} {ss : List Nat} {σ : St} {k : AV → St → Prop}, callT G f_slices_choosePivotOrdered_int_ [.lst (m2.map I), .int .i64 (a' : Int), .int .i64 (b' : Int)] fr roots b'' ss σ k = k (.tup [I p, I hint]) σ := hpv.rule
  refine wp_cut (fun σ => PSt r st ss s0 l.length H lp m2 a' b' lim2 wb wp σ (fun A => look .undef 10 A = I (b' - a' : Nat) ∧ look .undef 11 A = I p ∧ look .undef 12 A = I hint)) ?_ ?_
  ·simp only [go_sem, ↓reduceIte, ↓gA, ↓gB, ↓gC, ↓gD, ↓cA, ↓cB, h0, h1, h2, h3, h4, h5, h6, hpr, hle, hv, dh_get hr]
   refine ⟨_, ⟨?_, ?_, ?_, ?_, ?_, ?_⟩, ⟨?_, ?_, ?_⟩, rfl⟩ <;> simp only [go_sem, ↓reduceIte, ↓gA, ↓gB, ↓gC, ↓gD, ↓cA, ↓cB, h0, h1, h2, h3, h4, h5, h6]
  clear h0 h1 h2 h3 h4 h5 h6 A
  rintro σ ⟨A, ⟨h0, h1, h2, h3, h4, h5⟩, ⟨h6, h7, h8⟩, rfl⟩
  -- turned round
  refine wp_cut (fun σ => ∃ m3 p hint, SegP m m3 a' b' ∧ (a' ≤ p ∧ p < b') ∧ PSt r st ss s0 l.length H lp m3 a' b' lim2 wb wp σ (fun A => look .undef 10 A = I (b' - a' : Nat) ∧ look .undef 11 A = I (p : Nat) ∧ look .undef 12 A = I hint)) ?_ ?_
  ·have wq1 : IntKind.i64.wrap ((b' : Int) - 1) = ((b' - 1 : Nat) : Int) := by rw [wrapI] <;> omega
   have wq2 : IntKind.i64.wrap ((p : Int) - (a' : Int)) = ((p - a' : Nat) : Int) := by rw [wrapI] <;> omega
   have wq3 : IntKind.i64.wrap (((b' - 1 : Nat) : Int) - ((p - a' : Nat) : Int)) = ((b' - 1 - (p - a') : Nat) : Int) := by rw [wrapI] <;> omega
   simp only [go_sem, ↓reduceIte, ↓gA, ↓gB, ↓gC, ↓gD, ↓cA, ↓cB, h0, h1, h2, h3, h4, h5, h6, h7, h8]
   refine ⟨fun _ => ?_, fun _ => ?_⟩
   ·refine revI_ok (by omega) (by omega) (by omega) hml2 hr (fun n hn => ?_)
    simp only [go_sem, ↓reduceIte, ↓gA, ↓gB, ↓gC, ↓gD, ↓cA, ↓cB, h1, h2, h7, wq1, wq2, wq3]
    refine ⟨n, b' - 1 - (p - a'), 1, hm2.tr hn, ⟨by omega, by omega⟩, _, ⟨?_, ?_, ?_, ?_, ?_, ?_⟩, ⟨?_, ?_, ?_⟩, rfl⟩ <;> simp only [go_sem, ↓reduceIte, ↓gA, ↓gB, ↓gC, ↓gD, ↓cA, ↓cB, h0, h1, h2, h3, h4, h5, h6]
   ·refine ⟨m2, p, hint, hm2, ⟨hp1, hp2⟩, _, ⟨?_, ?_, ?_, ?_, ?_, ?_⟩, ⟨?_, ?_, ?_⟩, rfl⟩ <;> simp only [go_sem, ↓reduceIte, ↓gA, ↓gB, ↓gC, ↓gD, ↓cA, ↓cB, h0, h1, h2, h3, h4, h5, h6, h7, h8]
  clear h0 h1 h2 h3 h4 h5 h6 h7 h8 A hp1 hp2 hpr hpv hint p hv hle hml2 hm2 m2
  rintro σ ⟨m2, p, hint, hm2, ⟨hp1, hp2⟩, A, ⟨h0, h1, h2, h3, h4, h5⟩, ⟨h6, h7, h8⟩, rfl⟩
  have hml2 : m2.length = l.length := hm2.len.trans hml
  -- nearly sorted
  refine wp_cut (fun σ => ∃ m3, SegP m m3 a' b' ∧ PSt r st ss s0 l.length H lp m3 a' b' lim2 wb wp σ (fun A => look .undef 10 A = I (b' - a' : Nat) ∧ look .undef 11 A = I (p : Nat))) ?_ ?_
  ·subst hQ
   have out : ∀ A, PDs A r st s0 l.length a' b' lim2 wb wp → look .undef 10 A = I (b' - a' : Nat) → look .undef 11 A = I p → ∃ m3, SegP m m3 a' b' ∧ PSt r st ss s0 l.length H lp m3 a' b' lim2 wb wp ⟨aT .undef 134 A, dh H r st ss m2, lp⟩ (fun A => look .undef 10 A = I (b' - a' : Nat) ∧ look .undef 11 A = I (p : Nat)) :=
    fun A g1 g2 g3 => ⟨m2, hm2, A, g1, ⟨g2, g3⟩, rfl⟩
   cases wb with
   | false =>
     simp only [go_sem, ↓reduceIte, ↓gA, ↓gB, ↓gC, ↓gD, ↓cA, ↓cB, h0, h1, h2, h3, h4, h5, h6, h7, h8]
     refine out _ ⟨?_, ?_, ?_, ?_, ?_, ?_⟩ ?_ ?_ <;> simp only [go_sem, ↓reduceIte, ↓gA, ↓gB, ↓gC, ↓gD, ↓cA, ↓cB, h0, h1, h2, h3, h4, h5, h6, h7, h8]
   | true =>
     cases wp with
     | false =>
       simp only [go_sem, ↓reduceIte, ↓gA, ↓gB, ↓gC, ↓gD, ↓cA, ↓cB, h0, h1, h2, h3, h4, h5, h6, h7, h8]
       refine out _ ⟨?_, ?_, ?_, ?_, ?_, ?_⟩ ?_ ?_ <;> simp only [go_sem, ↓reduceIte, ↓gA, ↓gB, ↓gC, ↓gD, ↓cA, ↓cB, h0, h1, h2, h3, h4, h5, h6, h7, h8]
     | true =>
       simp only [go_sem, ↓reduceIte, ↓gA, ↓gB, ↓gC, ↓gD, ↓cA, ↓cB, h0, h1, h2, h3, h4, h5, h6, h7, h8]
       refine ⟨fun _ => ?_, fun _ => ?_⟩
       ·refine piI_ok (by omega) (by omega) (by omega) (hlow'.seg hm2) hml2 hr (fun n q hn hq => ?_)
        cases q with
        | true =>
          simp only [go_sem, ↓reduceIte, ↓gA, ↓gB, ↓gC, ↓gD, ↓cA, ↓cB]
          have := hm2.tr hn
          exact hK n (hm.tr (this.wide ha hb')) (hp.fin this ha hab' hb' (hq rfl))
        | false =>
          simp only [go_sem, ↓reduceIte, ↓gA, ↓gB, ↓gC, ↓gD, ↓cA, ↓cB]
          refine ⟨n, hm2.tr hn, _, ⟨?_, ?_, ?_, ?_, ?_, ?_⟩, ⟨?_, ?_⟩, rfl⟩ <;> simp only [go_sem, ↓reduceIte, ↓gA, ↓gB, ↓gC, ↓gD, ↓cA, ↓cB, h0, h1, h2, h3, h4, h5, h6, h7, h8]
       ·refine out _ ⟨?_, ?_, ?_, ?_, ?_, ?_⟩ ?_ ?_ <;> simp only [go_sem, ↓reduceIte, ↓gA, ↓gB, ↓gC, ↓gD, ↓cA, ↓cB, h0, h1, h2, h3, h4, h5, h6, h7, h8]
  clear h0 h1 h2 h3 h4 h5 h6 h7 h8 A hml2 hm2 m2 hint
  rintro σ ⟨m2, hm2, A, ⟨h0, h1, h2, h3, h4, h5⟩, ⟨h6, h7⟩, rfl⟩
  have hml2 : m2.length = l.length := hm2.len.trans hml
  have hlow2 := hlow'.seg hm2
  have hp2' := hp.step hm2 ha hb' (Nat.le_refl _) (Nat.le_refl _) (fun i j g1 g2 g3 g4 => by omega)
  -- many equal ones
  refine wp_cut (fun σ => PSt r st ss s0 l.length H lp m2 a' b' lim2 wb wp σ (fun A => look .undef 10 A = I (b' - a' : Nat) ∧ look .undef 11 A = I (p : Nat))) ?_ ?_
  ·have w2 : IntKind.i64.wrap ((a' : Int) - 1) = ((a' - 1 : Nat) : Int) ∨ a' = 0 := by
    by_cases e : a' = 0
    ·exact .inr e
    ·refine .inl ?_; rw [wrapI] <;> omega
   have b1 : p < l.length := by omega
   have b2 : a' - 1 < l.length := by omega
   have b1' : p < m2.length := by omega
   have b2' : a' - 1 < m2.length := by omega
   by_cases h0a : a' = 0
   ·have hn : ¬ (0 : Int) < (a' : Int) := by omega
    simp only [go_sem, ↓reduceIte, ↓gA, ↓gB, ↓gC, ↓gD, ↓cA, ↓cB, h0, h1, h2, h3, h4, h5, h6, h7, hn]
    refine ⟨_, ⟨?_, ?_, ?_, ?_, ?_, ?_⟩, ⟨?_, ?_⟩, rfl⟩ <;> simp only [go_sem, ↓reduceIte, ↓gA, ↓gB, ↓gC, ↓gD, ↓cA, ↓cB, h0, h1, h2, h3, h4, h5, h6, h7]
   ·have hn : (0 : Int) < (a' : Int) := by omega
    have w2 : IntKind.i64.wrap ((a' : Int) - 1) = ((a' - 1 : Nat) : Int) := by rw [wrapI] <;> omega
    by_cases hlt : m2[a' - 1]! < m2[p]!
    ·simp only [go_sem, ↓reduceIte, ↓gA, ↓gB, ↓gC, ↓gD, ↓cA, ↓cB, h0, h1, h2, h3, h4, h5, h6, h7, hn, w2, Int.ofNat_lt, b1, b2, b1', b2', dh_get hr, hlt]
     refine ⟨_, ⟨?_, ?_, ?_, ?_, ?_, ?_⟩, ⟨?_, ?_⟩, rfl⟩ <;> simp only [go_sem, ↓reduceIte, ↓gA, ↓gB, ↓gC, ↓gD, ↓cA, ↓cB, h0, h1, h2, h3, h4, h5, h6, h7]
    ·simp only [go_sem, ↓reduceIte, ↓gA, ↓gB, ↓gC, ↓gD, ↓cA, ↓cB, h0, h1, h2, h3, h4, h5, h6, h7, hn, w2, Int.ofNat_lt, b1, b2, b1', b2', dh_get hr, hlt]
     refine eqI_ok hp1 hp2 (by omega) (by omega) hml2 hr (fun n i hn => ?_)
     simp only [go_sem, ↓reduceIte, ↓gA, ↓gB, ↓gC, ↓gD, ↓cA, ↓cB]
     have q1 := hn.ai; have q2 := hn.ib
     refine hN (i, b', lim2, wb, wp, n) _ (by simp only; omega) ⟨⟨by simp only; omega, hn.ib, hb'⟩, hm.tr ((hm2.tr hn.seg).wide ha hb'), ?_, ?_⟩
     ·refine hp2'.step hn.seg ha hb' (by simp only; omega) (Nat.le_refl _) ?_
      intro x y g1 g2 g3 g4
      show ¬ n[y]! < n[x]!
      simp only at g4
      have hxi : x < i := by omega
      have hx := hn.lo x g1 hxi
      have hy : ¬ n[y]! < m2[p]! := by
       rcases hlow2 with h | h
       ·omega
       ·exact hn.seg.all (fun z => ¬ z < m2[p]!) (fun k k1 k2 => by have := h k k1 k2; omega) y (by omega) g3
      exact fun hyx => by omega
     ·simp only [go_sem, ↓reduceIte, ↓gA, ↓gB, ↓gC, ↓gD, ↓cA, ↓cB, h0, h1, h2, h3, h4, h5]
  clear h0 h1 h2 h3 h4 h5 h6 h7 A
  rintro σ ⟨A, ⟨h0, h1, h2, h3, h4, h5⟩, ⟨h6, h7⟩, rfl⟩
  -- the parts
  simp only [go_sem, ↓reduceIte, ↓gA, ↓gB, ↓gC, ↓gD, ↓cA, ↓cB, h0, h1, h2, h3, h4, h5, h6, h7]
  refine partI_ok hp1 hp2 (by omega) (by omega) hml2 hr (fun n j v hn => ?_)
  have q1 := hn.aj; have q2 := hn.jb
  have hnl : n.length = l.length := hn.seg.len.trans hml2
  have x1 : IntKind.i64.wrap ((j : Int) - (a' : Int)) = ((j - a' : Nat) : Int) := by rw [wrapI] <;> omega
  have x2 : IntKind.i64.wrap ((b' : Int) - (j : Int)) = ((b' - j : Nat) : Int) := by rw [wrapI] <;> omega
  have x3 : IntKind.i64.wrap ((j : Int) + 1) = ((j + 1 : Nat) : Int) := by rw [wrapI] <;> omega
  simp only [go_sem, ↓reduceIte, ↓gA, ↓gB, ↓gC, ↓gD, ↓cA, ↓cB, h0, h1, h2, h3, h4, h5, h6, h7, x1, x2, x3]
  have key : ∀ x, a' ≤ x → x < j → n[x]! < n[j]! := fun x g1 g2 => by
   have := hn.lo x g1 g2
   unfold ltI at this
   rw [decide_eq_true_eq] at this; exact this
  have key2 : ∀ x, j < x → x < b' → ¬ n[x]! < n[j]! := fun x g1 g2 => by
   have := hn.hi x g1 g2
   unfold ltI at this
   rw [decide_eq_false_iff_not] at this; exact this
  refine ⟨fun _ => ?_, fun _ => ?_⟩
  ·refine ih (j - a') (by omega) (Nat.le_refl _) q1 (by omega) (by omega) ?_ hnl hr (fun n2 hn2 hs2 => ?_)
   ·rcases hlow2.seg hn.seg with h | h
    ·exact .inl h
    ·exact .inr (fun i h1 h2 => h i h1 (by omega))
   ·simp only [go_sem, ↓reduceIte, ↓gA, ↓gB, ↓gC, ↓gD, ↓cA, ↓cB, x3, h0, h2, h3]
    refine hN (j + 1, b', lim2, decide (IntKind.i64.wrap (((b' - a' : Nat) : Int).tdiv 8) ≤ ((j - a' : Nat) : Int)), v, n2) _ (by simp only; omega) ⟨⟨by simp only; omega, by simp only; omega, hb'⟩, hm.tr ((hm2.tr (hn.seg.tr (hn2.wide (Nat.le_refl _) (by omega)))).wide ha hb'), ?_, ?_⟩
    ·refine hp2'.step (hn.seg.tr (hn2.wide (Nat.le_refl _) (by omega))) ha hb' (by simp only; omega) (Nat.le_refl _) ?_
     intro x y g1 g2 g3 g4
     show ¬ n2[y]! < n2[x]!
     simp only at g4
     have hxj : x < j + 1 := by omega
     have hy : ∀ y, j ≤ y → n2[y]! = n[y]! := fun y hy => hn2.out y (.inr hy)
     by_cases e : x = j
     ·rw [e, hy y (by omega), hy j (Nat.le_refl _)]
      exact key2 y (by omega) g3
     ·have hx : n2[x]! < n[j]! := hn2.all (fun z => z < n[j]!) (fun k k1 k2 => key k k1 k2) x g1 (by omega)
      by_cases e2 : y < j
      ·have := hs2 x y g1 g2 e2
       unfold ltI at this
       rw [decide_eq_false_iff_not] at this; exact this
      ·rw [hy y (by omega)]
       by_cases e3 : y = j
       ·rw [e3]; exact fun h => by omega
       ·have := key2 y (by omega) g3
        exact fun h => by omega
    ·simp only [go_sem, ↓reduceIte, ↓gA, ↓gB, ↓gC, ↓gD, ↓cA, ↓cB, h0, h2, h3]
  ·refine ih (b' - (j + 1)) (by omega) (Nat.le_refl _) (by omega) (by omega) (by omega) ?_ hnl hr (fun n2 hn2 hs2 => ?_)
   ·exact .inr (fun i h1 h2 => key2 i (by omega) h2)
   ·simp only [go_sem, ↓reduceIte, ↓gA, ↓gB, ↓gC, ↓gD, ↓cA, ↓cB, h0, h1, h3]
    refine hN (a', j, lim2, decide (IntKind.i64.wrap (((b' - a' : Nat) : Int).tdiv 8) ≤ ((b' - j : Nat) : Int)), v, n2) _ (by simp only; omega) ⟨⟨ha, by simp only; omega, by simp only; omega⟩, hm.tr ((hm2.tr (hn.seg.tr (hn2.wide (by omega) (Nat.le_refl _)))).wide ha hb'), ?_, ?_⟩
    ·refine hp2'.step (hn.seg.tr (hn2.wide (by omega) (Nat.le_refl _))) ha hb' (Nat.le_refl _) (by simp only; omega) ?_
     intro x y g1 g2 g3 g4
     show ¬ n2[y]! < n2[x]!
     simp only at g4
     have hjy : j ≤ y := by omega
     have hx : ∀ x, x ≤ j → n2[x]! = n[x]! := fun x hx => hn2.out x (.inl (by omega))
     by_cases e : y = j
     ·rw [e, hx x (by omega), hx j (Nat.le_refl _)]
      have := key x g1 (by omega)
      exact fun h => by omega
     ·have hy : ¬ n2[y]! < n[j]! := hn2.all (fun z => ¬ z < n[j]!) (fun k k1 k2 => key2 k (by omega) k2) y (by omega) g3
      by_cases e2 : j < x
      ·have := hs2 x y (by omega) g2 g3
       unfold ltI at this
       rw [decide_eq_false_iff_not] at this; exact this
      ·rw [hx x (by omega)]
       by_cases e3 : x = j
       ·rw [e3]; exact hy
       ·have := key x g1 (by omega)
        exact fun h => by omega
    ·simp only [go_sem, ↓reduceIte, ↓gA, ↓gB, ↓gC, ↓gD, ↓cA, ↓cB, h0, h1, h3]
 ·refine ⟨⟨Nat.le_refl _, hab, Nat.le_refl _⟩, SegP.refl, fun i j g1 g2 g3 g4 => by simp only at g4; omega, ?_⟩
  simp only [go_sem, ↓reduceIte, ↓gA, ↓gB, ↓gC, ↓gD, ↓cA, ↓cB]
end Go.Mw
