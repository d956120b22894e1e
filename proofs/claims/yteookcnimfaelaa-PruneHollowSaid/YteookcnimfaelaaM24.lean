/- Sorting rows of numbers: slices.Sort. -/
import Derived.Test.YteookcnimfaelaaM23
set_option linter.unusedVariables false
set_option linter.unusedSimpArgs false
namespace Go.Mw
set_option maxRecDepth 100000
theorem sortI_ok {l : List Int} (hl : l.length ≤ 1000000) {t : List AV} {lp : List Lp} {H : List Ob} {r st ss s0 bs : Nat} {K : AV → St → Prop} {L : Nat} (hL : l.length = L) (hr : r < H.length)
 (hK : ∀ l', SegP l l' 0 l.length → Srt ltI l' 0 l.length → K (.tup []) ⟨t, dh H r st ss l', lp⟩) : WpCall G f_slices_SortZitit [.sl r st [] s0 0 L] bs [] ⟨t, dh H r st ss l, lp⟩ K := by
 subst hL
 refine wpCall_S g_slices_SortZitit rfl ?_
 rw [entry_aT (by simp)]
 obtain ⟨v, g1, g2, g3⟩ := lenN_ok l.length hl
 have hr' : ∀ {fr : Bool} {roots : List Nat} {b : Nat} {ss : List Nat} {σ : St} {k : AV → St → Prop}, callT G f_math_bits_Len [.int .u64 (l.length : Int)] fr roots b ss σ k = k (I v) σ := g3.rule
 simp only [go_sem, ↓reduceIte, ↓gA, ↓gB, ↓gC, ↓gD, ↓cA, ↓cB, c_slices_SortZitit, wrap_u64 hl, hr', dh_get hr]
 refine pdq_ok l.length (l := l) (a := 0) (b := l.length) (by omega) (by omega) (Nat.le_refl _) hl (.inl rfl) rfl hr (fun l' h1 h2 => ?_)
 simp only [go_sem, ↓reduceIte, ↓gA, ↓gB, ↓gC, ↓gD, ↓cA, ↓cB]
 exact hK l' h1 h2
theorem ins0_ok {v : AV} {t : List AV} {h : List Ob} {lp : List Lp} {bs : Nat} {K : AV → St → Prop} (hK : K (.tup []) ⟨t, h, lp⟩) : WpCall G f_slices_insertionSortOrdered_int_ [v, I 0, I 0] bs [] ⟨t, h, lp⟩ K := by
 refine wpCall_S g_slices_insertionSortOrdered_int_ rfl ?_
 rw [entry_aT (by simp)]
 have w1 : IntKind.i64.wrap 1 = 1 := by decide
 simp only [go_sem, ↓reduceIte, ↓gA, ↓gB, ↓gC, ↓gD, ↓cA, ↓cB, c_slices_insertionSortOrdered_int_, w1]
 refine wp_loopQ (fun (_ : Unit) σ => σ = ⟨aT .undef 49 [(0, v), (1, I 0), (2, I 0), (6, I 1)], h, lp⟩) (fun _ => 0) ?_ () ?_
 ·rintro _ σ rfl N Q hQ hN
  subst hQ
  have h0 : ¬ (1 : Int) < 0 := by decide
  have ht : List.take h.length h = h := List.take_length
  simp only [go_sem, ↓reduceIte, ↓gA, ↓gB, ↓gC, ↓gD, ↓cA, ↓cB, h0, ht]
  exact hK
 ·simp only [go_sem, ↓reduceIte, ↓gA, ↓gB, ↓gC, ↓gD, ↓cA, ↓cB, w1]
theorem pdq0_ok {v : AV} {n : Int} {t : List AV} {h : List Ob} {lp : List Lp} {bs : Nat} {K : AV → St → Prop} (hK : K (.tup []) ⟨t, h, lp⟩) : WpCall G f_slices_pdqsortOrdered_int_ [v, I 0, I 0, I n] bs [] ⟨t, h, lp⟩ K := by
 refine wpCall_S g_slices_pdqsortOrdered_int_ rfl ?_
 rw [entry_aT (by simp)]
 have w1 : IntKind.i64.wrap 0 = 0 := by decide
 have ht : List.take h.length h = h := List.take_length
 simp only [go_sem, ↓reduceIte, ↓gA, ↓gB, ↓gC, ↓gD, ↓cA, ↓cB, c_slices_pdqsortOrdered_int_]
 refine wp_loopQ (fun (_ : Unit) σ => σ = ⟨aT .undef 134 [(0, v), (1, I 0), (2, I 0), (3, I n), (8, Bo true), (9, Bo true)], h, lp⟩) (fun _ => 0) ?_ () ?_
 ·rintro _ σ rfl N Q hQ hN
  subst hQ
  have h0 : (0 : Int) ≤ 12 := by decide
  simp only [go_sem, ↓reduceIte, ↓gA, ↓gB, ↓gC, ↓gD, ↓cA, ↓cB, Int.sub_self, w1, h0]
  refine ins0_ok ?_
  simp only [go_sem, ↓reduceIte, ↓gA, ↓gB, ↓gC, ↓gD, ↓cA, ↓cB, ht]
  exact hK
 ·simp only [go_sem, ↓reduceIte, ↓gA, ↓gB, ↓gC, ↓gD, ↓cA, ↓cB]
theorem sort0_ok {v : AV} (hv : v = .nils ∨ v = .emp) {t : List AV} {h : List Ob} {lp : List Lp} {bs : Nat} {K : AV → St → Prop} (hK : K (.tup []) ⟨t, h, lp⟩) : WpCall G f_slices_SortZitit [v] bs [] ⟨t, h, lp⟩ K := by
 refine wpCall_S g_slices_SortZitit rfl ?_
 rw [entry_aT (by simp)]
 obtain ⟨n, _, _, g3⟩ := lenN_ok 0 (by omega)
 have hr' : ∀ {fr : Bool} {roots : List Nat} {b : Nat} {ss : List Nat} {σ : St} {k : AV → St → Prop}, callT G f_math_bits_Len [.int .u64 0] fr roots b ss σ k = k (I n) σ := g3.rule
 have wu : IntKind.u64.wrap 0 = 0 := by decide
 have ht : List.take h.length h = h := List.take_length
 rcases hv with rfl | rfl
 all_goals
  simp only [go_sem, ↓reduceIte, ↓gA, ↓gB, ↓gC, ↓gD, ↓cA, ↓cB, c_slices_SortZitit, wu, hr']
  refine pdq0_ok ?_
  simp only [go_sem, ↓reduceIte, ↓gA, ↓gB, ↓gC, ↓gD, ↓cA, ↓cB, ht]
  exact hK
end Go.Mw
/- Is a list a ladder? -/
namespace Go.Mw
set_option maxRecDepth 100000
open Classical in
noncomputable def ladStep (s : Spc) (q : List Bool) (x : Int) : Option (List Bool) :=
 if 0 ≤ x ∧ x < (s.S.length : Int) ∧ q[x.toNat]! = false ∧ AllDie s.S[x.toNat]! (inB q) then some (q.set x.toNat true) else none
noncomputable def ladRun (s : Spc) : List Bool → List Int → Option (List Bool)
 | q, [] => some q
 | q, x :: l => match ladStep s q x with
   | some q' => ladRun s q' l
   | none => none
noncomputable def lad (s : Spc) (l : List Int) : Option (List Bool) := ladRun s (List.replicate s.S.length false) l
theorem ladRun_step {s : Spc} {q : List Bool} {l : List Int} {i : Nat} (hi : i < l.length) : ladRun s q (l.drop i) = match ladStep s q l[i]! with | some q' => ladRun s q' (l.drop (i + 1)) | none => none := by
 rw [List.drop_eq_getElem_cons hi, getElem!_pos l i hi]; rfl
theorem ladRun_end {s : Spc} {q : List Bool} {l : List Int} {i : Nat} (hi : ¬ i < l.length) : ladRun s q (l.drop i) = some q := by
 rw [List.drop_eq_nil_of_le (by omega)]; rfl
theorem ladR_ok (s : Spc) (h : SpB s) (l : List Int) (hl : l.length ≤ 1048576) : FnT G f_r04_IsLadder [eSp s, .lst (l.map I)] (Bo (lad s l).isSome) := by
 refine FnP.mk' g_r04_IsLadder rfl rfl ?_
 have hS := h.sz
 simp only [go_sem, ↓reduceIte, ↓gA, ↓gB, ↓gC, ↓gD, ↓cA, ↓cB, c_r04_IsLadder, eSp]
 refine ⟨by omega, ?_⟩
 refine wp_loopQ (fun (g : Nat × List Bool) σ => g.1 ≤ l.length ∧ g.2.length = s.S.length ∧ lad s l = ladRun s g.2 (l.drop g.1) ∧ σ = ⟨aT .undef 47 [(2, .ptr 0 1 [] 0 0 0), (5, .sl 1 1 [] 0 0 s.S.length), (12, .lst (l.map I)), (13, I l.length), (14, I g.1)], [⟨1, 0, .own 2 [.agg [.lst (s.acts.map .str), .lst (s.S.map eSt)]]⟩, ⟨1, 0, .own 1 (g.2.map Bo)⟩], []⟩) (fun g => l.length - g.1) ?_ (0, List.replicate s.S.length false) ?_
 ·rintro ⟨i, q⟩ σ ⟨hi, hq, hr, rfl⟩ N Q hQ hN
  simp only at hi hq hr ⊢
  by_cases hlt : i < l.length
  ·rw [ladRun_step hlt] at hr
   have no : ∀ (hno : ¬ (0 ≤ l[i]! ∧ l[i]! < (s.S.length : Int) ∧ q[l[i]!.toNat]! = false ∧ AllDie s.S[l[i]!.toNat]! (inB q))), (lad s l).isSome = false := fun hno => by
    rw [hr]; unfold ladStep; rw [if_neg hno]; rfl
   by_cases h1 : 0 ≤ l[i]!
   ·by_cases h2 : l[i]! < (s.S.length : Int)
    ·obtain ⟨x, hx⟩ : ∃ x : Nat, l[i]! = x := ⟨l[i]!.toNat, by omega⟩
     have hxl : x < s.S.length := by omega
     have hst := h.st x hxl
     have hxq : x < q.length := by omega
     have h0 : ¬ (x : Int) < 0 := by omega
     have h2' : ¬ (s.S.length : Int) ≤ (x : Int) := by omega
     simp only [go_sem, ↓reduceIte, ↓gA, ↓gB, ↓gC, ↓gD, ↓cA, ↓cB, wrap_succ hlt (by omega), Int.ofNat_lt, hlt, hx, h0, h2', hxl, hxq, hq, eSt, allFall_r (show StB s.S[x]! q.length by rw [hq]; exact hst), map_setB]
     rw [hx] at no hr
     simp only [Int.toNat_natCast] at no hr
     refine ⟨fun hf => ⟨fun hd => ?_, fun hd => ?_⟩, fun ht => ?_⟩
     ·subst hQ
      simp only [go_sem, ↓reduceIte, ↓gA, ↓gB, ↓gC, ↓gD, ↓cA, ↓cB, no (fun h => hd h.2.2.2)]
     ·refine hN (i + 1, q.set x true) _ (by simp only; omega) ⟨by simp only; omega, by simpa using hq, ?_, ?_⟩
      ·rw [hr]; unfold ladStep
       rw [if_pos ⟨by omega, by omega, by simpa using hf, by simpa using hd⟩]; rfl
      ·simp only [go_sem, ↓reduceIte, ↓gA, ↓gB, ↓gC, ↓gD, ↓cA, ↓cB]
     ·subst hQ
      simp only [go_sem, ↓reduceIte, ↓gA, ↓gB, ↓gC, ↓gD, ↓cA, ↓cB, no (fun h => by rw [h.2.2.1] at ht; cases ht)]
    ·have h0 : ¬ l[i]! < 0 := by omega
     have h2' : (s.S.length : Int) ≤ l[i]! := by omega
     subst hQ
     simp only [go_sem, ↓reduceIte, ↓gA, ↓gB, ↓gC, ↓gD, ↓cA, ↓cB, Int.ofNat_lt, hlt, h0, h2', no (fun h => h2 h.2.1)]
   ·have h0 : l[i]! < 0 := by omega
    subst hQ
    simp only [go_sem, ↓reduceIte, ↓gA, ↓gB, ↓gC, ↓gD, ↓cA, ↓cB, Int.ofNat_lt, hlt, h0, no (fun h => h1 h.1)]
  ·have hil : i = l.length := by omega
   rw [ladRun_end hlt] at hr
   subst hQ
   simp only [go_sem, ↓reduceIte, ↓gA, ↓gB, ↓gC, ↓gD, ↓cA, ↓cB, Int.ofNat_lt, hlt, hr]
   rfl
 ·refine ⟨by simp, by simp, rfl, ?_⟩
  simp only [go_sem, ↓reduceIte, ↓gA, ↓gB, ↓gC, ↓gD, ↓cA, ↓cB, List.map_replicate]
noncomputable def restR (o : Option (List Bool)) : AV := .tup [.lst ((o.getD []).map Bo), Bo o.isSome]
theorem rests_ok (s : Spc) (h : SpcOk s) (l : List Int) (hl : l.length ≤ 1048576) : Fn G f_prune_Rests [eSp s, .lst (l.map I)] (restR (lad s l)) := by
 refine FnP.mk' g_prune_Rests rfl rfl ?_
 have hz := h.sz
 have hb := h.b hz
 have hS := hb.sz
 simp only [go_sem, ↓reduceIte, ↓gA, ↓gB, ↓gC, ↓gD, ↓cA, ↓cB, c_prune_Rests, eSp]
 refine ⟨by omega, ?_⟩
 refine wp_loopQ (fun (g : Nat × List Bool) σ => g.1 ≤ l.length ∧ g.2.length = s.S.length ∧ lad s l = ladRun s g.2 (l.drop g.1) ∧ ∃ a1 c1 z2 a3 c3 a4 c4, σ = ⟨aT .undef 74 [(2, .ptr 0 1 [] 0 0 0), (4, .nils), (5, Bo false), (6, .ptr 2 1 [] 0 0 0), (17, .lst (l.map I)), (18, I l.length), (19, I g.1)], [⟨1, 0, .own 2 [.agg [.lst (s.acts.map .str), .lst (s.S.map eSt)]]⟩, ⟨a1, c1, .gone⟩, ⟨1, z2, .own 1 [.own 1 (g.2.map Bo)]⟩, ⟨a3, c3, .gone⟩, ⟨a4, c4, .gone⟩], []⟩) (fun g => l.length - g.1) ?_ (0, List.replicate s.S.length false) ?_
 ·rintro ⟨i, q⟩ σ ⟨hi, hq, hr, a1, c1, z2, a3, c3, a4, c4, rfl⟩ N Q hQ hN
  simp only at hi hq hr ⊢
  by_cases hlt : i < l.length
  ·rw [ladRun_step hlt] at hr
   have no : ∀ (hno : ¬ (0 ≤ l[i]! ∧ l[i]! < (s.S.length : Int) ∧ q[l[i]!.toNat]! = false ∧ AllDie s.S[l[i]!.toNat]! (inB q))), lad s l = none := fun hno => by
    rw [hr]; unfold ladStep; rw [if_neg hno]
   by_cases h1 : 0 ≤ l[i]!
   ·by_cases h2 : l[i]! < (s.S.length : Int)
    ·obtain ⟨x, hx⟩ : ∃ x : Nat, l[i]! = x := ⟨l[i]!.toNat, by omega⟩
     have hxl : x < s.S.length := by omega
     have hst := h.st x hxl
     have hsb := hb.st x hxl
     have hAl := hsb.la
     have hxq : x < q.length := by omega
     have h0 : ¬ (x : Int) < 0 := by omega
     have h2' : ¬ (s.S.length : Int) ≤ (x : Int) := by omega
     rw [hx] at no hr
     simp only [Int.toNat_natCast] at no hr
     cases hqx : q[x]! with
     | true =>
       simp only [go_sem, ↓reduceIte, ↓gA, ↓gB, ↓gC, ↓gD, ↓cA, ↓cB, wrap_succ hlt (by omega), Int.ofNat_lt, hlt, hx, h0, h2', hxl, hxq, hq, eSt, hqx]
       subst hQ
       simp only [go_sem, ↓reduceIte, ↓gA, ↓gB, ↓gC, ↓gD, ↓cA, ↓cB, no (fun h => by rw [h.2.2.1] at hqx; cases hqx), restR]
       rfl
     | false =>
       simp only [go_sem, ↓reduceIte, ↓gA, ↓gB, ↓gC, ↓gD, ↓cA, ↓cB, wrap_succ hlt (by omega), Int.ofNat_lt, hlt, hx, h0, h2', hxl, hxq, hq, eSt, hqx]
       generalize hye : s.S[x]! = y at *
       refine wp_loopQ (fun (m : Nat) σ => m ≤ y.A.length ∧ (∀ k < m, Dies y (inB q) y.A[k]!) ∧ ∃ a4 c4, σ = ⟨aT .undef 74 [(2, .ptr 0 1 [] 0 0 0), (4, .nils), (5, Bo false), (6, .ptr 2 1 [] 0 0 0), (8, .ptr 3 (a3 + 1) [] 0 0 0), (17, .lst (l.map I)), (18, I l.length), (19, I i), (42, .lst (y.A.map I)), (43, I y.A.length), (44, I m)], [⟨1, 0, .own 2 [.agg [.lst (s.acts.map .str), .lst (s.S.map eSt)]]⟩, ⟨a1, c1, .gone⟩, ⟨1, z2, .own 1 [.own 1 (q.map Bo)]⟩, ⟨a3 + 1, 0, .own 1 [I x]⟩, ⟨a4, c4, .gone⟩], []⟩) (fun m => y.A.length - m) ?_ 0 ?_
       ·rintro m σ ⟨hm, hall, a4, c4, rfl⟩ N2 Q2 hQ2 hN2
        by_cases hlt2 : m < y.A.length
        ·obtain ⟨t, ht, htl⟩ := hsb.nat hlt2
         have hd := dies_iff hst hlt2 (P := inB q)
         simp only [go_sem, ↓reduceIte, ↓gA, ↓gB, ↓gC, ↓gD, ↓cA, ↓cB, Int.ofNat_lt, hlt2, ht, wrap_succ hlt2 (by omega)]
         refine wp_in t htl (by simp only [go_sem, ↓reduceIte, ↓gA, ↓gB, ↓gC, ↓gD, ↓cA, ↓cB]) (fun a hh' => hh' = [⟨1, 0, .own 2 [.agg [.lst (s.acts.map .str), .lst (s.S.map eSt)]]⟩, ⟨a1, c1, .gone⟩, ⟨1, z2, .own 1 [.own 1 (q.map Bo)]⟩, ⟨a3 + 1, 0, .own 1 [I x]⟩, ⟨a4 + 1, 0, .own 1 [Bo (decide (∃ b < a, t.testBit b = true ∧ q[y.X[b]!.toNat]! = true))]⟩]) ?_ ?_ ?_ ?_ ?_
         ·rintro a hh' rfl; rfl
         ·simp only [go_sem, ↓reduceIte, ↓gA, ↓gB, ↓gC, ↓gD, ↓cA, ↓cB]; rw [decide_eq_false (fun ⟨b, hb, _⟩ => absurd hb (by omega))]
         ·rintro a hh' hbit rfl
          rw [show decide (∃ b < a + 1, t.testBit b = true ∧ q[y.X[b]!.toNat]! = true) = decide (∃ b < a, t.testBit b = true ∧ q[y.X[b]!.toNat]! = true) from
           decide_eq_decide.2 ⟨fun ⟨b, hb, g⟩ => ⟨b, Nat.lt_of_le_of_ne (by omega) (fun e => by rw [e, hbit] at g; cases g.1), g⟩, fun ⟨b, hb, g⟩ => ⟨b, by omega, g⟩⟩]
         ·rintro a hh' hbit ha62 rfl
          have han : a < s.acts.length := testBit_lt (n := t) (by have := hst.a m hlt2; rw [ht] at this; omega) hbit
          have hX0 := hst.has m hlt2 a han (by rw [ht]; simpa [hasA] using hbit)
          have hXn := hst.x a han
          have hXl : a < y.X.length := by have : y.X.length = s.acts.length := hst.len; omega
          simp only [go_sem, ↓reduceIte, ↓gA, ↓gB, ↓gC, ↓gD, ↓cA, ↓cB, a_prune_Rests_4, b_prune_Rests_4, hq, Int.ofNat_lt, hxl, hye, eSt]
          refine ⟨fun hf => ⟨by omega, ⟨hX0, by omega⟩, by omega, ?_⟩, fun hf => ?_⟩
          ·have e : decide (∃ b < a + 1, t.testBit b = true ∧ q[y.X[b]!.toNat]! = true) = q[y.X[a]!.toNat]! := by
            cases hv : q[y.X[a]!.toNat]! with
            | true => exact decide_eq_true ⟨a, by omega, hbit, hv⟩
            | false => exact decide_eq_false (fun ⟨b, hb1, hb2, hb3⟩ => by
               by_cases e : b = a
               ·rw [e, hv] at hb3; cases hb3
               ·exact hf ⟨b, by omega, hb2, hb3⟩)
           rw [e]
          ·rw [show decide (∃ b < a + 1, t.testBit b = true ∧ q[y.X[b]!.toNat]! = true) = true from decide_eq_true (by obtain ⟨b, hb⟩ := hf; exact ⟨b, by omega, hb.2⟩)]
         ·rintro a hh' hlta rfl
          have hfd : (∃ b < a, t.testBit b = true ∧ q[y.X[b]!.toNat]! = true) ↔ Dies y (inB q) (t : Int) := by
           rw [ht] at hd
           rw [hd]
           constructor
           ·rintro ⟨b, hb, hb1, hb2⟩
            exact ⟨b, by simpa [hasA] using hb1, hb2⟩
           ·rintro ⟨b, hb1, hb2⟩
            have hb3 : t.testBit b = true := by simpa [hasA] using hb1
            exact ⟨b, testBit_lt hlta hb3, hb3, hb2⟩
          simp only [go_sem, ↓reduceIte, ↓gA, ↓gB, ↓gC, ↓gD, ↓cA, ↓cB, wrap_succ hlt2 (show y.A.length ≤ 1000000000 by omega)]
          refine ⟨fun hf => ?_, fun hf => ?_⟩
          ·subst hQ2
           simp only [go_sem, ↓reduceIte, ↓gA, ↓gB, ↓gC, ↓gD, ↓cA, ↓cB]
           subst hQ
           simp only [go_sem, ↓reduceIte, ↓gA, ↓gB, ↓gC, ↓gD, ↓cA, ↓cB, no (fun hno => hf (hfd.2 (by have := hno.2.2.2 m hlt2; rw [ht] at this; exact this))), restR]
           rfl
          ·refine hN2 (m + 1) _ (by omega) ⟨by omega, forall_lt_succ hall (by rw [ht]; exact hfd.1 hf), ?_⟩
           simp only [go_sem, ↓reduceIte, ↓gA, ↓gB, ↓gC, ↓gD, ↓cA, ↓cB]
           repeat apply Exists.intro
           rfl
        ·have hml : m = y.A.length := by omega
         subst hml
         subst hQ2
         simp only [go_sem, ↓reduceIte, ↓gA, ↓gB, ↓gC, ↓gD, ↓cA, ↓cB, Int.ofNat_lt, hlt2, hxl, hq, map_setB, wrap_succ hlt (show l.length ≤ 1000000000 by omega)]
         refine hN (i + 1, q.set x true) _ (by simp only; omega) ⟨by simp only; omega, by simpa using hq, ?_, ?_⟩
         ·rw [hr]; unfold ladStep
          rw [if_pos ⟨by omega, by omega, by simpa using hqx, by simp only [Int.toNat_natCast, hye]; exact hall⟩]; rfl
         ·simp only [go_sem, ↓reduceIte, ↓gA, ↓gB, ↓gC, ↓gD, ↓cA, ↓cB]
          repeat apply Exists.intro
          rfl
       ·refine ⟨by omega, fun k hk => by omega, ?_⟩
        simp only [go_sem, ↓reduceIte, ↓gA, ↓gB, ↓gC, ↓gD, ↓cA, ↓cB]
        repeat apply Exists.intro
        rfl
    ·have h0 : ¬ l[i]! < 0 := by omega
     have h2' : (s.S.length : Int) ≤ l[i]! := by omega
     simp only [go_sem, ↓reduceIte, ↓gA, ↓gB, ↓gC, ↓gD, ↓cA, ↓cB, Int.ofNat_lt, hlt, h0, h2', hq]
     subst hQ
     simp only [go_sem, ↓reduceIte, ↓gA, ↓gB, ↓gC, ↓gD, ↓cA, ↓cB, no (fun h => h2 h.2.1), restR]
     rfl
   ·have h0 : l[i]! < 0 := by omega
    simp only [go_sem, ↓reduceIte, ↓gA, ↓gB, ↓gC, ↓gD, ↓cA, ↓cB, Int.ofNat_lt, hlt, h0]
    subst hQ
    simp only [go_sem, ↓reduceIte, ↓gA, ↓gB, ↓gC, ↓gD, ↓cA, ↓cB, no (fun h => h1 h.1), restR]
    rfl
  ·have hil : i = l.length := by omega
   rw [ladRun_end hlt] at hr
   subst hQ
   simp only [go_sem, ↓reduceIte, ↓gA, ↓gB, ↓gC, ↓gD, ↓cA, ↓cB, Int.ofNat_lt, hlt, hr]
   rfl
 ·refine ⟨by simp, by simp, rfl, ?_⟩
  simp only [go_sem, ↓reduceIte, ↓gA, ↓gB, ↓gC, ↓gD, ↓cA, ↓cB, List.map_replicate]
  repeat apply Exists.intro
  rfl
end Go.Mw
/- Ladders and hollow states: the program, the law. -/
namespace Go.Mw
set_option maxRecDepth 100000
open Classical in
noncomputable def pLadR (s : Spc) (l : List Int) : AV := if SpcOk s then .tup [Bo (lad s l).isSome, I 0] else .tup [Bo false, I 30]
theorem pIsLad_ok (s : Spc) (hz : SpSz s) (hI : SpI s) (l : List Int) (hl : l.length ≤ 1048576) : FnT G f_prune_IsLadder [eSp s, .lst (l.map I)] (pLadR s l) := by
 refine FnP.mk' g_prune_IsLadder rfl rfl ?_
 by_cases h : SpcOk s
 ·have hr : ∀ {roots : List Nat} {b : Nat} {ss : List Nat} {σ : St} {k : AV → St → Prop}, callT G f_prune_Rests [.agg [.lst (s.acts.map .str), .lst (s.S.map eSt)], .lst (l.map I)] true roots b ss σ k = k (.tup [.lst (((lad s l).getD []).map Bo), Bo (lad s l).isSome]) σ := (rests_ok s h l hl).rule
  simp only [go_sem, ↓reduceIte, ↓gA, ↓gB, ↓gC, ↓gD, ↓cA, ↓cB, c_prune_IsLadder, eSp, spc_r hz hI, h, hr, pLadR, if_true]
 ·simp only [go_sem, ↓reduceIte, ↓gA, ↓gB, ↓gC, ↓gD, ↓cA, ↓cB, c_prune_IsLadder, eSp, spc_r hz hI, h, pLadR, if_false]
noncomputable def holN (s : Spc) : List Nat := (List.range s.S.length).filter fun x => (holL s)[x]!
open Classical in
theorem holN_mem {s : Spc} {x : Nat} : x ∈ holN s ↔ x < s.S.length ∧ Hol s x := by
 unfold holN
 rw [List.mem_filter, List.mem_range]
 refine and_congr_right fun hx => ?_
 unfold holL
 rw [mapR_get hx, decide_eq_true_iff]
theorem holN_nd {s : Spc} : (holN s).Nodup := List.nodup_range.filter _
theorem holN_len {s : Spc} : (holN s).length ≤ s.S.length := Nat.le_trans (List.length_filter_le _ _) (by simp)
theorem lad_perm {s : Spc} {l : List Nat} (h : IsLad s l) (hm : ∀ x < s.S.length, x ∈ l ↔ Hol s x) : l.Perm (holN s) :=
 (List.perm_ext_iff_of_nodup h.nd holN_nd).2 fun x => by
   rw [holN_mem]
   exact ⟨fun hx => ⟨h.lt x hx, (hm x (h.lt x hx)).1 hx⟩, fun hx => (hm x hx.1).2 hx.2⟩
theorem srt_of {l : List Nat} {m : List Int} (hl : l.Pairwise (· < ·)) (hp : m.Perm (l.map fun n : Nat => (n : Int))) (hs : Srt ltI m 0 m.length) : m = l.map fun n : Nat => (n : Int) := by
 refine List.Perm.eq_of_pairwise (le := fun a b : Int => a ≤ b) (fun a b _ _ h1 h2 => Int.le_antisymm h1 h2) ?_ ?_ hp
 ·rw [List.pairwise_iff_getElem]
  intro i j hi hj hij
  have := hs i j (Nat.zero_le _) hij hj
  rw [getElem!_pos m i hi, getElem!_pos m j hj] at this
  unfold ltI at this
  rw [decide_eq_false_iff_not] at this
  omega
 ·exact List.Pairwise.map _ (fun a b h => by omega) hl
def RowOf2 (l : List Nat) (rs : List AV) (h : List Ob) : Prop := (l = [] ∧ rs = [.emp, I 0]) ∨ l ≠ [] ∧ ∃ r st p ss, rs = [.sl r st p ss 0 (l.map eN).length, I 0] ∧ node h r st p ss = some (.own 1 (l.map eN))
theorem plainN {l : List Nat} : (l.map eN).all (fun e : AV => e.cells.all AV.plain) = true := by
 rw [List.all_eq_true]
 intro x hx
 obtain ⟨n, _, rfl⟩ := List.mem_map.1 hx
 rfl
theorem ladder_ok (s : Spc) (h : SpcOk s) (hI : SpI s) : ∃ l : List Nat, IsLad s l ∧ (∀ x < s.S.length, x ∈ l ↔ Hol s x) ∧ FnQ G f_prune_Ladder [eSp s] (fun rs h => packV (treeBL 0 h rs) = .tup [.lst (l.map eN), I 0] ∧ RowOf2 l rs h) := by
 have hz := h.sz
 have hb := h.b hz
 obtain ⟨l, hl, hm, hr⟩ := rungs_ok s hb h.x8
 refine ⟨l, hl, hm, FnQ.mk' g_prune_Ladder rfl rfl ?_⟩
 have hcal : ∀ {K : AV → St → Prop} {fr : Bool} {roots : List Nat} {b s1 : Nat} {σ : St} {k : AV → St → Prop}, callT G f_prune_rungs [.agg [.lst (s.acts.map .str), .lst (s.S.map eSt)]] fr roots b [s1] σ k = if l = [] then k .emp σ else newK (if fr then σ.h else dropRoots σ.h roots) (b + s1) (.own 1 (l.map eN)) (fun h st => k (.sl (b + s1) st [] 0 0 (l.map eN).length) { σ with h }) := by
  intros
  by_cases h0 : l = []
  ·rw [if_pos h0]
   exact FnQ.nil1 (.inl rfl) (hr.mono fun rs h q => by
    rcases q.2 with q | q
    ·exact q.2
    ·exact absurd h0 q.1)
  ·rw [if_neg h0]
   exact (FnQ.own1 (hr.mono fun rs h q => by
    rcases q.2 with q | q
    ·exact absurd q.1 h0
    ·exact q.2) plainN).rule
 by_cases h0 : l = []
 ·simp only [go_sem, ↓reduceIte, ↓gA, ↓gB, ↓gC, ↓gD, ↓cA, ↓cB, c_prune_Ladder, eSp, spc_r hz hI, h, hcal (K := fun _ _ => True), h0, if_true]
  exact .inl ⟨rfl, rfl⟩
 ·simp only [go_sem, ↓reduceIte, ↓gA, ↓gB, ↓gC, ↓gD, ↓cA, ↓cB, c_prune_Ladder, eSp, spc_r hz hI, h, hcal (K := fun _ _ => True), h0, if_false]
  refine ⟨?_, .inr ⟨h0, 1, 1, [], 0, by rw [List.length_map], rfl⟩⟩
  rw [List.map_map]; rfl
theorem ladder_bad (s : Spc) (hz : SpSz s) (hI : SpI s) (h : ¬ SpcOk s) : FnQ G f_prune_Ladder [eSp s] (fun rs h => rs = [.nils, I 30]) := by
 refine FnQ.mk' g_prune_Ladder rfl rfl ?_
 simp only [go_sem, ↓reduceIte, ↓gA, ↓gB, ↓gC, ↓gD, ↓cA, ↓cB, c_prune_Ladder, eSp, spc_r hz hI, h]
open Classical in
noncomputable def holR (s : Spc) : List Nat × Int := if SpcOk s then (holN s, 0) else ([], 30)
theorem pHollow_ok (s : Spc) (hz : SpSz s) (hI : SpI s) : Fn G f_prune_Hollow [eSp s] (.tup [.lst ((holR s).1.map eN), I (holR s).2]) := by
 refine FnP.mk' g_prune_Hollow rfl rfl ?_
 by_cases h : SpcOk s
 ·obtain ⟨l, hl, hm, hr⟩ := ladder_ok s h hI
  have hperm := lad_perm hl hm
  have hll := nodup_len hl.nd hl.lt
  have hS := (h.b hz).sz
  by_cases h0 : l = []
  ·have hc : ∀ {fr : Bool} {roots : List Nat} {b s1 : Nat} {σ : St} {k : AV → St → Prop}, callT G f_prune_Ladder [.agg [.lst (s.acts.map .str), .lst (s.S.map eSt)]] fr roots b [s1] σ k = k (.tup [.emp, I 0]) σ := FnQ.nil2 (.inr rfl) (hr.mono fun rs h q => by
    rcases q.2 with q | q
    ·exact q.2
    ·exact absurd h0 q.1)
   simp only [go_sem, ↓reduceIte, ↓gA, ↓gB, ↓gC, ↓gD, ↓cA, ↓cB, c_prune_Hollow, eSp, hc]
   refine sort0_ok (.inr rfl) ?_
   have hn : holN s = [] := by rw [h0] at hperm; exact hperm.symm.eq_nil
   simp only [go_sem, ↓reduceIte, ↓gA, ↓gB, ↓gC, ↓gD, ↓cA, ↓cB, holR, h, if_true, hn]
  ·have hc : ∀ {fr : Bool} {roots : List Nat} {b s1 : Nat} {σ : St} {k : AV → St → Prop}, callT G f_prune_Ladder [.agg [.lst (s.acts.map .str), .lst (s.S.map eSt)]] fr roots b [s1] σ k = newK (if fr then σ.h else dropRoots σ.h roots) (b + s1) (.own 1 (l.map eN)) (fun h st => k (.tup [.sl (b + s1) st [] 0 0 (l.map eN).length, I 0]) { σ with h }) := FnQ.rule2 (hr.mono fun rs h q => by
    rcases q.2 with q | q
    ·exact absurd q.1 h0
    ·exact q.2) plainN
   simp only [go_sem, ↓reduceIte, ↓gA, ↓gB, ↓gC, ↓gD, ↓cA, ↓cB, c_prune_Hollow, eSp, hc]
   have hmap : (l.map fun n : Nat => (n : Int)).map I = l.map eN := by rw [List.map_map]; rfl
   have hh : ([⟨1, 0, .own 2 [.agg [.lst (s.acts.map .str), .lst (s.S.map eSt)]]⟩, ⟨1, 0, .own 1 (l.map eN)⟩] : List Ob) = dh [⟨1, 0, .own 2 [.agg [.lst (s.acts.map .str), .lst (s.S.map eSt)]]⟩, goneOb] 1 1 0 (l.map fun n : Nat => (n : Int)) := by
    unfold dh; rw [hmap]; rfl
   rw [hh]
   have hs2 := h.s2
   refine sortI_ok (by simp; omega) (by simp) (by simp) (fun l' h1 h2 => ?_)
   have e : l' = (holN s).map fun n : Nat => (n : Int) := by
    refine srt_of ((List.pairwise_lt_range).filter _) (h1.perm.trans (hperm.map _)) ?_
    rw [h1.len]; exact h2
   have hlen : l.length = (holN s).length := hperm.length_eq
   have hmap2 : ((holN s).map fun n : Nat => (n : Int)).map I = (holN s).map eN := by rw [List.map_map]; rfl
   have hh2 : dh [⟨1, 0, .own 2 [.agg [.lst (s.acts.map .str), .lst (s.S.map eSt)]]⟩, ⟨0, 0, .gone⟩] 1 1 0 l' = [⟨1, 0, .own 2 [.agg [.lst (s.acts.map .str), .lst (s.S.map eSt)]]⟩, ⟨1, 0, .own 1 ((holN s).map eN)⟩] := by
    rw [e]; unfold dh; rw [hmap2]; rfl
   simp only [go_sem, ↓reduceIte, ↓gA, ↓gB, ↓gC, ↓gD, ↓cA, ↓cB, hh2, hlen, holR, h, if_true]
   rw [List.map_map]; rfl
 ·have hc : ∀ {fr : Bool} {roots : List Nat} {b s1 : Nat} {σ : St} {k : AV → St → Prop}, callT G f_prune_Ladder [.agg [.lst (s.acts.map .str), .lst (s.S.map eSt)]] fr roots b [s1] σ k = k (.tup [.nils, I 30]) σ := FnQ.nil2 (.inl rfl) (ladder_bad s hz hI h)
  simp only [go_sem, ↓reduceIte, ↓gA, ↓gB, ↓gC, ↓gD, ↓cA, ↓cB, c_prune_Hollow, eSp, hc]
  refine sort0_ok (.inl rfl) ?_
  simp only [go_sem, ↓reduceIte, ↓gA, ↓gB, ↓gC, ↓gD, ↓cA, ↓cB, holR, h, if_false]
end Go.Mw
/- The law of hollow states and ladders. -/
namespace Go.Mw
set_option maxRecDepth 100000
def plP (q : List Bool) (i : Nat) : List Nat := (List.range i).filter fun x => q[x]!
theorem plP_succ {q : List Bool} {i : Nat} : plP q (i + 1) = if q[i]! = true then plP q i ++ [i] else plP q i := by
 unfold plP; rw [List.range_succ, List.filter_append]
 cases h : q[i]! with
 | true => rw [if_pos rfl]; congr 1; rw [List.filter_cons, if_pos h]; rfl
 | false => rw [if_neg (by simp), List.filter_cons, if_neg (by rw [h]; simp)]; simp
theorem plP_len {q : List Bool} {i : Nat} : (plP q i).length ≤ i := Nat.le_trans (List.length_filter_le _ _) (by simp)
theorem places_ok (q : List Bool) (hq : q.length ≤ 1048576) : Fn G f_r04_Places [.lst (q.map Bo)] (.lst ((plP q q.length).map eN)) := by
 refine FnP.mk' g_r04_Places rfl rfl ?_
 simp only [go_sem, ↓reduceIte, ↓gA, ↓gB, ↓gC, ↓gD, ↓cA, ↓cB, c_r04_Places]
 refine wp_loopQ (fun (i : Nat) σ => i ≤ q.length ∧ ∃ a0 c0 a1 c1, σ = ⟨aT .undef 20 [(3, rowv .nils 1 1 a1 ((plP q i).map eN)), (6, .lst (q.map Bo)), (7, I q.length), (8, I i)], [⟨a0, c0, .gone⟩, ⟨a1, c1, rowo 1 ((plP q i).map eN)⟩], []⟩) (fun i => q.length - i) ?_ 0 ?_
 ·rintro i σ ⟨hi, a0, c0, a1, c1, rfl⟩ N Q hQ hN
  by_cases hlt : i < q.length
  ·have hpl := @plP_len q i
   have hsu := @plP_succ q i
   simp only [go_sem, ↓reduceIte, ↓gA, ↓gB, ↓gC, ↓gD, ↓cA, ↓cB, wrap_succ hlt (by omega), Int.ofNat_lt, hlt]
   refine ⟨fun ht => ⟨by omega, ?_⟩, fun hf => ?_⟩
   ·rw [if_pos ht] at hsu
    refine hN (i + 1) _ (by omega) ⟨by omega, ?_⟩
    rw [hsu]
    simp only [go_sem, ↓reduceIte, ↓gA, ↓gB, ↓gC, ↓gD, ↓cA, ↓cB, List.map_append, List.map_cons, List.map_nil, eN]
    repeat apply Exists.intro
    rfl
   ·rw [if_neg (by rw [hf]; simp)] at hsu
    refine hN (i + 1) _ (by omega) ⟨by omega, ?_⟩
    rw [hsu]
    simp only [go_sem, ↓reduceIte, ↓gA, ↓gB, ↓gC, ↓gD, ↓cA, ↓cB]
    repeat apply Exists.intro
    rfl
  ·have hil : i = q.length := by omega
   subst hil hQ
   simp only [go_sem, ↓reduceIte, ↓gA, ↓gB, ↓gC, ↓gD, ↓cA, ↓cB, Int.ofNat_lt, hlt]
   rw [List.map_map]; rfl
 ·refine ⟨by omega, 0, 0, 0, 0, ?_⟩
  simp only [go_sem, ↓reduceIte, ↓gA, ↓gB, ↓gC, ↓gD, ↓cA, ↓cB]
  rfl
theorem lad_of {s : Spc} {l : List Nat} (h : IsLad s l) : ∀ d i (q : List Bool), l.length - i = d → i ≤ l.length → q.length = s.S.length → (∀ x < s.S.length, q[x]! = true ↔ x ∈ l.take i) → (ladRun s q ((l.map fun n : Nat => (n : Int)).drop i)).isSome = true := by
 intro d
 induction d with
 | zero =>
   intro i q hd hi hq hm
   rw [ladRun_end (by simp; omega)]; rfl
 | succ d ih =>
   intro i q hd hi hq hm
   have hlt : i < l.length := by omega
   have hge : (l.map fun n : Nat => (n : Int))[i]! = (l[i]! : Nat) := by
    rw [getElem!_pos _ i (by simpa using hlt), getElem!_pos l i hlt, List.getElem_map]
   rw [ladRun_step (by simpa using hlt), hge]
   have hx : l[i]! < s.S.length := h.lt _ (getMem hlt)
   have hnot : l[i]! ∉ l.take i := by
    have := h.nd
    intro hc
    obtain ⟨j, hj, e⟩ := List.mem_iff_getElem.1 hc
    rw [List.getElem_take] at e
    rw [List.length_take] at hj
    rw [getElem!_pos l i hlt] at e
    have := (List.getElem_inj h.nd).1 e
    omega
   have hfalse : q[l[i]!]! = false := by
    cases hv : q[l[i]!]! with
    | false => rfl
    | true => exact absurd ((hm _ hx).1 hv) hnot
   have hall : AllDie s.S[l[i]!]! (inB q) := by
    intro j hj
    obtain ⟨a, g1, g2, g3, g4⟩ := h.up i hlt j hj
    exact ⟨a, g1, g2, g3, (hm _ (h.lt _ (List.mem_of_mem_take g4))).2 g4⟩
   unfold ladStep
   rw [if_pos ⟨by omega, by omega, by simpa using hfalse, by simpa using hall⟩]
   refine ih (i + 1) _ (by omega) (by omega) (by simpa using hq) (fun x hxn => ?_)
   rw [Int.toNat_natCast, getS1 (by omega), List.take_succ_eq_append_getElem hlt, List.mem_append, List.mem_singleton, ← hm x hxn, getElem!_pos l i hlt]
   split
   ·rename_i e; simp [e]
   ·rename_i e; exact ⟨.inl, fun h => h.resolve_right (fun h => e h.symm)⟩
theorem lad_is {s : Spc} {l : List Nat} (h : IsLad s l) : (lad s (l.map fun n : Nat => (n : Int))).isSome = true := by
 have := lad_of h l.length 0 (List.replicate s.S.length false) (by simp) (by omega) (by simp) (fun x hx => by
  simp [List.getElem!_eq_getElem?_getD, List.getElem?_replicate, hx])
 exact this
theorem holN_eq {s : Spc} : plP (holL s) (holL s).length = holN s := by
 unfold holN plP
 have : (holL s).length = s.S.length := by simp [holL]
 rw [this]
theorem pruneHollow_ok (s : Spc) (hs : SpBig s) (l : List Int) : FnT G f_w04_PruneHollow [eSp s, .lst (l.map I)] (Bo true) := by
 obtain ⟨v, hv, hP⟩ := light04_big s hs
 have hI := hs.fi
 have hcall : ∀ {fr : Bool} {roots : List Nat} {b : Nat} {ss : List Nat} {σ : St} {k : AV → St → Prop}, callT G f_w04_light [.agg [.lst (s.acts.map .str), .lst (s.S.map eSt)]] fr roots b ss σ k = k (Bo v) σ := hv.rule
 refine FnP.mk' g_w04_PruneHollow rfl rfl ?_
 cases v with
 | false => simp only [go_sem, ↓reduceIte, ↓gA, ↓gB, ↓gC, ↓gD, ↓cA, ↓cB, c_w04_PruneHollow, eSp, hcall, awake04_r]
 | true =>
   obtain ⟨hz, _⟩ := hP rfl
   have hho : ∀ {roots : List Nat} {b : Nat} {ss : List Nat} {σ : St} {k : AV → St → Prop}, callT G f_prune_Hollow [.agg [.lst (s.acts.map .str), .lst (s.S.map eSt)]] true roots b ss σ k = k (.tup [.lst ((holR s).1.map eN), I (holR s).2]) σ := (pHollow_ok s hz hI).rule
   by_cases h200 : (200 : Int) < (l.length : Int)
   ·simp only [go_sem, ↓reduceIte, ↓gA, ↓gB, ↓gC, ↓gD, ↓cA, ↓cB, c_w04_PruneHollow, eSp, hcall, awake04_r, h200]
   have hl : l.length ≤ 1048576 := by omega
   have hil : ∀ {fr : Bool} {roots : List Nat} {b : Nat} {ss : List Nat} {σ : St} {k : AV → St → Prop}, callT G f_prune_IsLadder [.agg [.lst (s.acts.map .str), .lst (s.S.map eSt)], .lst (l.map I)] fr roots b ss σ k = k (pLadR s l) σ := (pIsLad_ok s hz hI l hl).rule
   by_cases h : SpcOk s
   ·have hb := h.b hz
    obtain ⟨ld, h1, h2, h3⟩ := ladder_ok s h hI
    have hld : ∀ {roots : List Nat} {b : Nat} {σ : St} {k : AV → St → Prop}, callT G f_prune_Ladder [.agg [.lst (s.acts.map .str), .lst (s.S.map eSt)]] true roots b [] σ k = k (.tup [.lst (ld.map eN), I 0]) σ := (h3.mono fun _ _ h => h.1).rule
    have hpl : ∀ {roots : List Nat} {b : Nat} {ss : List Nat} {σ : St} {k : AV → St → Prop}, callT G f_r04_Places [.lst ((holL s).map Bo)] true roots b ss σ k = k (.lst ((holN s).map eN)) σ := holN_eq (s := s) ▸ (places_ok (holL s) (by simp [holL]; exact hb.sz)).rule
    have hr1 : ∀ {fr : Bool} {roots : List Nat} {b : Nat} {ss : List Nat} {σ : St} {k : AV → St → Prop}, callT G f_r04_IsLadder [.agg [.lst (s.acts.map .str), .lst (s.S.map eSt)], .lst (l.map I)] fr roots b ss σ k = k (Bo (lad s l).isSome) σ := (ladR_ok s hb l hl).rule
    have hlen : ld.length = (holN s).length := (lad_perm h1 h2).length_eq
    have hnl := @holN_len s
    have hS := hb.sz
    have hr2 : ∀ {fr : Bool} {roots : List Nat} {b : Nat} {ss : List Nat} {σ : St} {k : AV → St → Prop}, callT G f_r04_IsLadder [.agg [.lst (s.acts.map .str), .lst (s.S.map eSt)], .lst (ld.map eN)] fr roots b ss σ k = k (Bo true) σ := by
     have e : ld.map eN = (ld.map fun n : Nat => (n : Int)).map I := by rw [List.map_map]; rfl
     intros
     rw [e, ← lad_is h1]
     exact (ladR_ok s hb _ (by simp; omega)).rule
    have hbb : ((lad s l).isSome == (lad s l).isSome) = true := by simp
    have hii : (((holN s).length : Int) == ((holN s).length : Int)) = true := by simp
    simp only [go_sem, ↓reduceIte, ↓gA, ↓gB, ↓gC, ↓gD, ↓cA, ↓cB, c_w04_PruneHollow, eSp, hcall, awake04_r, h200, spcR_r hz, h, hollowR_r hb, hpl, hr1, hr2, spcCopy_r hz, hho, hld, hil, holR, pLadR, sameN_r (show (holN s).length ≤ 1048576 by omega), hlen, hbb, hii]
    exact ⟨by omega, fun h => by cases h⟩
   ·have hld : ∀ {roots : List Nat} {b : Nat} {σ : St} {k : AV → St → Prop}, callT G f_prune_Ladder [.agg [.lst (s.acts.map .str), .lst (s.S.map eSt)]] true roots b [] σ k = k (.tup [.lst [], I 30]) σ := ((ladder_bad s hz hI h).mono fun _ _ h => by rw [h]; rfl).rule
    simp only [go_sem, ↓reduceIte, ↓gA, ↓gB, ↓gC, ↓gD, ↓cA, ↓cB, c_w04_PruneHollow, eSp, hcall, awake04_r, h200, spcR_r hz, h, spcCopy_r hz, hho, hld, hil, holR, pLadR]
    omega
end Go.Mw
