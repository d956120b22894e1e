/- Pairs that are met for sets of products at once, plainly. -/
import Derived.Test.YtlkjckdddfckeaaM20
namespace Go.Mw
set_option linter.unusedVariables false
set_option linter.unusedSimpArgs false
set_option maxRecDepth 100000
/-- a set without another one -/
def andn (m n : Nat) : Nat := m ^^^ (m &&& n)
theorem andn_test {m n a : Nat} : (andn m n).testBit a = (m.testBit a && !n.testBit a) := by
  unfold andn; rw [Nat.testBit_xor, Nat.testBit_and]; cases m.testBit a <;> cases n.testBit a <;> rfl
theorem testBit_eq {m n : Nat} (h : ∀ a, m.testBit a = n.testBit a) : m = n := Nat.eq_of_testBit_eq h
theorem bandn_nat {m n : Nat} (hm : m < 2 ^ 63) (hn : n < 2 ^ 63) : bandn .i64 (m : Int) (n : Int) = ((andn m n : Nat) : Int) := by
  unfold bandn
  have hb : IntKind.i64.bits = 64 := rfl
  rw [hb, BitVec.ofInt_natCast, BitVec.ofInt_natCast]
  have hle : (BitVec.ofNat 64 m &&& ~~~ BitVec.ofNat 64 n).toNat < 2 ^ 63 := by
    rw [BitVec.toNat_and, BitVec.toNat_ofNat]
    exact Nat.lt_of_le_of_lt (Nat.and_le_left) (by rw [Nat.mod_eq_of_lt (by omega)]; exact hm)
  rw [wrapN hle]
  congr 1
  apply testBit_eq
  intro a
  rw [andn_test, BitVec.testBit_toNat, BitVec.getLsbD_and, BitVec.getLsbD_not, BitVec.getLsbD_ofNat, BitVec.getLsbD_ofNat]
  by_cases h64 : a < 64
  · simp [h64]
  · have : m.testBit a = false := Nat.testBit_lt_two_pow (Nat.lt_of_lt_of_le hm (Nat.pow_le_pow_right (by omega) (by omega)))
    simp [h64, this]
theorem testBit_lt {n P a : Nat} (h : n < 2 ^ P) (ha : n.testBit a = true) : a < P := by
  rcases Nat.lt_or_ge a P with h1 | h1
  · exact h1
  · rw [testBit_big h h1] at ha; cases ha
theorem lt_of_bits {n P : Nat} (h : ∀ a, n.testBit a = true → a < P) : n < 2 ^ P := by
  apply Nat.lt_pow_two_of_testBit
  intro i hi
  cases hb : n.testBit i with
  | false => rfl
  | true => have := h i hb; omega
/-- how many products are not in a set -/
def zerosN (P n : Nat) : Nat := ((List.range P).filter fun p => !n.testBit p).length
theorem zerosN_le {P n : Nat} : zerosN P n ≤ P := by unfold zerosN; exact Nat.le_trans (List.length_filter_le _ _) (by simp)
theorem filt_lt {l : List Nat} {p q : Nat → Bool} (h : ∀ a, q a = true → p a = true) {b : Nat} (hb : b ∈ l) (h1 : p b = true) (h2 : q b = false) : (l.filter q).length < (l.filter p).length := by
  have hle : ∀ l : List Nat, (l.filter q).length ≤ (l.filter p).length := by
    intro l
    induction l with
    | nil => simp
    | cons a l ih =>
      simp only [List.filter_cons]
      have := h a
      cases hq : q a <;> cases hp : p a <;> simp_all <;> omega
  induction l with
  | nil => cases hb
  | cons a l ih =>
    simp only [List.filter_cons]
    have h0 := h a
    have h3 := hle l
    rcases List.mem_cons.1 hb with rfl | hb
    · simp only [h1, h2, if_true, List.length_cons]; simp; omega
    · have := ih hb
      cases hq : q a <;> cases hp : p a <;> simp_all <;> omega
theorem zerosN_lt {P n n' : Nat} (h : ∀ a, n.testBit a = true → n'.testBit a = true) {b : Nat} (hb : b < P) (h1 : n.testBit b = false) (h2 : n'.testBit b = true) : zerosN P n' < zerosN P n := by
  unfold zerosN
  refine filt_lt (fun a ha => ?_) (b := b) (by simpa using hb) (by simp [h1]) (by simp [h2])
  cases hn : n.testBit a with
  | false => rfl
  | true => rw [h a hn] at ha; simp at ha
def sumR (n : Nat) (f : Nat → Nat) : Nat := ((List.range n).map f).sum
theorem sumR_succ {n : Nat} {f : Nat → Nat} : sumR (n + 1) f = sumR n f + f n := by
  unfold sumR; rw [List.range_succ, List.map_append, List.sum_append]; simp
theorem sumR_le {n k : Nat} {f : Nat → Nat} (h : ∀ i < n, f i ≤ k) : sumR n f ≤ n * k := by
  induction n with
  | zero => simp [sumR]
  | succ n ih => rw [sumR_succ, Nat.add_mul]; have := ih (fun i hi => h i (by omega)); have := h n (by omega); omega
theorem sumR_lt {n : Nat} {f g : Nat → Nat} {i : Nat} (hi : i < n) (h1 : g i < f i) (h2 : ∀ j < n, j ≠ i → g j = f j) : sumR n g < sumR n f := by
  have heq : ∀ k, k ≤ n → k ≤ i → sumR k g = sumR k f := by
    intro k
    induction k with
    | zero => intro _ _; rfl
    | succ k ih => intro h3 h4; rw [sumR_succ, sumR_succ, ih (by omega) (by omega), h2 k (by omega) (by omega)]
  have key : ∀ k, i < k → k ≤ n → sumR k g < sumR k f := by
    intro k
    induction k with
    | zero => intro h; omega
    | succ k ih =>
      intro h3 h4
      rw [sumR_succ, sumR_succ]
      by_cases e : k = i
      · subst e; rw [heq k (by omega) (by omega)]; omega
      · rw [h2 k (by omega) e]; have := ih (by omega) (by omega); omega
  exact key n hi (Nat.le_refl _)
/-- how much is still to be met -/
def pot (M S P : Nat) (R : Nat → Nat → Nat) : Nat := sumR M fun x => sumR S fun y => zerosN P (R x y)
def updR (R : Nat → Nat → Nat) (x y v : Nat) : Nat → Nat → Nat := fun x' y' => if x' = x ∧ y' = y then v else R x' y'
theorem updR_self {R : Nat → Nat → Nat} {x y v : Nat} : updR R x y v x y = v := by simp [updR]
theorem pot_le {M S P : Nat} {R : Nat → Nat → Nat} : pot M S P R ≤ M * (S * P) := sumR_le fun x _ => sumR_le fun y _ => zerosN_le
theorem pot_upd {M S P : Nat} {R : Nat → Nat → Nat} {x y v : Nat} (hx : x < M) (hy : y < S) (h : zerosN P v < zerosN P (R x y)) : pot M S P (updR R x y v) < pot M S P R := by
  refine sumR_lt hx (sumR_lt hy (by simpa [updR] using h) (fun j _ hj => by simp [updR, hj])) (fun j _ hj => ?_)
  simp [updR, hj]
open Classical in
/-- what is kept while pairs are met: Q: the pairs that are to be looked at; (x, y): the one that is being looked at, for the products H -/
structure SI (m : Sys) (f : Fam) (P : Nat) (good : Nat) (R : Nat → Nat → Nat) (Q : List (Nat × Nat)) (I : Option (Nat × Nat × Nat)) : Prop where
  gl : good < 2 ^ P
  q : ∀ p ∈ Q, p.1 < m.S.length ∧ p.2 < f.S.length
  a : ∀ p x y, (R x y).testBit p = true → p < P ∧ Rch m (prodOf f p) x y
  z : ∀ p < P, (R 0 0).testBit p = true
  g : ∀ p < P, good.testBit p = false → ¬ Sat m (prodOf f p)
  c : ∀ p, good.testBit p = true → ∀ x y, (R x y).testBit p = true → (x, y) ∈ Q ∨ (∃ H, I = some (x, y, H) ∧ H.testBit p = true) ∨ (goodP m (prodOf f p) x y ∧ ∀ i < m.S[x]!.length, (R m.S[x]![i]!.t.toNat (nxt (prodOf f p) y m.S[x]![i]!.a.toNat).toNat).testBit p = true)
theorem SI.rl {m : Sys} {f : Fam} {P good : Nat} {R : Nat → Nat → Nat} {Q : List (Nat × Nat)} {I : Option (Nat × Nat × Nat)} (h : SI m f P good R Q I) (x y : Nat) : R x y < 2 ^ P := lt_of_bits fun a ha => (h.a a x y ha).1
/-- at the end: the good products are those that are satisfied -/
theorem SI.fin {m : Sys} {f : Fam} {P good : Nat} {R : Nat → Nat → Nat} (h : SI m f P good R [] none) : good = bitsN (satP m f) P := by
  apply testBit_eq
  intro p
  rw [bitsN_test]
  by_cases hp : p < P
  · cases hg : good.testBit p with
    | true =>
      have : Sat m (prodOf f p) := by
        refine sat_of (P := fun x y => (R x y).testBit p = true) ⟨h.z p hp, fun x y hr _ i hi => ?_⟩ (fun x y hr => ?_)
        · rcases h.c p hg x y hr with h1 | ⟨H, h1, _⟩ | h1
          · cases h1
          · cases h1
          · exact h1.2 i hi
        · rcases h.c p hg x y hr with h1 | ⟨H, h1, _⟩ | h1
          · cases h1
          · cases h1
          · exact h1.1
      simp [hp, satP, this]
    | false => simp [hp, satP, h.g p hp hg]
  · have hg : good.testBit p = false := by
      cases hg : good.testBit p with
      | false => rfl
      | true => have := testBit_lt h.gl hg; omega
    simp [hp, hg]
/-- a pair is taken up: what of it is good -/
theorem SI.take {m : Sys} {f : Fam} {P good : Nat} {R : Nat → Nat → Nat} {Q : List (Nat × Nat)} {x y acc : Nat} (h : SI m f P good R ((x, y) :: Q) none) (hacc : ∀ p < P, acc.testBit p = true ↔ goodP m (prodOf f p) x y) :
    SI m f P (andn good (andn (R x y &&& good) acc)) R Q (some (x, y, R x y &&& good &&& acc)) := by
  have hgb : ∀ p, (andn good (andn (R x y &&& good) acc)).testBit p = (good.testBit p && !((R x y).testBit p && !acc.testBit p)) := by
    intro p; rw [andn_test, andn_test, Nat.testBit_and]
    cases good.testBit p <;> cases (R x y).testBit p <;> cases acc.testBit p <;> rfl
  refine ⟨lt_of_bits fun p hp => ?_, fun p hp => h.q p (List.mem_cons_of_mem _ hp), h.a, h.z, fun p hp hg => ?_, fun p hp x' y' hr => ?_⟩
  · rw [hgb] at hp; exact testBit_lt h.gl (by simp at hp; exact hp.1)
  · rw [hgb] at hg
    cases hgo : good.testBit p with
    | false => exact h.g p hp hgo
    | true =>
      rw [hgo] at hg
      simp at hg
      obtain ⟨h1, h2⟩ := hg
      intro hs
      have := (hacc p hp).2 (hs x y (h.a p x y h1).2)
      rw [h2] at this; cases this
  · rw [hgb] at hp
    simp only [Bool.and_eq_true, Bool.not_eq_true'] at hp
    rcases h.c p hp.1 x' y' hr with h1 | ⟨H, h1, _⟩ | h1
    · rcases List.mem_cons.1 h1 with h1 | h1
      · simp only [Prod.mk.injEq] at h1
        obtain ⟨rfl, rfl⟩ := h1
        right; left
        refine ⟨_, rfl, ?_⟩
        rw [Nat.testBit_and, Nat.testBit_and, hr, hp.1]
        have := hp.2
        rw [hr] at this
        simpa using this
      · exact .inl h1
    · cases h1
    · exact .inr (.inr h1)
/-- more is met at a pair -/
theorem SI.more {m : Sys} {f : Fam} {P good : Nat} {R : Nat → Nat → Nat} {Q : List (Nat × Nat)} {x y H tx ty mo : Nat} (h : SI m f P good R Q (some (x, y, H))) (htx : tx < m.S.length) (hty : ty < f.S.length)
    (hm : ∀ p, mo.testBit p = true → p < P ∧ Rch m (prodOf f p) tx ty) : SI m f P good (updR R tx ty (R tx ty ||| mo)) (Q ++ [(tx, ty)]) (some (x, y, H)) := by
  have hu : ∀ p x' y', (updR R tx ty (R tx ty ||| mo) x' y').testBit p = true ↔ (R x' y').testBit p = true ∨ (x' = tx ∧ y' = ty ∧ mo.testBit p = true) := by
    intro p x' y'
    unfold updR
    split
    · rename_i e; obtain ⟨rfl, rfl⟩ := e; rw [Nat.testBit_or, Bool.or_eq_true]; simp
    · rename_i e; exact ⟨.inl, fun h => h.resolve_right (fun h => e ⟨h.1, h.2.1⟩)⟩
  refine ⟨h.gl, fun p hp => ?_, fun p x' y' hr => ?_, fun p hp => (hu p 0 0).2 (.inl (h.z p hp)), h.g, fun p hp x' y' hr => ?_⟩
  · rw [List.mem_append, List.mem_singleton] at hp
    rcases hp with hp | rfl
    · exact h.q p hp
    · exact ⟨htx, hty⟩
  · rcases (hu p x' y').1 hr with hr' | ⟨e1, e2, hr'⟩
    · exact h.a p x' y' hr'
    · rw [e1, e2]; exact hm p hr'
  · rcases (hu p x' y').1 hr with hr | ⟨rfl, rfl, _⟩
    · rcases h.c p hp x' y' hr with h1 | h1 | ⟨h1, h2⟩
      · exact .inl (List.mem_append_left _ h1)
      · exact .inr (.inl h1)
      · exact .inr (.inr ⟨h1, fun i hi => (hu p _ _).2 (.inl (h2 i hi))⟩)
    · exact .inl (List.mem_append_right _ (List.mem_singleton_self _))
/-- a pair is done -/
theorem SI.done {m : Sys} {f : Fam} {P good : Nat} {R : Nat → Nat → Nat} {Q : List (Nat × Nat)} {x y H : Nat} (h : SI m f P good R Q (some (x, y, H))) (hg : ∀ p, H.testBit p = true → goodP m (prodOf f p) x y)
    (hd : ∀ p, H.testBit p = true → ∀ i < m.S[x]!.length, (R m.S[x]![i]!.t.toNat (nxt (prodOf f p) y m.S[x]![i]!.a.toNat).toNat).testBit p = true) : SI m f P good R Q none := by
  refine ⟨h.gl, h.q, h.a, h.z, h.g, fun p hp x' y' hr => ?_⟩
  rcases h.c p hp x' y' hr with h1 | ⟨H', h1, h2⟩ | h1
  · exact .inl h1
  · simp only [Option.some.injEq, Prod.mk.injEq] at h1
    obtain ⟨rfl, rfl, rfl⟩ := h1
    exact .inr (.inr ⟨hg p h2, hd p h2⟩)
  · exact .inr (.inr h1)
end Go.Mw

/- Which products a system satisfies, as the program finds them. -/
namespace Go.Mw
set_option linter.unusedVariables false
set_option linter.unusedSimpArgs false
set_option maxRecDepth 100000
theorem mv1_move {nt t s r st ss ss1 len es a c : Nat} {xs : List AV} {d : AV} {l : List (Nat × AV)} {h : List Ob} {lp : List Lp} (hl : look d t l = .sl r st [] ss 0 len) (hr : h[r]? = some ⟨st, ss1, .own es xs⟩) (hs : h[s]? = some ⟨a, c, .gone⟩) (hn : r ≠ s) (hx : len = xs.length) (ht : t < nt) :
    mv1 0 t s ⟨aT d nt l, h, lp⟩ = ⟨aT d nt ((t, .sl s (a + 1) [] 0 0 len) :: dropK t l), (h.set r ⟨st, ss1, .gone⟩).set s ⟨a + 1, 0, .own es xs⟩, lp⟩ := by
  have e1 := frz1_eq (d := d) (l := l) (h := h) (lp := lp) ht
  have hnd : node h r st [] ss = some (.own es xs) := by simp [node, hr, nav]
  have ha : (aT d nt l)[t]? = some (.sl r st [] ss 0 len) := by rw [aT_get ht, hl]
  simp only [mv1, ha, hnd, hr, Nat.zero_add, hs]
  rw [if_pos ⟨hn, hx⟩]
  congr 1
  rw [aT_set ht]
  apply List.ext_getElem?
  intro i
  by_cases hi : i < nt
  · rw [aT_get hi, aT_get hi]
    simp only [look]
    split
    · rfl
    · rename_i e; rw [look_dropK e]
  · rw [List.getElem?_eq_none (by rw [aT_len]; omega), List.getElem?_eq_none (by rw [aT_len]; omega)]
theorem mv1_stay {nt t s st ss len : Nat} {d : AV} {l : List (Nat × AV)} {h : List Ob} {lp : List Lp} (hl : look d t l = .sl s st [] ss 0 len) (ht : t < nt) : mv1 0 t s ⟨aT d nt l, h, lp⟩ = ⟨aT d nt ((t, .sl s st [] ss 0 len) :: dropK t l), h, lp⟩ := by
  have ha : (aT d nt l)[t]? = some (.sl s st [] ss 0 len) := by rw [aT_get ht, hl]
  have hsame : aT d nt ((t, .sl s st [] ss 0 len) :: dropK t l) = aT d nt l := by
    apply List.ext_getElem?
    intro i
    by_cases hi : i < nt
    · rw [aT_get hi, aT_get hi]
      simp only [look]
      split
      · rename_i e; subst e; rw [hl]
      · rename_i e; rw [look_dropK e]
    · rw [List.getElem?_eq_none (by rw [aT_len]; omega), List.getElem?_eq_none (by rw [aT_len]; omega)]
  rw [hsame]
  simp only [mv1, ha, Nat.zero_add]
  split
  · split
    · rw [if_neg (fun h => h.1 rfl)]
    · rfl
  · rfl
attribute [go_sem] wp_mvt
theorem eqS_ok (l k : List ByteArray) (hl : l.length ≤ 1048576) (hk : k.length ≤ 1048576) : FnT G f_slices_Equal___string_string_ [.lst (l.map .str), .lst (k.map .str)] (Bo (decide (l = k))) := by
  refine FnP.mk' g_slices_Equal___string_string_ rfl rfl ?_
  simp only [go_sem, ↓reduceIte, ↓guardT_tt, ↓guardT_tf, ↓guardT_ft, ↓guardT_ff, ↓condT_t, ↓condT_f, c_slices_Equal___string_string_]
  refine ⟨fun h => ?_, fun h => ?_⟩
  · have h1 := h
    rw [decide_eq_false]
    intro e; subst e; simp at h1
  · have hlk : l.length = k.length := by have := h; simp at this; omega
    refine wp_loopQ (fun (i : Nat) σ => i ≤ l.length ∧ (∀ j < i, l[j]! = k[j]!) ∧ σ = ⟨aT .undef 26 [(0, .lst (l.map .str)), (1, .lst (k.map .str)), (12, I l.length), (13, I i)], [], []⟩) (fun i => l.length - i) ?_ 0 ?_
    · rintro i σ ⟨hi, hall, rfl⟩ N Q hQ hN
      by_cases hlt : i < l.length
      · have hltk : i < k.length := by omega
        simp only [go_sem, ↓reduceIte, ↓guardT_tt, ↓guardT_tf, ↓guardT_ft, ↓guardT_ff, ↓condT_t, ↓condT_f, wrap_succ hlt (by omega), Int.ofNat_lt, hlt, hltk]
        refine ⟨fun h => ?_, fun h => ?_⟩
        · subst hQ; simp only [go_sem, ↓reduceIte, ↓guardT_tt, ↓guardT_tf, ↓guardT_ft, ↓guardT_ff, ↓condT_t, ↓condT_f]
          rw [decide_eq_false (fun e => h (by rw [e]))]
        · refine hN (i + 1) _ (by omega) ⟨by omega, forall_lt_succ hall h, ?_⟩
          simp only [go_sem, ↓reduceIte, ↓guardT_tt, ↓guardT_tf, ↓guardT_ft, ↓guardT_ff, ↓condT_t, ↓condT_f]
      · have hil : i = l.length := by omega
        subst hil hQ
        simp only [go_sem, ↓reduceIte, ↓guardT_tt, ↓guardT_tf, ↓guardT_ft, ↓guardT_ff, ↓condT_t, ↓condT_f, Int.ofNat_lt, hlt]
        rw [decide_eq_true]
        apply List.ext_getElem hlk
        intro j h1 h2
        have := hall j h1
        rwa [getElem!_pos l j h1, getElem!_pos k j h2] at this
    · exact ⟨by omega, by simp, by simp only [go_sem, ↓reduceIte, ↓guardT_tt, ↓guardT_tf, ↓guardT_ft, ↓guardT_ff, ↓condT_t, ↓condT_f]⟩
theorem sameSR_ok (l k : List ByteArray) (hl : l.length ≤ 1048576) (hk : k.length ≤ 1048576) : FnT G f_makeweightref01_SameStrings [.lst (l.map .str), .lst (k.map .str)] (Bo (decide (l = k))) := by
  refine FnP.mk' g_makeweightref01_SameStrings rfl rfl ?_
  simp only [go_sem, ↓reduceIte, ↓guardT_tt, ↓guardT_tf, ↓guardT_ft, ↓guardT_ff, ↓condT_t, ↓condT_f, c_makeweightref01_SameStrings]
  refine ⟨fun h => ?_, fun h => ?_⟩
  · have h1 := h
    rw [decide_eq_false]
    intro e; subst e; simp at h1
  · have hlk : l.length = k.length := by have := h; simp at this; omega
    refine wp_loopQ (fun (i : Nat) σ => i ≤ l.length ∧ (∀ j < i, l[j]! = k[j]!) ∧ σ = ⟨aT .undef 26 [(1, .lst (k.map .str)), (12, .lst (l.map .str)), (13, I l.length), (14, I i)], [], []⟩) (fun i => l.length - i) ?_ 0 ?_
    · rintro i σ ⟨hi, hall, rfl⟩ N Q hQ hN
      by_cases hlt : i < l.length
      · have hltk : i < k.length := by omega
        simp only [go_sem, ↓reduceIte, ↓guardT_tt, ↓guardT_tf, ↓guardT_ft, ↓guardT_ff, ↓condT_t, ↓condT_f, wrap_succ hlt (by omega), Int.ofNat_lt, hlt, hltk]
        refine ⟨fun h => ?_, fun h => ?_⟩
        · subst hQ; simp only [go_sem, ↓reduceIte, ↓guardT_tt, ↓guardT_tf, ↓guardT_ft, ↓guardT_ff, ↓condT_t, ↓condT_f]
          rw [decide_eq_false (fun e => h (by rw [e]))]
        · refine hN (i + 1) _ (by omega) ⟨by omega, forall_lt_succ hall h, ?_⟩
          simp only [go_sem, ↓reduceIte, ↓guardT_tt, ↓guardT_tf, ↓guardT_ft, ↓guardT_ff, ↓condT_t, ↓condT_f]
      · have hil : i = l.length := by omega
        subst hil hQ
        simp only [go_sem, ↓reduceIte, ↓guardT_tt, ↓guardT_tf, ↓guardT_ft, ↓guardT_ff, ↓condT_t, ↓condT_f, Int.ofNat_lt, hlt]
        rw [decide_eq_true]
        apply List.ext_getElem hlk
        intro j h1 h2
        have := hall j h1
        rwa [getElem!_pos l j h1, getElem!_pos k j h2] at this
    · exact ⟨by omega, by simp, by simp only [go_sem, ↓reduceIte, ↓guardT_tt, ↓guardT_tf, ↓guardT_ft, ↓guardT_ff, ↓condT_t, ↓condT_f]⟩
section
variable {fr : Bool} {roots : List Nat} {b : Nat} {ss : List Nat} {σ : St} {q : AV → St → Prop}
theorem eqS_r {l k : List ByteArray} (hl : l.length ≤ 1048576) (hk : k.length ≤ 1048576) : callT G f_slices_Equal___string_string_ [.lst (l.map .str), .lst (k.map .str)] fr roots b ss σ q = q (Bo (decide (l = k))) σ := (eqS_ok l k hl hk).rule
theorem sameSR_r {l k : List ByteArray} (hl : l.length ≤ 1048576) (hk : k.length ≤ 1048576) : callT G f_makeweightref01_SameStrings [.lst (l.map .str), .lst (k.map .str)] fr roots b ss σ q = q (Bo (decide (l = k))) σ := (sameSR_ok l k hl hk).rule
end
theorem prod_good {m : Sys} {f : Fam} (hf : FamOk f) {p x y : Nat} (hy : y < f.S.length) : goodP m (prodOf f p) x y ↔ ∃ c ∈ f.S[y]!.A, c.W.toNat.testBit p = true ∧ c.N = (offN m.S[x]! : Nat) := by
  unfold goodP
  rw [prod_st hy]
  exact mem_chosen
theorem prod_nxt {f : Fam} {p y a : Nat} (hy : y < f.S.length) (ha : a < f.S[y]!.X.length) : nxt (prodOf f p) y a = nextOf f.S[y]!.X[a]! p := by
  unfold nxt; rw [prod_st hy, stt_X ha]
theorem prod_len {f : Fam} {p : Nat} : (prodOf f p).S.length = f.S.length := by simp [prodOf]
end Go.Mw

/- Small or not, for families of any size: a family that is small has small parts. -/
namespace Go.Mw
set_option linter.unusedVariables false
set_option linter.unusedSimpArgs false
set_option maxRecDepth 100000
structure PBig (p : Plan) : Prop where
  a : p.A.length ≤ 140737488355328
  x : p.X.length ≤ 140737488355328
  y : ∀ i < p.X.length, p.X[i]!.length ≤ 140737488355328
structure FBig (f : Fam) : Prop where
  a : f.acts.length ≤ 140737488355328
  s : f.S.length ≤ 140737488355328
  p : ∀ i < f.S.length, PBig f.S[i]!
theorem FnP.flatB {f : FuncId} {xs : List AV} {P : Prop} (h : FnP G f xs fun rs h => ∃ v, packV (treeBL 0 h rs) = Bo v ∧ (v = true → P) ∧ rs.all AV.flats = true) : ∃ v, FnT G f xs (Bo v) ∧ (v = true → P) := by
  obtain ⟨F, n, rs, σ1, hf, h1, h2, h3, h4, hr, v, hR, hP, hfl⟩ := h
  exact ⟨v, ⟨F, n, rs, σ1, hf, h1, h2, h3, h4, hr, hR, hfl⟩, hP⟩
theorem bo_exB {b : Bool} {P : Prop} : (∃ v, AV.bool b = Bo v ∧ (v = true → P)) = (b = true → P) := by
  apply propext; constructor
  · rintro ⟨v, hv, h⟩; cases hv; exact h
  · intro h; exact ⟨b, rfl, h⟩
/-- parts that are counted in 'c' -/
def Counted (f : Fam) (i : Nat) (c : Int) : Prop := (f.acts.length : Int) ≤ c ∧ (f.S.length : Int) ≤ c ∧ ∀ j < i, (f.S[j]!.A.length : Int) ≤ c ∧ (f.S[j]!.X.length : Int) ≤ c ∧ ∀ m < f.S[j]!.X.length, (f.S[j]!.X[m]!.length : Int) ≤ c
theorem Counted.mono {f : Fam} {i : Nat} {c d : Int} (h : Counted f i c) (hd : c ≤ d) : Counted f i d :=
  ⟨by have := h.1; omega, by have := h.2.1; omega, fun j hj => ⟨by have := (h.2.2 j hj).1; omega, by have := (h.2.2 j hj).2.1; omega, fun m hm => by have := (h.2.2 j hj).2.2 m hm; omega⟩⟩
theorem Counted.sz {f : Fam} {c : Int} (h : Counted f f.S.length c) (hc : c ≤ 1000) : FSz f :=
  ⟨by have := h.1; omega, by have := h.2.1; omega, fun j hj => ⟨by have := (h.2.2 j hj).1; omega, by have := (h.2.2 j hj).2.1; omega, fun m hm => by have := (h.2.2 j hj).2.2 m hm; omega⟩⟩
theorem few_big (f : Fam) (hf : FBig f) : ∃ v, FnT G f_makeweightref16_Few [eF f, I 1000] (Bo v) ∧ (v = true → FSz f) := by
  refine FnP.flatB (FnP.mk' g_makeweightref16_Few rfl rfl ?_)
  have ha := hf.a
  have hS := hf.s
  have w0 : IntKind.i64.wrap ((f.acts.length : Int) + f.S.length) = (f.acts.length : Int) + f.S.length := by rw [wrapI] <;> omega
  have ws : ∀ {i n : Nat}, i < n → n ≤ 140737488355328 → IntKind.i64.wrap ((i : Int) + 1) = ((i + 1 : Nat) : Int) := fun h hn => by rw [wrapI] <;> omega
  simp only [go_sem, ↓reduceIte, ↓guardT_tt, ↓guardT_tf, ↓guardT_ft, ↓guardT_ff, ↓condT_t, ↓condT_f, c_makeweightref16_Few, eF, w0]
  refine wp_loopQ (fun (i : Nat) σ => i ≤ f.S.length ∧ ∃ c : Int, 0 ≤ c ∧ c ≤ 562949953421312 ∧ (c ≤ 1000 → Counted f i c) ∧ σ = ⟨aT .undef 75 [(1, I 1000), (2, .ptr 0 1 [] 0 0 0), (5, I c), (6, I i)], [⟨1, 0, .own 3 [.agg [.lst (f.acts.map .str), I f.P, .lst (f.S.map eP)]]⟩], []⟩) (fun i => f.S.length - i) ?_ 0 ?_
  · rintro i σ ⟨hi, c, hc0, hc1, hcnt, rfl⟩ N Q hQ hN
    by_cases hlt : i < f.S.length
    · obtain ⟨g1, g2, g3⟩ := hf.p i hlt
      simp only [go_sem, ↓reduceIte, ↓guardT_tt, ↓guardT_tf, ↓guardT_ft, ↓guardT_ff, ↓condT_t, ↓condT_f, eP, Int.ofNat_lt, hlt]
      by_cases hc : c ≤ 1000
      · have hcnt := hcnt hc
        have w1 : IntKind.i64.wrap ((f.S[i]!.A.length : Int) + f.S[i]!.X.length) = (f.S[i]!.A.length : Int) + f.S[i]!.X.length := by rw [wrapI] <;> omega
        have w2 : IntKind.i64.wrap (c + ((f.S[i]!.A.length : Int) + f.S[i]!.X.length)) = c + ((f.S[i]!.A.length : Int) + f.S[i]!.X.length) := by rw [wrapI] <;> omega
        simp only [go_sem, ↓reduceIte, ↓guardT_tt, ↓guardT_tf, ↓guardT_ft, ↓guardT_ff, ↓condT_t, ↓condT_f, hc, w1, w2]
        refine wp_loopQ (fun (j : Nat) σ => j ≤ f.S[i]!.X.length ∧ ∃ c : Int, 0 ≤ c ∧ c ≤ 562949953421312 ∧ Counted f i c ∧ ((f.S[i]!.A.length : Int) ≤ c ∧ (f.S[i]!.X.length : Int) ≤ c ∧ ∀ m < j, (f.S[i]!.X[m]!.length : Int) ≤ c) ∧ σ = ⟨aT .undef 75 [(1, I 1000), (2, .ptr 0 1 [] 0 0 0), (5, I c), (6, I i), (7, I j)], [⟨1, 0, .own 3 [.agg [.lst (f.acts.map .str), I f.P, .lst (f.S.map eP)]]⟩], []⟩) (fun j => f.S[i]!.X.length - j) ?_ 0 ?_
        · rintro j σ ⟨hj, c, hc0, hc1, hcnt, ⟨q1, q2, q3⟩, rfl⟩ N2 Q2 hQ2 hN2
          by_cases hlt2 : j < f.S[i]!.X.length
          · have g4 := g3 j hlt2
            simp only [go_sem, ↓reduceIte, ↓guardT_tt, ↓guardT_tf, ↓guardT_ft, ↓guardT_ff, ↓condT_t, ↓condT_f, eP, eCs, Int.ofNat_lt, hlt, hlt2]
            by_cases hc2 : c ≤ 1000
            · have w3 : IntKind.i64.wrap (c + (f.S[i]!.X[j]!.length : Int)) = c + (f.S[i]!.X[j]!.length : Int) := by rw [wrapI] <;> omega
              simp only [go_sem, ↓reduceIte, ↓guardT_tt, ↓guardT_tf, ↓guardT_ft, ↓guardT_ff, ↓condT_t, ↓condT_f, eCs, hc2, w3, hlt, hlt2, ws hlt2 g2]
              refine hN2 (j + 1) _ (by omega) ⟨by omega, c + f.S[i]!.X[j]!.length, by omega, by omega, hcnt.mono (by omega), ⟨by omega, by omega, forall_lt_succ (fun m hm => by have := q3 m hm; omega) (by omega)⟩, ?_⟩
              simp only [go_sem, ↓reduceIte, ↓guardT_tt, ↓guardT_tf, ↓guardT_ft, ↓guardT_ff, ↓condT_t, ↓condT_f]
            · -- more than enough: the end is near
              simp only [go_sem, ↓reduceIte, ↓guardT_tt, ↓guardT_tf, ↓guardT_ft, ↓guardT_ff, ↓condT_t, ↓condT_f, hc2]
              subst hQ2
              simp only [go_sem, ↓reduceIte, ↓guardT_tt, ↓guardT_tf, ↓guardT_ft, ↓guardT_ff, ↓condT_t, ↓condT_f, ws hlt hS]
              refine hN (i + 1) _ (by omega) ⟨by omega, c, hc0, hc1, fun h => absurd h hc2, ?_⟩
              simp only [go_sem, ↓reduceIte, ↓guardT_tt, ↓guardT_tf, ↓guardT_ft, ↓guardT_ff, ↓condT_t, ↓condT_f]
          · simp only [go_sem, ↓reduceIte, ↓guardT_tt, ↓guardT_tf, ↓guardT_ft, ↓guardT_ff, ↓condT_t, ↓condT_f, eP, eCs, Int.ofNat_lt, hlt, hlt2]
            subst hQ2
            simp only [go_sem, ↓reduceIte, ↓guardT_tt, ↓guardT_tf, ↓guardT_ft, ↓guardT_ff, ↓condT_t, ↓condT_f, ws hlt hS]
            refine hN (i + 1) _ (by omega) ⟨by omega, c, hc0, hc1, fun _ => ⟨hcnt.1, hcnt.2.1, forall_lt_succ hcnt.2.2 ⟨q1, q2, fun m hm => q3 m (by omega)⟩⟩, ?_⟩
            simp only [go_sem, ↓reduceIte, ↓guardT_tt, ↓guardT_tf, ↓guardT_ft, ↓guardT_ff, ↓condT_t, ↓condT_f]
        · refine ⟨by omega, c + (f.S[i]!.A.length + f.S[i]!.X.length), by omega, by omega, hcnt.mono (by omega), ⟨by omega, by omega, fun m hm => absurd hm (by omega)⟩, ?_⟩
          simp only [go_sem, ↓reduceIte, ↓guardT_tt, ↓guardT_tf, ↓guardT_ft, ↓guardT_ff, ↓condT_t, ↓condT_f]
      · simp only [go_sem, ↓reduceIte, ↓guardT_tt, ↓guardT_tf, ↓guardT_ft, ↓guardT_ff, ↓condT_t, ↓condT_f, hc]
        subst hQ
        simp only [go_sem, ↓reduceIte, ↓guardT_tt, ↓guardT_tf, ↓guardT_ft, ↓guardT_ff, ↓condT_t, ↓condT_f, bo_exB, hc]
    · subst hQ
      have hil : i = f.S.length := by omega
      subst hil
      simp only [go_sem, ↓reduceIte, ↓guardT_tt, ↓guardT_tf, ↓guardT_ft, ↓guardT_ff, ↓condT_t, ↓condT_f, Int.ofNat_lt, hlt, bo_exB, decide_eq_true_eq]
      exact fun h => (hcnt h).sz h
  · refine ⟨by omega, f.acts.length + f.S.length, by omega, by omega, fun _ => ⟨by omega, by omega, fun j hj => absurd hj (by omega)⟩, ?_⟩
    simp only [go_sem, ↓reduceIte, ↓guardT_tt, ↓guardT_tf, ↓guardT_ft, ↓guardT_ff, ↓condT_t, ↓condT_f]
theorem light_big (f : Fam) (hf : FBig f) : ∃ v, FnT G f_makeweightlaw16_light [eF f] (Bo v) ∧ (v = true → FSz f) := by
  obtain ⟨v, hv, hP⟩ := few_big f hf
  have hcall : ∀ {fr : Bool} {roots : List Nat} {b : Nat} {ss : List Nat} {σ : St} {k : AV → St → Prop}, callT G f_makeweightref16_Few [.agg [.lst (f.acts.map .str), I f.P, .lst (f.S.map eP)], .int .i64 1000] fr roots b ss σ k = k (Bo v) σ := hv.rule
  refine FnP.flatB (FnP.mk' g_makeweightlaw16_light rfl rfl ?_)
  simp only [go_sem, ↓reduceIte, ↓guardT_tt, ↓guardT_tf, ↓guardT_ft, ↓guardT_ff, ↓condT_t, ↓condT_f, c_makeweightlaw16_light, eF]
  by_cases h : (f.S.length : Int) ≤ 20
  · simp only [go_sem, ↓reduceIte, ↓guardT_tt, ↓guardT_tf, ↓guardT_ft, ↓guardT_ff, ↓condT_t, ↓condT_f, h, hcall, bo_exB]
    exact hP
  · simp only [go_sem, ↓reduceIte, ↓guardT_tt, ↓guardT_tf, ↓guardT_ft, ↓guardT_ff, ↓condT_t, ↓condT_f, h, bo_exB]
end Go.Mw

/- Small or not: systems. -/
namespace Go.Mw
set_option linter.unusedVariables false
set_option linter.unusedSimpArgs false
set_option maxRecDepth 100000
structure SyBig (m : Sys) : Prop where
  a : m.acts.length ≤ 140737488355328
  s : m.S.length ≤ 140737488355328
  e : ∀ i < m.S.length, m.S[i]!.length ≤ 140737488355328
def CountS (m : Sys) (i : Nat) (c : Int) : Prop := (m.acts.length : Int) ≤ c ∧ (m.S.length : Int) ≤ c ∧ ∀ j < i, (m.S[j]!.length : Int) ≤ c
theorem fewS_big (m : Sys) (hm : SyBig m) (K : Int) (h0 : 0 ≤ K) (hK : K ≤ 1000000) : ∃ v, FnT G f_makeweightref02_Few [eSys m, I K] (Bo v) ∧ (v = true → SySz m) := by
  refine FnP.flatB (FnP.mk' g_makeweightref02_Few rfl rfl ?_)
  have ha := hm.a
  have hS := hm.s
  have w0 : IntKind.i64.wrap ((m.acts.length : Int) + m.S.length) = (m.acts.length : Int) + m.S.length := by rw [wrapI] <;> omega
  simp only [go_sem, ↓reduceIte, ↓guardT_tt, ↓guardT_tf, ↓guardT_ft, ↓guardT_ff, ↓condT_t, ↓condT_f, c_makeweightref02_Few, eSys, w0]
  refine wp_loopQ (fun (i : Nat) σ => i ≤ m.S.length ∧ ∃ c : Int, 0 ≤ c ∧ c ≤ 562949953421312 ∧ (c ≤ K → CountS m i c) ∧ σ = ⟨aT .undef 37 [(1, I K), (2, .ptr 0 1 [] 0 0 0), (5, I c), (6, I i)], [⟨1, 0, .own 2 [.agg [.lst (m.acts.map .str), .lst (m.S.map eEs)]]⟩], []⟩) (fun i => m.S.length - i) ?_ 0 ?_
  · rintro i σ ⟨hi, c, hc0, hc1, hc2, rfl⟩ N Q hQ hN
    by_cases hlt : i < m.S.length
    · have hl := hm.e i hlt
      simp only [go_sem, ↓reduceIte, ↓guardT_tt, ↓guardT_tf, ↓guardT_ft, ↓guardT_ff, ↓condT_t, ↓condT_f, eEs, Int.ofNat_lt, hlt]
      by_cases hc : c ≤ K
      · have w1 : IntKind.i64.wrap (c + (m.S[i]!.length : Int)) = c + (m.S[i]!.length : Int) := by rw [wrapI] <;> omega
        have w2 : IntKind.i64.wrap ((i : Int) + 1) = ((i + 1 : Nat) : Int) := by rw [wrapI] <;> omega
        simp only [go_sem, ↓reduceIte, ↓guardT_tt, ↓guardT_tf, ↓guardT_ft, ↓guardT_ff, ↓condT_t, ↓condT_f, hc, w1, w2]
        refine hN (i + 1) _ (by omega) ⟨by omega, c + m.S[i]!.length, by omega, by omega, fun h => ?_, ?_⟩
        · obtain ⟨g1, g2, g3⟩ := hc2 hc
          exact ⟨by omega, by omega, forall_lt_succ (fun j hj => by have := g3 j hj; omega) (by omega)⟩
        · simp only [go_sem, ↓reduceIte, ↓guardT_tt, ↓guardT_tf, ↓guardT_ft, ↓guardT_ff, ↓condT_t, ↓condT_f]
      · simp only [go_sem, ↓reduceIte, ↓guardT_tt, ↓guardT_tf, ↓guardT_ft, ↓guardT_ff, ↓condT_t, ↓condT_f, hc]
        subst hQ
        simp only [go_sem, ↓reduceIte, ↓guardT_tt, ↓guardT_tf, ↓guardT_ft, ↓guardT_ff, ↓condT_t, ↓condT_f, bo_exB, hc]
    · subst hQ
      have hil : i = m.S.length := by omega
      subst hil
      simp only [go_sem, ↓reduceIte, ↓guardT_tt, ↓guardT_tf, ↓guardT_ft, ↓guardT_ff, ↓condT_t, ↓condT_f, Int.ofNat_lt, hlt, bo_exB, decide_eq_true_eq]
      intro h
      obtain ⟨g1, g2, g3⟩ := hc2 h
      exact ⟨by omega, by omega, fun j hj => by have := g3 j hj; omega⟩
  · refine ⟨by omega, m.acts.length + m.S.length, by omega, by omega, fun _ => ⟨by omega, by omega, fun j hj => absurd hj (by omega)⟩, ?_⟩
    simp only [go_sem, ↓reduceIte, ↓guardT_tt, ↓guardT_tf, ↓guardT_ft, ↓guardT_ff, ↓condT_t, ↓condT_f]
theorem few16_big (m : Sys) (hm : SyBig m) : ∃ v, FnT G f_makeweightlaw16_few [eSys m] (Bo v) ∧ (v = true → SySz m) := by
  obtain ⟨v, hv, hP⟩ := fewS_big m hm 700 (by omega) (by omega)
  have hcall : ∀ {fr : Bool} {roots : List Nat} {b : Nat} {ss : List Nat} {σ : St} {k : AV → St → Prop}, callT G f_makeweightref02_Few [.agg [.lst (m.acts.map .str), .lst (m.S.map eEs)], .int .i64 700] fr roots b ss σ k = k (Bo v) σ := hv.rule
  refine FnP.flatB (FnP.mk' g_makeweightlaw16_few rfl rfl ?_)
  have hS := hm.s
  simp only [go_sem, ↓reduceIte, ↓guardT_tt, ↓guardT_tf, ↓guardT_ft, ↓guardT_ff, ↓condT_t, ↓condT_f, c_makeweightlaw16_few, eSys]
  by_cases h : (m.S.length : Int) ≤ 30
  · simp only [go_sem, ↓reduceIte, ↓guardT_tt, ↓guardT_tf, ↓guardT_ft, ↓guardT_ff, ↓condT_t, ↓condT_f, h, hcall, bo_exB]; exact hP
  · simp only [go_sem, ↓reduceIte, ↓guardT_tt, ↓guardT_tf, ↓guardT_ft, ↓guardT_ff, ↓condT_t, ↓condT_f, h, bo_exB]
end Go.Mw

/- Which products a system satisfies, as the program finds them: the walk. -/
namespace Go.Mw
set_option linter.unusedVariables false
set_option linter.unusedSimpArgs false
set_option maxRecDepth 100000
theorem mupE_nil {a c : Int} {v : AV} {h : List Ob} {r st ss : Nat} {q : List Ob → Prop} : mupE a c v h r st ss [] q = q (h.set r ⟨st, ss, .ownm (entsE (putM [] (a, c) v))⟩) := @mupE_E a c v h r st ss [] q
attribute [go_sem] mupE_nil
open Classical in
theorem satisfied_ok (m : Sys) (hmz : SySz m) (f : Fam) (hfz : FSz f) (hm : SysOk m) (hf : FamOk f) (he : m.acts = f.acts) : FnT G f_family_Satisfied [eSys m, eF f] (.tup [I (bitsN (satP m f) f.P.toNat : Nat), I 0]) := by
  refine FnP.mk' g_family_Satisfied rfl rfl ?_
  obtain ⟨P, hP⟩ : ∃ P : Nat, f.P = P := ⟨f.P.toNat, by have := hf.p1; omega⟩
  have hP32 : P ≤ 32 := by have := hf.p2; omega
  have hPt : f.P.toNat = P := by omega
  have hS := hmz.s
  have hs5 := hm.s2
  have hT := hf.s2
  have h2P : 2 ^ P ≤ 2 ^ 32 := Nat.pow_le_pow_right (by omega) hP32
  have h1P : 1 ≤ 2 ^ P := Nat.one_le_two_pow
  have w1 : IntKind.i64.wrap (((2 ^ P : Nat) : Int) - 1) = ((2 ^ P - 1 : Nat) : Int) := by rw [wrapI] <;> omega
  have hde : decide (m.acts = f.acts) = true := decide_eq_true he
  have hsm := fun x (hx : x < m.S.length) => hmz.e x hx
  simp only [go_sem, ↓reduceIte, ↓guardT_tt, ↓guardT_tf, ↓guardT_ft, ↓guardT_ff, ↓condT_t, ↓condT_f, c_family_Satisfied, eSys, eF, sys_r hmz, fam_r hfz, hm, hf, eqS_r hmz.a hfz.a, hde]
  have hb1 : bshl .i64 1 f.P = ((2 ^ P : Nat) : Int) := by rw [hP]; exact bshl_one (by omega)
  simp only [go_sem, ↓reduceIte, ↓guardT_tt, ↓guardT_tf, ↓guardT_ft, ↓guardT_ff, ↓condT_t, ↓condT_f, hb1, w1]
  refine ⟨by omega, ?_⟩
  refine wp_loopQ (fun (g : Nat × Nat × List KV × (Nat → Nat → Nat) × List (Nat × Nat)) σ => g.1 ≤ g.2.2.2.2.length ∧ SI m f P g.2.1 g.2.2.2.1 (g.2.2.2.2.drop g.1) none ∧ (∀ x y : Nat, lookM g.2.2.1 ((x : Int), (y : Int)) (.int .i64 0) = .int .i64 (g.2.2.2.1 x y : Nat)) ∧ g.2.2.2.2.length + pot m.S.length f.S.length P g.2.2.2.1 ≤ 100000000 ∧
    ∃ s10 c10 o3 a4 c4 a5 c5 a6 c6 a7 c7 a8 c8 a9 c9, mv1 0 8 10 σ = ⟨aT .undef 152 [(8, .sl 10 s10 [] 0 0 g.2.2.2.2.length), (2, .ptr 0 1 [] 0 0 0), (3, .ptr 1 1 [] 0 0 0), (6, I g.2.1), (7, .mp 2 1 [] 0), (9, I g.1)],
      [⟨1, 0, .own 2 [.agg [.lst (m.acts.map .str), .lst (m.S.map eEs)]]⟩, ⟨1, 0, .own 3 [.agg [.lst (f.acts.map .str), I f.P, .lst (f.S.map eP)]]⟩, ⟨1, 0, .ownm (entsE g.2.2.1)⟩, o3, ⟨a4, c4, .gone⟩, ⟨a5, c5, .gone⟩, ⟨a6, c6, .gone⟩, ⟨a7, c7, .gone⟩, ⟨a8, c8, .gone⟩, ⟨a9, c9, .gone⟩, ⟨s10, c10, .own 2 (g.2.2.2.2.map eN2)⟩], []⟩) (fun g => pot m.S.length f.S.length P g.2.2.2.1 + g.2.2.2.2.length - g.1) ?_ (0, 2 ^ P - 1, putM [] (0, 0) (.int .i64 (2 ^ P - 1 : Nat)), updR (fun _ _ => 0) 0 0 (2 ^ P - 1), [(0, 0)]) ?_
  · rintro ⟨i, good, l, R, Q⟩ σ ⟨hi, hSI, hR, hcnt, s10, c10, o3, a4, c4, a5, c5, a6, c6, a7, c7, a8, c8, a9, c9, hσ⟩ N Qe hQ hN
    simp only at hi hSI hR hcnt hσ
    have hgl : good < 2 ^ 32 := Nat.lt_of_lt_of_le hSI.gl h2P
    by_cases hlt : i < Q.length
    · have hcons : Q.drop i = Q[i]! :: Q.drop (i + 1) := by rw [List.drop_eq_getElem_cons hlt, getElem!_pos Q i hlt]
      rw [hcons] at hSI
      have hpl := hSI.q _ (List.mem_cons_self ..)
      generalize hp : Q[i]! = p at *
      obtain ⟨x, y⟩ := p
      simp only at hpl
      obtain ⟨hxl, hyl⟩ := hpl
      have haO := hm.aOk hxl
      have hoff := offN_all haO
      have hel := hmz.e x hxl
      obtain ⟨g1, g2, g3⟩ := hfz.p y hyl
      have hRl : R x y < 2 ^ 32 := Nat.lt_of_lt_of_le (hSI.rl x y) h2P
      simp only [go_sem, ↓reduceIte, ↓guardT_tt, ↓guardT_tf, ↓guardT_ft, ↓guardT_ff, ↓condT_t, ↓condT_f, hσ, Int.ofNat_lt, hlt, hp, eN2, eN, hR, hxl, hyl, eEs, eP, offers_r hel haO, band_nat (show R x y < 2 ^ 63 by omega) (show good < 2 ^ 63 by omega)]
      have hpo := hf.plan y hyl
      have hNx := hpo.len
      have hAacc := hpo.acc
      have hnx := hpo.nxt
      have hdis := fun a ha => hpo.disj (a := a) (by omega) ha
      have hgood := fun p => @prod_good m f hf p x y hyl
      have hnxt := fun p a ha => @prod_nxt f p y a hyl ha
      generalize hpl : f.S[y]! = pl at *
      have hAw := choOk_W (show f.P.toNat ≤ 32 by omega) hAacc
      obtain ⟨hA1, hA2⟩ := choOk_iff.1 hAacc
      refine wp_loopQ (fun (g : Nat × Nat) σ => g.1 ≤ pl.A.length ∧ g.2 < 2 ^ 62 ∧ ((∃ c ∈ pl.A.take g.1, c.N = (offN m.S[x]! : Nat) ∧ c.W = (g.2 : Nat)) ∨ (g.2 = 0 ∧ ∀ c ∈ pl.A.take g.1, c.N ≠ (offN m.S[x]! : Nat))) ∧ ∃ a5 c5, σ = ⟨aT .undef 152 [(2, .ptr 0 1 [] 0 0 0), (3, .ptr 1 1 [] 0 0 0), (6, I good), (7, .mp 2 1 [] 0), (8, .sl 10 s10 [] 0 0 Q.length), (9, I i), (10, .ptr 4 (a4 + 1) [] 0 0 0), (11, I (R x y &&& good : Nat)), (12, I (offN m.S[x]! : Nat)), (13, I g.2), (75, .lst (pl.A.map eC)), (76, I pl.A.length), (77, I g.1)],
        [⟨1, 0, .own 2 [.agg [.lst (m.acts.map .str), .lst (m.S.map eEs)]]⟩, ⟨1, 0, .own 3 [.agg [.lst (f.acts.map .str), I f.P, .lst (f.S.map eP)]]⟩, ⟨1, 0, .ownm (entsE l)⟩, o3, ⟨a4 + 1, 0, .own 2 [.agg [I x, I y]]⟩, ⟨a5, c5, .gone⟩, ⟨a6, c6, .gone⟩, ⟨a7, c7, .gone⟩, ⟨a8, c8, .gone⟩, ⟨a9, c9, .gone⟩, ⟨s10, c10, .own 2 (Q.map eN2)⟩], []⟩) (fun g => pl.A.length - g.1) ?_ (0, 0) ?_
      · rintro ⟨j, acc⟩ σ ⟨hj, hacl, hac, a5, c5, rfl⟩ N2 Q2 hQ2 hN2
        simp only at hj hacl hac
        by_cases hlt2 : j < pl.A.length
        · obtain ⟨w, hw1, hw2⟩ := hAw j hlt2
          have htk : pl.A.take (j + 1) = pl.A.take j ++ [pl.A[j]!] := by rw [List.take_succ_eq_append_getElem hlt2, getElem!_pos pl.A j hlt2]
          simp only [go_sem, ↓reduceIte, ↓guardT_tt, ↓guardT_tf, ↓guardT_ft, ↓guardT_ff, ↓condT_t, ↓condT_f, Int.ofNat_lt, hlt2, eC, wrap_succ hlt2 (by omega), hw1]
          refine ⟨fun h => ?_, fun h => ?_⟩
          · refine hN2 (j + 1, w) _ (by simp only; omega) ⟨by simp only; omega, hw2, .inl ⟨pl.A[j]!, by rw [htk]; exact List.mem_append_right _ (List.mem_singleton_self _), eq_of_beq h, hw1⟩, ?_⟩
            simp only [go_sem, ↓reduceIte, ↓guardT_tt, ↓guardT_tf, ↓guardT_ft, ↓guardT_ff, ↓condT_t, ↓condT_f]
            repeat apply Exists.intro
            rfl
          · refine hN2 (j + 1, acc) _ (by simp only; omega) ⟨by simp only; omega, hacl, ?_, ?_⟩
            · rcases hac with ⟨c, h1, h2⟩ | ⟨h1, h2⟩
              · exact .inl ⟨c, by rw [htk]; exact List.mem_append_left _ h1, h2⟩
              · refine .inr ⟨h1, fun c hc => ?_⟩
                rw [htk, List.mem_append, List.mem_singleton] at hc
                rcases hc with hc | rfl
                · exact h2 c hc
                · exact ne_of_beq_false h
            · simp only [go_sem, ↓reduceIte, ↓guardT_tt, ↓guardT_tf, ↓guardT_ft, ↓guardT_ff, ↓condT_t, ↓condT_f]
              repeat apply Exists.intro
              rfl
        · have hjl : j = pl.A.length := by omega
          have htk : pl.A.take j = pl.A := by rw [hjl, List.take_length]
          have hacc : ∀ p < P, acc.testBit p = true ↔ goodP m (prodOf f p) x y := by
            intro p hp
            rw [hgood p]
            rw [htk] at hac
            rcases hac with ⟨c, h1, h2, h3⟩ | ⟨h1, h2⟩
            · constructor
              · intro hb; exact ⟨c, h1, by rw [h3, Int.toNat_natCast]; exact hb, h2⟩
              · rintro ⟨d, d1, d2, d3⟩
                have hcd : c = d := by
                  obtain ⟨ic, hic, rfl⟩ := List.mem_iff_getElem.1 h1
                  obtain ⟨id, hid, rfl⟩ := List.mem_iff_getElem.1 d1
                  rcases Nat.lt_trichotomy ic id with h | h | h
                  · have := (List.pairwise_iff_getElem.1 hA2) ic id hic hid h; omega
                  · subst h; rfl
                  · have := (List.pairwise_iff_getElem.1 hA2) id ic hid hic h; omega
                subst hcd
                rw [h3, Int.toNat_natCast] at d2; exact d2
            · constructor
              · intro hb; rw [h1] at hb; simp at hb
              · rintro ⟨d, d1, d2, d3⟩; exact absurd d3 (h2 d d1)
          have hSI2 := hSI.take hacc
          have hHp : ∀ p, (R x y &&& good &&& acc).testBit p = true → p < P ∧ Rch m (prodOf f p) x y ∧ goodP m (prodOf f p) x y := by
            intro p hb
            rw [Nat.testBit_and, Nat.testBit_and, Bool.and_eq_true, Bool.and_eq_true] at hb
            obtain ⟨h1, h2⟩ := hSI.a p x y hb.1.1
            exact ⟨h1, h2, (hacc p h1).1 hb.2⟩
          have hRg : (R x y &&& good) < 2 ^ 62 := Nat.lt_of_le_of_lt Nat.and_le_left (by omega)
          have hHl : (R x y &&& good &&& acc) < 2 ^ 62 := Nat.lt_of_le_of_lt Nat.and_le_left hRg
          have han : andn (R x y &&& good) acc < 2 ^ 62 := by
            refine lt_of_bits fun a ha => testBit_lt hRg ?_
            rw [andn_test, Bool.and_eq_true] at ha; exact ha.1
          subst hQ2
          simp only [go_sem, ↓reduceIte, ↓guardT_tt, ↓guardT_tf, ↓guardT_ft, ↓guardT_ff, ↓condT_t, ↓condT_f, Int.ofNat_lt, hlt2, hxl, bandn_nat (show (R x y &&& good) < 2 ^ 63 by omega) (show acc < 2 ^ 63 by omega), bandn_nat (show good < 2 ^ 63 by omega) (show andn (R x y &&& good) acc < 2 ^ 63 by omega), band_nat (show (R x y &&& good) < 2 ^ 63 by omega) (show acc < 2 ^ 63 by omega), eEs]
          generalize (R x y &&& good &&& acc) = H at *
          generalize andn good (andn (R x y &&& good) acc) = good2 at *
          have hH62 := hHl
          have hg62 : good2 < 2 ^ 32 := Nat.lt_of_lt_of_le hSI2.gl h2P
          refine wp_loopQ (fun (g : Nat × List KV × (Nat → Nat → Nat) × List (Nat × Nat)) σ => g.1 ≤ m.S[x]!.length ∧ i + 1 ≤ g.2.2.2.length ∧ SI m f P good2 g.2.2.1 (g.2.2.2.drop (i + 1)) (some (x, y, H)) ∧ (∀ x y : Nat, lookM g.2.1 ((x : Int), (y : Int)) (.int .i64 0) = .int .i64 (g.2.2.1 x y : Nat)) ∧ g.2.2.2.length + pot m.S.length f.S.length P g.2.2.1 ≤ Q.length + pot m.S.length f.S.length P R ∧
            (∀ p, H.testBit p = true → ∀ k < g.1, (g.2.2.1 m.S[x]![k]!.t.toNat (nxt (prodOf f p) y m.S[x]![k]!.a.toNat).toNat).testBit p = true) ∧
            ∃ s10 c10 o5 a6 c6 a7 c7 a8 c8 a9 c9, σ = ⟨aT .undef 152 [(2, .ptr 0 1 [] 0 0 0), (3, .ptr 1 1 [] 0 0 0), (6, I good2), (7, .mp 2 1 [] 0), (8, .sl 10 s10 [] 0 0 g.2.2.2.length), (9, I i), (10, .ptr 4 (a4 + 1) [] 0 0 0), (11, I H), (101, .lst (m.S[x]!.map eE)), (102, I m.S[x]!.length), (103, I g.1)],
            [⟨1, 0, .own 2 [.agg [.lst (m.acts.map .str), .lst (m.S.map eEs)]]⟩, ⟨1, 0, .own 3 [.agg [.lst (f.acts.map .str), I f.P, .lst (f.S.map eP)]]⟩, ⟨1, 0, .ownm (entsE g.2.1)⟩, o3, ⟨a4 + 1, 0, .own 2 [.agg [I x, I y]]⟩, o5, ⟨a6, c6, .gone⟩, ⟨a7, c7, .gone⟩, ⟨a8, c8, .gone⟩, ⟨a9, c9, .gone⟩, ⟨s10, c10, .own 2 (g.2.2.2.map eN2)⟩], []⟩) (fun g => m.S[x]!.length - g.1) ?_ (0, l, R, Q) ?_
          · rintro ⟨k, l2, R2, Q2⟩ σ ⟨hk, hiQ, hSI3, hR2, hcnt2, hdn, s10, c10, o5, a6, c6, a7, c7, a8, c8, a9, c9, rfl⟩ N3 Q3 hQ3 hN3
            simp only at hk hiQ hSI3 hR2 hcnt2 hdn
            by_cases hlt3 : k < m.S[x]!.length
            · obtain ⟨e1, e2, e3, e4, _⟩ := hm.ed x hxl k hlt3
              obtain ⟨tx, htx⟩ : ∃ n : Nat, m.S[x]![k]!.t = n := ⟨m.S[x]![k]!.t.toNat, by omega⟩
              obtain ⟨ac, hac⟩ : ∃ n : Nat, m.S[x]![k]!.a = n := ⟨m.S[x]![k]!.a.toNat, by omega⟩
              have hacl : ac < pl.X.length := by rw [hNx, ← he]; omega
              have htx2 : tx < m.S.length := by omega
              have hlcl := g3 ac hacl
              have hlcW := choOk_W (show f.P.toNat ≤ 32 by omega) (hnx ac hacl).1
              obtain ⟨hlc1, _⟩ := choOk_iff.1 (hnx ac hacl).1
              have hlcd := hdis ac hacl
              have hnx2 := fun p => hnxt p ac hacl
              simp only [go_sem, ↓reduceIte, ↓guardT_tt, ↓guardT_tf, ↓guardT_ft, ↓guardT_ff, ↓condT_t, ↓condT_f, Int.ofNat_lt, hlt3, eE, htx, hac, hyl, hpl, hacl, eP, eCs]
              generalize hlc : pl.X[ac]! = lc at *
              refine wp_loopQ (fun (g : Nat × List KV × (Nat → Nat → Nat) × List (Nat × Nat)) σ => g.1 ≤ lc.length ∧ i + 1 ≤ g.2.2.2.length ∧ SI m f P good2 g.2.2.1 (g.2.2.2.drop (i + 1)) (some (x, y, H)) ∧ (∀ x y : Nat, lookM g.2.1 ((x : Int), (y : Int)) (.int .i64 0) = .int .i64 (g.2.2.1 x y : Nat)) ∧ g.2.2.2.length + pot m.S.length f.S.length P g.2.2.1 ≤ Q.length + pot m.S.length f.S.length P R ∧
                (∀ p, H.testBit p = true → ∀ k' < k, (g.2.2.1 m.S[x]![k']!.t.toNat (nxt (prodOf f p) y m.S[x]![k']!.a.toNat).toNat).testBit p = true) ∧ (∀ p, H.testBit p = true → ∀ c ∈ lc.take g.1, c.W.toNat.testBit p = true → (g.2.2.1 tx c.N.toNat).testBit p = true) ∧
                ∃ s10 c10 o5 a7 c7 a8 c8 a9 c9, σ = ⟨aT .undef 152 [(2, .ptr 0 1 [] 0 0 0), (3, .ptr 1 1 [] 0 0 0), (6, I good2), (7, .mp 2 1 [] 0), (8, .sl 10 s10 [] 0 0 g.2.2.2.length), (9, I i), (10, .ptr 4 (a4 + 1) [] 0 0 0), (11, I H), (17, .ptr 6 (a6 + 1) [] 0 0 0), (101, .lst (m.S[x]!.map eE)), (102, I m.S[x]!.length), (103, I k), (117, .lst (lc.map eC)), (118, I lc.length), (119, I g.1)],
                [⟨1, 0, .own 2 [.agg [.lst (m.acts.map .str), .lst (m.S.map eEs)]]⟩, ⟨1, 0, .own 3 [.agg [.lst (f.acts.map .str), I f.P, .lst (f.S.map eP)]]⟩, ⟨1, 0, .ownm (entsE g.2.1)⟩, o3, ⟨a4 + 1, 0, .own 2 [.agg [I x, I y]]⟩, o5, ⟨a6 + 1, 0, .own 2 [.agg [I ac, I tx]]⟩, ⟨a7, c7, .gone⟩, ⟨a8, c8, .gone⟩, ⟨a9, c9, .gone⟩, ⟨s10, c10, .own 2 (g.2.2.2.map eN2)⟩], []⟩) (fun g => lc.length - g.1) ?_ (0, l2, R2, Q2) ?_
              · rintro ⟨j, l3, R3, Q3⟩ σ ⟨hj, hiQ3, hSI4, hR3, hcnt3, hdn3, hdc, s10, c10, o5, a7, c7, a8, c8, a9, c9, rfl⟩ N4 Q4 hQ4 hN4
                simp only at hj hiQ3 hSI4 hR3 hcnt3 hdn3 hdc
                by_cases hlt4 : j < lc.length
                · obtain ⟨w, hw1, hw2⟩ := hlcW j hlt4
                  have hcm : lc[j]! ∈ lc := getMem hlt4
                  have hcN := (hlc1 _ hcm).1
                  rw [decide_eq_true_eq] at hcN
                  obtain ⟨tn, htn⟩ : ∃ n : Nat, lc[j]!.N = n := ⟨lc[j]!.N.toNat, by omega⟩
                  have htn2 : tn < f.S.length := by omega
                  have hRl3 : R3 tx tn < 2 ^ 32 := Nat.lt_of_lt_of_le (hSI4.rl tx tn) h2P
                  have hHw : (H &&& w) < 2 ^ 62 := Nat.lt_of_le_of_lt Nat.and_le_left hH62
                  have hmob : ∀ p, (andn (H &&& w) (R3 tx tn)).testBit p = (H.testBit p && w.testBit p && !(R3 tx tn).testBit p) := fun p => by rw [andn_test, Nat.testBit_and]
                  have hmol : andn (H &&& w) (R3 tx tn) < 2 ^ 62 := by
                    refine lt_of_bits fun a ha => testBit_lt hHw ?_
                    rw [andn_test, Bool.and_eq_true] at ha; exact ha.1
                  simp only [go_sem, ↓reduceIte, ↓guardT_tt, ↓guardT_tf, ↓guardT_ft, ↓guardT_ff, ↓condT_t, ↓condT_f, Int.ofNat_lt, hlt4, eC, wrap_succ hlt4 (by omega), hw1, htn, hR3, band_nat (show H < 2 ^ 63 by omega) (show w < 2 ^ 63 by omega), bandn_nat (show (H &&& w) < 2 ^ 63 by omega) (show R3 tx tn < 2 ^ 63 by omega), bor_nat (show R3 tx tn < 2 ^ 63 by omega) (show andn (H &&& w) (R3 tx tn) < 2 ^ 63 by omega)]
                  have hmoR : ∀ p, (andn (H &&& w) (R3 tx tn)).testBit p = true → p < P ∧ Rch m (prodOf f p) tx tn := by
                    intro p hb
                    rw [hmob, Bool.and_eq_true, Bool.and_eq_true] at hb
                    obtain ⟨h1, h2, h3⟩ := hHp p hb.1.1
                    have h4 := (Rch.closed m _).n x y h2 h3 k hlt3
                    rw [htx, hac, Int.toNat_natCast, Int.toNat_natCast, hnx2 p, next_of hlcd hcm (by rw [hw1, Int.toNat_natCast]; exact hb.1.2), htn, Int.toNat_natCast] at h4
                    exact ⟨h1, h4⟩
                  have htk : lc.take (j + 1) = lc.take j ++ [lc[j]!] := by rw [List.take_succ_eq_append_getElem hlt4, getElem!_pos lc j hlt4]
                  generalize hmo : andn (H &&& w) (R3 tx tn) = mo at *
                  refine ⟨fun hne => ⟨⟨by omega, rfl⟩, ?_⟩, fun hze => ?_⟩
                  · have hmo0 : mo ≠ 0 := by intro e; rw [e] at hne; simp at hne
                    obtain ⟨b0, hb0⟩ : ∃ b, mo.testBit b = true := by
                      rcases Classical.em (∃ b, mo.testBit b = true) with h | h
                      · exact h
                      · exact absurd (nat_zero_bits.2 fun a => by cases hb : mo.testBit a with | false => rfl | true => exact absurd ⟨a, hb⟩ h) hmo0
                    have hb0P := (hmoR b0 hb0).1
                    have hb0R : (R3 tx tn).testBit b0 = false := by
                      rw [hmob, Bool.and_eq_true] at hb0; simpa using hb0.2
                    have hpot := pot_upd (P := P) (R := R3) (v := R3 tx tn ||| mo) htx2 htn2 (zerosN_lt (fun a ha => by rw [Nat.testBit_or, ha]; rfl) hb0P hb0R (by rw [Nat.testBit_or, hb0, Bool.or_true]))
                    have hmono : ∀ p x' y', (R3 x' y').testBit p = true → (updR R3 tx tn (R3 tx tn ||| mo) x' y').testBit p = true := by
                      intro p x' y' h
                      unfold updR; split
                      · rename_i e; rw [e.1, e.2] at h; rw [Nat.testBit_or, h]; rfl
                      · exact h
                    have hmore := hSI4.more htx2 htn2 hmoR
                    refine hN4 (j + 1, putM l3 ((tx : Int), (tn : Int)) (.int .i64 ((R3 tx tn ||| mo : Nat) : Int)), updR R3 tx tn (R3 tx tn ||| mo), Q3 ++ [(tx, tn)]) _ (by simp only; omega) ⟨by simp only; omega, by simp only [List.length_append, List.length_singleton]; omega, by simp only; rw [List.drop_append_of_le_length hiQ3]; exact hmore, fun x' y' => ?_, by simp only [List.length_append, List.length_singleton]; omega, fun p hp k' hk' => hmono _ _ _ (hdn3 p hp k' hk'), fun p hp c hc hcb => ?_, ?_⟩
                    · simp only
                      rw [lookM_put]
                      unfold updR
                      by_cases e : x' = tx ∧ y' = tn
                      · obtain ⟨rfl, rfl⟩ := e; simp
                      · have e2 : ¬ (((x' : Int), (y' : Int)) = ((tx : Int), (tn : Int))) := by simp; intro h1 h2; exact e ⟨by omega, by omega⟩
                        rw [if_neg e2, if_neg e]; exact hR3 x' y'
                    · simp only at hc ⊢
                      rw [htk, List.mem_append, List.mem_singleton] at hc
                      rcases hc with hc | rfl
                      · exact hmono _ _ _ (hdc p hp c hc hcb)
                      · rw [htn, Int.toNat_natCast, updR_self, Nat.testBit_or, hmob, hp]
                        rw [hw1, Int.toNat_natCast] at hcb
                        rw [hcb]; cases (R3 tx tn).testBit p <;> rfl
                    · simp only [go_sem, ↓reduceIte, ↓guardT_tt, ↓guardT_tf, ↓guardT_ft, ↓guardT_ff, ↓condT_t, ↓condT_f, List.map_append, eN2, eN]
                      repeat apply Exists.intro
                      rfl
                  · have hmo0 : mo = 0 := by
                      have h := hze
                      simp at h; exact h
                    refine hN4 (j + 1, l3, R3, Q3) _ (by simp only; omega) ⟨by simp only; omega, hiQ3, hSI4, hR3, hcnt3, hdn3, fun p hp c hc hcb => ?_, ?_⟩
                    · simp only at hc ⊢
                      rw [htk, List.mem_append, List.mem_singleton] at hc
                      rcases hc with hc | rfl
                      · exact hdc p hp c hc hcb
                      · have := hmob p
                        rw [hmo0, hp] at this
                        rw [hw1, Int.toNat_natCast] at hcb
                        rw [hcb] at this
                        rw [htn, Int.toNat_natCast]
                        simpa using this
                    · simp only [go_sem, ↓reduceIte, ↓guardT_tt, ↓guardT_tf, ↓guardT_ft, ↓guardT_ff, ↓condT_t, ↓condT_f]
                      repeat apply Exists.intro
                      rfl
                · have hjl4 : j = lc.length := by omega
                  rw [hjl4, List.take_length] at hdc
                  subst hQ4
                  simp only [go_sem, ↓reduceIte, ↓guardT_tt, ↓guardT_tf, ↓guardT_ft, ↓guardT_ff, ↓condT_t, ↓condT_f, Int.ofNat_lt, hlt4, wrap_succ hlt3 (show m.S[x]!.length ≤ 1000000000 by omega)]
                  refine hN3 (k + 1, l3, R3, Q3) _ (by simp only; omega) ⟨by simp only; omega, hiQ3, hSI4, hR3, hcnt3, fun p hp => forall_lt_succ (hdn3 p hp) ?_, ?_⟩
                  · obtain ⟨h1, h2, h3⟩ := hHp p hp
                    have h4 := good_nxt hm (prod_ok hf p) (by rw [he]; rfl) hxl (by rw [prod_len]; exact hyl) h3 hlt3
                    have h5 := h4.2.2.2.2.1
                    simp only
                    rw [hac, Int.toNat_natCast, hnx2 p] at h5
                    rw [htx, hac, Int.toNat_natCast, Int.toNat_natCast, hnx2 p]
                    rcases @next_mem lc p with ⟨e, _⟩ | e
                    · rw [e] at h5; omega
                    · obtain ⟨c, hc, hcb, hcN⟩ := mem_chosen.1 e
                      rw [← hcN]; exact hdc p hp c hc hcb
                  · simp only [go_sem, ↓reduceIte, ↓guardT_tt, ↓guardT_tf, ↓guardT_ft, ↓guardT_ff, ↓condT_t, ↓condT_f]
                    repeat apply Exists.intro
                    rfl
              · refine ⟨by simp, hiQ, hSI3, hR2, hcnt2, hdn, fun p _ c hc => by simp at hc, ?_⟩
                simp only [go_sem, ↓reduceIte, ↓guardT_tt, ↓guardT_tf, ↓guardT_ft, ↓guardT_ff, ↓condT_t, ↓condT_f]
                repeat apply Exists.intro
                rfl
            · have hkl : k = m.S[x]!.length := by omega
              subst hQ3
              have hiw : IntKind.i64.wrap ((i : Int) + 1) = ((i + 1 : Nat) : Int) := by rw [wrapI] <;> omega
              simp only [go_sem, ↓reduceIte, ↓guardT_tt, ↓guardT_tf, ↓guardT_ft, ↓guardT_ff, ↓condT_t, ↓condT_f, Int.ofNat_lt, hlt3, hiw]
              refine hN (i + 1, good2, l2, R2, Q2) _ (by simp only; omega) ⟨hiQ, hSI3.done (fun p hp => (hHp p hp).2.2) (fun p hp k' hk' => hdn p hp k' (by omega)), hR2, by simp only; omega, ?_⟩
              simp only [go_sem, ↓reduceIte, ↓guardT_tt, ↓guardT_tf, ↓guardT_ft, ↓guardT_ff, ↓condT_t, ↓condT_f]
              rw [mv1_stay rfl (by decide)]
              simp only [go_sem, ↓reduceIte, ↓guardT_tt, ↓guardT_tf, ↓guardT_ft, ↓guardT_ff, ↓condT_t, ↓condT_f]
              repeat apply Exists.intro
              rfl
          · refine ⟨by simp, by simp only; omega, hSI2, hR, by simp, fun p _ k hk => absurd hk (by simp), ?_⟩
            simp only [go_sem, ↓reduceIte, ↓guardT_tt, ↓guardT_tf, ↓guardT_ft, ↓guardT_ff, ↓condT_t, ↓condT_f]
            repeat apply Exists.intro
            rfl
      · refine ⟨by simp, by simp, .inr ⟨rfl, by simp⟩, ?_⟩
        simp only [go_sem, ↓reduceIte, ↓guardT_tt, ↓guardT_tf, ↓guardT_ft, ↓guardT_ff, ↓condT_t, ↓condT_f]
        repeat apply Exists.intro
        rfl
    · have hil : i = Q.length := by omega
      subst hil
      rw [List.drop_length] at hSI
      subst hQ
      simp only [go_sem, ↓reduceIte, ↓guardT_tt, ↓guardT_tf, ↓guardT_ft, ↓guardT_ff, ↓condT_t, ↓condT_f, hσ, Int.ofNat_lt, hlt]
      rw [hSI.fin, hPt]
  · have hm1 : (2 ^ P - 1) < 2 ^ P := by omega
    have htb : ∀ p, (2 ^ P - 1).testBit p = true ↔ p < P := fun p => by rw [Nat.testBit_two_pow_sub_one, decide_eq_true_eq]
    have hRu : ∀ p x y, (updR (fun _ _ => 0) 0 0 (2 ^ P - 1) x y).testBit p = true ↔ x = 0 ∧ y = 0 ∧ p < P := by
      intro p x y; unfold updR
      split
      · rename_i e; obtain ⟨rfl, rfl⟩ := e; rw [htb]; simp
      · rename_i e; simp; intro h1 h2; exact absurd ⟨h1, h2⟩ e
    refine ⟨by simp, ⟨hm1, fun p hp => ?_, fun p x y h => ?_, fun p hp => (hRu p 0 0).2 ⟨rfl, rfl, hp⟩, fun p hp h => ?_, fun p hp x y h => ?_⟩, fun x y => ?_, ?_, ?_⟩
    · simp at hp; subst hp; exact ⟨by have := hm.s1; simp only; omega, by have := hf.s1; simp only; omega⟩
    · obtain ⟨rfl, rfl, h3⟩ := (hRu p x y).1 h; exact ⟨h3, (Rch.closed m _).z⟩
    · rw [(htb p).2 hp] at h; cases h
    · obtain ⟨rfl, rfl, h3⟩ := (hRu p x y).1 h; left; simp
    · simp only
      rw [lookM_put]
      unfold updR
      by_cases e : x = 0 ∧ y = 0
      · obtain ⟨rfl, rfl⟩ := e; simp
      · have e2 : ¬ (((x : Int), (y : Int)) = (0, 0)) := by simp; intro h1 h2; exact e ⟨by omega, by omega⟩
        rw [if_neg e2, if_neg e]; rfl
    · simp only
      have h1 := @pot_le m.S.length f.S.length P (updR (fun _ _ => 0) 0 0 (2 ^ P - 1))
      have h2 : m.S.length * (f.S.length * P) ≤ 5000 * (500 * 32) := Nat.mul_le_mul (by omega) (Nat.mul_le_mul (by omega) hP32)
      simp only [List.length_singleton]; omega
    · simp only [go_sem, ↓reduceIte, ↓guardT_tt, ↓guardT_tf, ↓guardT_ft, ↓guardT_ff, ↓condT_t, ↓condT_f]
      rw [mv1_move (r := 3) rfl rfl rfl (by decide) rfl (by decide)]
      simp only [go_sem, ↓reduceIte, ↓guardT_tt, ↓guardT_tf, ↓guardT_ft, ↓guardT_ff, ↓condT_t, ↓condT_f, eN2, eN]
      repeat apply Exists.intro
      rfl
end Go.Mw

/- The law of what is decided for all products at once. -/
namespace Go.Mw
set_option linter.unusedVariables false
set_option linter.unusedSimpArgs false
set_option maxRecDepth 100000
open Classical in
/-- what is answered -/
noncomputable def satA (m : Sys) (f : Fam) : Int × Int := if SysOk m then (if FamOk f then (if m.acts = f.acts then ((bitsN (satP m f) f.P.toNat : Nat), 0) else (0, 10)) else (0, 160)) else (0, 20)
open Classical in
theorem satisfied_all (m : Sys) (hmz : SySz m) (f : Fam) (hfz : FSz f) : FnT G f_family_Satisfied [eSys m, eF f] (.tup [I (satA m f).1, I (satA m f).2]) := by
  by_cases hm : SysOk m
  · by_cases hf : FamOk f
    · by_cases he : m.acts = f.acts
      · have := satisfied_ok m hmz f hfz hm hf he
        simpa only [satA, hm, hf, he, if_true] using this
      · have hde : decide (m.acts = f.acts) = false := decide_eq_false he
        refine FnP.mk' g_family_Satisfied rfl rfl ?_
        simp only [go_sem, ↓reduceIte, ↓guardT_tt, ↓guardT_tf, ↓guardT_ft, ↓guardT_ff, ↓condT_t, ↓condT_f, c_family_Satisfied, eSys, eF, sys_r hmz, fam_r hfz, hm, hf, eqS_r hmz.a hfz.a, hde, satA, he]
    · refine FnP.mk' g_family_Satisfied rfl rfl ?_
      simp only [go_sem, ↓reduceIte, ↓guardT_tt, ↓guardT_tf, ↓guardT_ft, ↓guardT_ff, ↓condT_t, ↓condT_f, c_family_Satisfied, eSys, eF, sys_r hmz, fam_r hfz, hm, hf, satA]
  · refine FnP.mk' g_family_Satisfied rfl rfl ?_
    simp only [go_sem, ↓reduceIte, ↓guardT_tt, ↓guardT_tf, ↓guardT_ft, ↓guardT_ff, ↓condT_t, ↓condT_f, c_family_Satisfied, eSys, eF, sys_r hmz, hm, satA]
section
variable {fr : Bool} {roots : List Nat} {b : Nat} {ss : List Nat} {σ : St} {k : AV → St → Prop}
theorem satisfied_r {m : Sys} (hmz : SySz m) {f : Fam} (hfz : FSz f) : callT G f_family_Satisfied [.agg [.lst (m.acts.map .str), .lst (m.S.map eEs)], .agg [.lst (f.acts.map .str), I f.P, .lst (f.S.map eP)]] fr roots b ss σ k = k (.tup [I (satA m f).1, I (satA m f).2]) σ := (satisfied_all m hmz f hfz).rule
theorem full_r {f : Fam} (hfz : FSz f) : callT G f_family_Full [.agg [.lst (f.acts.map .str), I f.P, .lst (f.S.map eP)]] fr roots b ss σ k = k (.tup [I (fullA f).1, I (fullA f).2]) σ := (full_ok f hfz).rule
theorem fullR_r {f : Fam} (hf : FamOk f) (hfz : FSz f) : callT G f_makeweightref16_Full [.agg [.lst (f.acts.map .str), I f.P, .lst (f.S.map eP)]] fr roots b ss σ k = k (I (bitsN (fullP f) f.P.toNat : Nat)) σ := (fullR_ok f hf hfz).rule
theorem satisfiedR_r {m : Sys} (hm : SysOk m) (hmz : SySz m) {f : Fam} (hf : FamOk f) (hfz : FSz f) (he : m.acts = f.acts) : callT G f_makeweightref16_Satisfied [.agg [.lst (m.acts.map .str), .lst (m.S.map eEs)], .agg [.lst (f.acts.map .str), I f.P, .lst (f.S.map eP)]] fr roots b ss σ k = k (I (bitsN (satP m f) f.P.toNat : Nat)) σ := (satisfiedR_ok m hm hmz f hf hfz he).rule
end
theorem familyDecides_ok (m : Sys) (hmz : SyBig m) (f : Fam) (hfz : FBig f) : FnT G f_makeweightlaw16_FamilyDecides [eSys m, eF f] (Bo true) := by
  obtain ⟨u, hu, hmP⟩ := few16_big m hmz
  obtain ⟨v, hv, hfP⟩ := light_big f hfz
  have hfew : ∀ {fr : Bool} {roots : List Nat} {b : Nat} {ss : List Nat} {σ : St} {k : AV → St → Prop}, callT G f_makeweightlaw16_few [.agg [.lst (m.acts.map .str), .lst (m.S.map eEs)]] fr roots b ss σ k = k (Bo u) σ := hu.rule
  have hlight : ∀ {fr : Bool} {roots : List Nat} {b : Nat} {ss : List Nat} {σ : St} {k : AV → St → Prop}, callT G f_makeweightlaw16_light [.agg [.lst (f.acts.map .str), I f.P, .lst (f.S.map eP)]] fr roots b ss σ k = k (Bo v) σ := hv.rule
  refine FnP.mk' g_makeweightlaw16_FamilyDecides rfl rfl ?_
  simp only [go_sem, ↓reduceIte, ↓guardT_tt, ↓guardT_tf, ↓guardT_ft, ↓guardT_ff, ↓condT_t, ↓condT_f, c_makeweightlaw16_FamilyDecides, eSys, eF, hfew, hlight, awake_r]
  cases u with
  | false => simp only [go_sem, ↓reduceIte, ↓guardT_tt, ↓guardT_tf, ↓guardT_ft, ↓guardT_ff, ↓condT_t, ↓condT_f]
  | true =>
    cases v with
    | false => simp only [go_sem, ↓reduceIte, ↓guardT_tt, ↓guardT_tf, ↓guardT_ft, ↓guardT_ff, ↓condT_t, ↓condT_f]
    | true =>
      have hm := hmP rfl
      have hf := hfP rfl
      simp only [go_sem, ↓reduceIte, ↓guardT_tt, ↓guardT_tf, ↓guardT_ft, ↓guardT_ff, ↓condT_t, ↓condT_f, famR_r hf]
      by_cases hF : FamOk f
      · by_cases hM : SysOk m
        · by_cases he : m.acts = f.acts
          · have hde : decide (m.acts = f.acts) = true := decide_eq_true he
            have hsa : satA m f = (((bitsN (satP m f) f.P.toNat : Nat) : Int), 0) := by simp only [satA, hM, hF, he, if_true]
            simp only [go_sem, ↓reduceIte, ↓guardT_tt, ↓guardT_tf, ↓guardT_ft, ↓guardT_ff, ↓condT_t, ↓condT_f, hF, hM, fullR_r hF hf, sysR_r hm, sameSR_r hm.a hf.a, hde, satisfiedR_r hM hm hF hf he, sysCopy_r hm, copy_r hf, eSys, eF, satisfied_r hm hf, full_r hf, awake_r, hsa, fullA]
          · have hde : decide (m.acts = f.acts) = false := decide_eq_false he
            simp only [go_sem, ↓reduceIte, ↓guardT_tt, ↓guardT_tf, ↓guardT_ft, ↓guardT_ff, ↓condT_t, ↓condT_f, hF, hM, fullR_r hF hf, sysR_r hm, sameSR_r hm.a hf.a, hde, sysCopy_r hm, copy_r hf, eSys, eF, satisfied_r hm hf, full_r hf, awake_r, satA, fullA, he]
        · simp only [go_sem, ↓reduceIte, ↓guardT_tt, ↓guardT_tf, ↓guardT_ft, ↓guardT_ff, ↓condT_t, ↓condT_f, hF, hM, fullR_r hF hf, sysR_r hm, sysCopy_r hm, copy_r hf, eSys, eF, satisfied_r hm hf, full_r hf, awake_r, satA, fullA]
      · by_cases hM : SysOk m
        · simp only [go_sem, ↓reduceIte, ↓guardT_tt, ↓guardT_tf, ↓guardT_ft, ↓guardT_ff, ↓condT_t, ↓condT_f, hF, hM, sysR_r hm, sysCopy_r hm, copy_r hf, eSys, eF, satisfied_r hm hf, full_r hf, awake_r, satA, fullA]
        · simp only [go_sem, ↓reduceIte, ↓guardT_tt, ↓guardT_tf, ↓guardT_ft, ↓guardT_ff, ↓condT_t, ↓condT_f, hF, hM, sysR_r hm, sysCopy_r hm, copy_r hf, eSys, eF, satisfied_r hm hf, full_r hf, awake_r, satA, fullA]
end Go.Mw
