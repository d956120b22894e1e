/- Trimming, as the program does it: plain facts. -/
import Derived.Test.YtlkjckdddfckeaaM22
set_option linter.unusedVariables false
set_option linter.unusedSimpArgs false
namespace Go.Mw
set_option maxRecDepth 100000
theorem bfs_all {n : Nat} {nx : Nat → List Int} {P : Nat → Prop} (h0 : P 0) (hn : ∀ x, P x → ∀ k ∈ nx x, 0 ≤ k → P k.toNat) : ∀ i, ∀ x ∈ (bfsAt n nx i).2, P x := by
 have vis : ∀ (ks : List Int) (p : List Bool × List Nat), (∀ x ∈ p.2, P x) → (∀ k ∈ ks, 0 ≤ k → P k.toNat) → ∀ x ∈ (ks.foldl visit p).2, P x := by
  intro ks
  induction ks with
  | nil => intro p hp _; exact hp
  | cons k ks ih =>
    intro p hp hk
    refine ih _ (fun x hx => ?_) (fun j hj => hk j (List.mem_cons_of_mem _ hj))
    unfold visit at hx
    split at hx
    ·rename_i hc
     simp only [List.mem_append, List.mem_singleton] at hx
     rcases hx with hx | rfl
     ·exact hp x hx
     ·exact hk k (List.mem_cons_self ..) hc.1
    ·exact hp x hx
 intro i
 induction i with
 | zero => intro x hx; simp [bfsAt] at hx; subst hx; exact h0
 | succ i ih =>
   simp only [bfsAt]
   split
   ·rename_i hl
    exact vis _ _ ih (fun k hk hk0 => hn _ (ih _ (getMem hl)) k hk hk0)
   ·exact ih
theorem bfs_mono {n : Nat} {nx : Nat → List Int} {i : Nat} : ∀ j, (bfsAt n nx i).2 <+: (bfsAt n nx (i + j)).2 := by
 intro j
 induction j with
 | zero => exact List.prefix_refl _
 | succ j ih =>
   refine ih.trans ?_
   rw [← Nat.add_assoc]
   simp only [bfsAt]
   split
   ·exact visits_pre _
   ·exact List.prefix_refl _
theorem pre_get {α : Type} [Inhabited α] {l k : List α} (h : l <+: k) {i : Nat} (hi : i < l.length) : k[i]! = l[i]! := by
 obtain ⟨r, rfl⟩ := h
 rw [getElem!_pos _ i (by rw [List.length_append]; omega), List.getElem_append_left hi, getElem!_pos l i hi]
theorem dies_iff {x : Stt} {st n : Nat} (h : SttOk x st n) {j : Nat} (hj : j < x.A.length) {P : Nat → Prop} : Dies x P x.A[j]! ↔ ∃ a, hasA x.A[j]! a = true ∧ P x.X[a]!.toNat := by
 constructor
 ·rintro ⟨a, _, _, h3, h4⟩; exact ⟨a, h3, h4⟩
 ·rintro ⟨a, h3, h4⟩
  have ha : a < n := testBit_lt (n := x.A[j]!.toNat) (by have := h.a j hj; omega) h3
  exact ⟨a, by rw [h.len]; exact ha, h.has j hj a ha h3, h3, h4⟩
theorem kept_nd {s : Spc} {x : Nat} {v : Int} (h : v ∈ keptL s x) : v ∈ s.S[x]!.A ∧ ¬ Dies s.S[x]! (inB (holL s)) v := by
 unfold keptL at h
 have := List.mem_filter.1 h
 exact ⟨this.1, by simpa using this.2⟩
theorem ord_solid {s : Spc} (h : SpcOk s) (h0 : (holL s)[0]! = false) : ∀ i, ∀ x ∈ (bfsAt s.S.length (fun x => (solidOf s).S[x]!.X) i).2, x < s.S.length ∧ (holL s)[x]! = false := by
 refine bfs_all ⟨h.s1, h0⟩ ?_
 rintro x ⟨hx, hhx⟩ k hk hk0
 have hkl := sol_xb (h.b h.sz) x hx k hk
 refine ⟨by omega, ?_⟩
 simp only [solid_get hx] at hk
 obtain ⟨a, ha, e⟩ := getAt hk
 simp only [solS, onlyX_len] at ha
 have e2 : (solS s x).X[a]! = k := e
 rw [solX_get ha] at e2
 by_cases hu : (usedN (solA s x)).testBit a = true
 ·rw [if_pos hu] at e2
  obtain ⟨v, hv, hb⟩ := usedN_bit.1 hu
  have hv2 : v ∈ keptL s x := by unfold solA at hv; rw [if_neg (by rw [hhx]; simp)] at hv; exact hv
  obtain ⟨hv3, hv4⟩ := kept_nd hv2
  cases hb2 : (holL s)[k.toNat]! with
  | false => rfl
  | true =>
    refine absurd ⟨a, ha, by rw [e2]; exact hk0, hb, ?_⟩ hv4
    rw [e2]; exact hb2
 ·rw [if_neg hu] at e2; omega
open Classical in
theorem holL_iff {s : Spc} {x : Nat} (hx : x < s.S.length) : (holL s)[x]! = true ↔ Hol s x := by
 unfold holL; rw [mapR_get hx, decide_eq_true_eq]
theorem kept_ne {s : Spc} (h : SpcOk s) {x : Nat} (hx : x < s.S.length) (hh : (holL s)[x]! = false) : keptL s x ≠ [] := by
 intro he
 have hno : ¬ Hol s x := by
  intro hH
  have := (holL_iff hx).2 hH
  rw [hh] at this; cases this
 refine hno (Hol.closed s x hx (fun i hi => ?_))
 refine Classical.byContradiction fun hnd => ?_
 have : s.S[x]!.A[i]! ∈ keptL s x := by
  unfold keptL
  refine List.mem_filter.2 ⟨getMem hi, ?_⟩
  have : ¬ Dies s.S[x]! (inB (holL s)) s.S[x]!.A[i]! := fun hd => hnd (by
   obtain ⟨a, h1, h2, h3, h4⟩ := hd
   refine ⟨a, h1, h2, h3, ?_⟩
   unfold inB at h4
   have hlt : s.S[x]!.X[a]!.toNat < s.S.length := by have := ((h.st x hx).x a (by rw [← (h.st x hx).len]; exact h1)).2; omega
   exact (holL_iff hlt).1 h4)
  simpa using this
 rw [he] at this; cases this
theorem onlyX_vis {x : Stt} {u j : Nat} {p : List Bool × List Nat} : (onlyX x u (j + 1)).foldl visit p = if u.testBit j then visit ((onlyX x u j).foldl visit p) x.X[j]! else (onlyX x u j).foldl visit p := by
 rw [onlyX_succ, List.foldl_append]
 by_cases h : u.testBit j
 ·rw [if_pos h, if_pos h]; rfl
 ·rw [if_neg h, if_neg h]; simp [visit]
theorem onlyX_big {x : Stt} {u j : Nat} {p : List Bool × List Nat} (h : ∀ b, j ≤ b → u.testBit b = false) : ∀ k, (onlyX x u (j + k)).foldl visit p = (onlyX x u j).foldl visit p := by
 intro k
 induction k with
 | zero => rfl
 | succ k ih => rw [← Nat.add_assoc, onlyX_vis, if_neg (by rw [h (j + k) (by omega)]; simp), ih]
theorem onlyX_any {x : Stt} {u j k : Nat} {p : List Bool × List Nat} (hj : u < 2 ^ j) (hk : u < 2 ^ k) : (onlyX x u j).foldl visit p = (onlyX x u k).foldl visit p := by
 rcases Nat.le_total j k with h | h
 ·have := onlyX_big (x := x) (u := u) (j := j) (p := p) (fun b hb => testBit_big hj hb) (k - j)
  rw [show j + (k - j) = k by omega] at this; exact this.symm
 ·have := onlyX_big (x := x) (u := u) (j := k) (p := p) (fun b hb => testBit_big hk hb) (j - k)
  rw [show k + (j - k) = j by omega] at this; exact this
end Go.Mw
/- A family of trimmed specifications: plain facts. -/
namespace Go.Mw
set_option maxRecDepth 100000
def offL (T : List Spc) : Nat → Nat
 | 0 => 1
 | p + 1 => offL T p + T[p]!.S.length
theorem offL_le {T : List Spc} {p : Nat} : ∀ k, offL T p ≤ offL T (p + k)
 | 0 => Nat.le_refl _
 | k + 1 => Nat.le_trans (offL_le k) (Nat.le_add_right _ _)
theorem offL_mono {T : List Spc} {p q : Nat} (h : p ≤ q) : offL T p ≤ offL T q := by
 have := offL_le (T := T) (p := p) (q - p); rwa [show p + (q - p) = q by omega] at this
theorem offL_pos {T : List Spc} {p : Nat} : 1 ≤ offL T p := offL_mono (p := 0) (Nat.zero_le _)
def planP (p off : Nat) (x : Stt) : Plan := ⟨x.A.map fun v => ⟨v, ((2 ^ p : Nat) : Int)⟩, x.X.map fun k => if 0 ≤ k then [⟨(off : Int) + k, ((2 ^ p : Nat) : Int)⟩] else []⟩
def blocksL (T : List Spc) : Nat → List Plan
 | 0 => []
 | p + 1 => blocksL T p ++ T[p]!.S.map (planP p (offL T p))
theorem blocksL_len {T : List Spc} : ∀ {n : Nat}, (blocksL T n).length + 1 = offL T n
 | 0 => rfl
 | n + 1 => by simp only [blocksL, offL, List.length_append, List.length_map, ← blocksL_len (T := T) (n := n)]; omega
theorem blocksL_get {T : List Spc} {p j : Nat} (hj : j < T[p]!.S.length) : ∀ {n : Nat}, p < n → (blocksL T n)[offL T p - 1 + j]! = planP p (offL T p) T[p]!.S[j]! := by
 intro n
 induction n with
 | zero => intro h; omega
 | succ n ih =>
   intro h
   have hl := @blocksL_len T n
   have hpos := @offL_pos T p
   simp only [blocksL]
   rcases Nat.lt_or_eq_of_le (Nat.le_of_lt_succ h) with h1 | rfl
   ·have h2 := offL_mono (T := T) (show p + 1 ≤ n by omega)
    simp only [offL] at h2
    rw [← ih h1, List.getElem!_eq_getElem?_getD, List.getElem?_append_left (by omega), ← List.getElem!_eq_getElem?_getD]
   ·have e : offL T p - 1 + j - (blocksL T p).length = j := by omega
    rw [List.getElem!_eq_getElem?_getD, List.getElem?_append_right (by omega), e, List.getElem?_map, List.getElem?_eq_getElem hj, getElem!_pos _ j hj]; rfl
theorem off_at {T : List Spc} : ∀ {n i : Nat}, 1 ≤ i → i < offL T n → ∃ p j, p < n ∧ j < T[p]!.S.length ∧ i = offL T p + j := by
 intro n
 induction n with
 | zero => intro i h1 h2; simp [offL] at h2; omega
 | succ n ih =>
   intro i h1 h2
   rcases Nat.lt_or_ge i (offL T n) with h3 | h3
   ·obtain ⟨p, j, g1, g2, g3⟩ := ih h1 h3; exact ⟨p, j, by omega, g2, g3⟩
   ·exact ⟨n, i - offL T n, by omega, by simp only [offL] at h2; omega, by omega⟩
def hasS (T : List Spc) (v p : Nat) : Bool := decide ((v : Int) ∈ T[p]!.S[0]!.A)
def accL (T : List Spc) (n : Nat) : List Ch := ((List.range 256).filter fun v => bitsN (hasS T v) n != 0).map fun v : Nat => (⟨(v : Int), ((bitsN (hasS T v) n : Nat) : Int)⟩ : Ch)
def nxtL (T : List Spc) (a : Nat) : Nat → List Ch
 | 0 => []
 | p + 1 => nxtL T a p ++ if 0 ≤ T[p]!.S[0]!.X[a]! then [⟨(offL T p : Int) + T[p]!.S[0]!.X[a]!, ((2 ^ p : Nat) : Int)⟩] else []
def plan0 (T : List Spc) (n k : Nat) : Plan := ⟨accL T n, (List.range k).map fun a => nxtL T a n⟩
def ofFam (acts : List ByteArray) (T : List Spc) : Fam := ⟨acts, (T.length : Nat), plan0 T T.length acts.length :: blocksL T T.length⟩
theorem two_bit {p q : Nat} : ((2 ^ q : Nat) : Int).toNat.testBit p = decide (q = p) := by rw [Int.toNat_natCast, Nat.testBit_two_pow]
theorem mem_nxtL {T : List Spc} {a : Nat} {c : Ch} : ∀ {n : Nat}, c ∈ nxtL T a n ↔ ∃ p < n, 0 ≤ T[p]!.S[0]!.X[a]! ∧ c = ⟨(offL T p : Int) + T[p]!.S[0]!.X[a]!, ((2 ^ p : Nat) : Int)⟩ := by
 intro n
 induction n with
 | zero => simp [nxtL]
 | succ n ih =>
   simp only [nxtL, List.mem_append, ih]
   constructor
   ·rintro (⟨p, h1, h2⟩ | h)
    ·exact ⟨p, by omega, h2⟩
    ·split at h
     ·rename_i h0; rw [List.mem_singleton] at h; exact ⟨n, by omega, h0, h⟩
     ·cases h
   ·rintro ⟨p, h1, h2, h3⟩
    rcases Nat.lt_or_eq_of_le (Nat.le_of_lt_succ h1) with h4 | rfl
    ·exact .inl ⟨p, h4, h2, h3⟩
    ·right; rw [if_pos h2]; exact List.mem_singleton.2 h3
theorem mem_accL {T : List Spc} {n : Nat} {c : Ch} : c ∈ accL T n ↔ ∃ v < 256, bitsN (hasS T v) n ≠ 0 ∧ c = ⟨(v : Int), ((bitsN (hasS T v) n : Nat) : Int)⟩ := by
 unfold accL
 simp only [List.mem_map, List.mem_filter, List.mem_range, bne_iff_ne]
 exact ⟨fun ⟨v, ⟨h1, h2⟩, h3⟩ => ⟨v, h1, h2, h3.symm⟩, fun ⟨v, h1, h2, h3⟩ => ⟨v, ⟨h1, h2⟩, h3.symm⟩⟩
theorem acc0_mem {T : List Spc} {n p : Nat} (hp : p < n) (hb : ∀ v ∈ T[p]!.S[0]!.A, 0 ≤ v ∧ v < 256) {v : Int} : v ∈ chosenL (accL T n) p ↔ v ∈ T[p]!.S[0]!.A := by
 rw [mem_chosen]
 constructor
 ·rintro ⟨c, hc, hbit, rfl⟩
  obtain ⟨w, _, _, rfl⟩ := mem_accL.1 hc
  simp only [Int.toNat_natCast, bitsN_test, Bool.and_eq_true, hasS, decide_eq_true_eq] at hbit
  exact hbit.2
 ·intro hv
  obtain ⟨h1, h2⟩ := hb v hv
  obtain ⟨w, rfl⟩ : ∃ w : Nat, v = w := ⟨v.toNat, by omega⟩
  have ht : (bitsN (hasS T w) n).testBit p = true := by rw [bitsN_test, hasS, decide_eq_true hp, decide_eq_true hv]; rfl
  refine ⟨_, mem_accL.2 ⟨w, by omega, fun h0 => by rw [h0] at ht; simp at ht, rfl⟩, ?_, rfl⟩
  simpa using ht
theorem nxt_apart {T : List Spc} {a n : Nat} : (nxtL T a n).Pairwise Apart := by
 induction n with
 | zero => simp [nxtL]
 | succ n ih =>
   simp only [nxtL]
   rw [List.pairwise_append]
   refine ⟨ih, by split <;> simp, fun c hc d hd b hb => ?_⟩
   obtain ⟨p, hp, _, rfl⟩ := mem_nxtL.1 hc
   split at hd
   ·rw [List.mem_singleton] at hd; subst hd
    simp only [two_bit, decide_eq_true_eq] at hb
    omega
   ·cases hd
theorem nxt0_of {T : List Spc} {a n p : Nat} (hp : p < n) : nextOf (nxtL T a n) p = if 0 ≤ T[p]!.S[0]!.X[a]! then (offL T p : Int) + T[p]!.S[0]!.X[a]! else -1 := by
 by_cases h0 : 0 ≤ T[p]!.S[0]!.X[a]!
 ·rw [if_pos h0]
  exact next_of nxt_apart (mem_nxtL.2 ⟨p, hp, h0, rfl⟩) (by rw [two_bit]; simp)
 ·rw [if_neg h0]
  rcases @next_mem (nxtL T a n) p with ⟨e, _⟩ | e
  ·exact e
  ·obtain ⟨c, hc, hb, _⟩ := mem_chosen.1 e
   obtain ⟨q, _, hq, rfl⟩ := mem_nxtL.1 hc
   simp only [two_bit, decide_eq_true_eq] at hb
   subst hb; exact absurd hq h0
theorem planP_A {p q off : Nat} {x : Stt} {v : Int} : v ∈ chosenL (planP q off x).A p ↔ q = p ∧ v ∈ x.A := by
 rw [mem_chosen]
 constructor
 ·rintro ⟨c, hc, hb, rfl⟩
  simp only [planP, List.mem_map] at hc
  obtain ⟨w, hw, rfl⟩ := hc
  simp only [two_bit, decide_eq_true_eq] at hb
  exact ⟨hb, hw⟩
 ·rintro ⟨rfl, hv⟩
  exact ⟨⟨v, _⟩, by simp only [planP, List.mem_map]; exact ⟨v, hv, rfl⟩, by rw [two_bit]; simp, rfl⟩
theorem planP_X {p q off : Nat} {x : Stt} {a : Nat} (ha : a < x.X.length) : nextOf (planP q off x).X[a]! p = if q = p ∧ 0 ≤ x.X[a]! then (off : Int) + x.X[a]! else -1 := by
 simp only [planP]
 rw [getElem!_pos _ a (by simpa using ha), List.getElem_map, getElem!_pos x.X a ha]
 by_cases h0 : 0 ≤ x.X[a]
 ·rw [if_pos h0]
  by_cases hq : q = p
  ·subst hq
   have e : (((2 ^ q : Nat) : Int)).toNat.testBit q = true := by rw [two_bit]; simp
   rw [if_pos ⟨rfl, h0⟩, nextOf, chosenL, List.filter_cons, if_pos e]; rfl
  ·have e : ¬ (((2 ^ q : Nat) : Int)).toNat.testBit p = true := by rw [two_bit]; simpa using hq
   rw [if_neg (fun h => hq h.1), nextOf, chosenL, List.filter_cons, if_neg e]; rfl
 ·rw [if_neg h0, if_neg (fun h => h0 h.2)]; rfl
end Go.Mw
/- A family of trimmed specifications is valid. -/
namespace Go.Mw
set_option maxRecDepth 100000
structure TL (acts : List ByteArray) (T : List Spc) : Prop where
 av : actsOk acts = true
 n1 : 1 ≤ T.length
 n2 : T.length ≤ 32
 t : ∀ p < T.length, TSpc T[p]! ∧ T[p]!.acts = acts
 off : offL T T.length ≤ 500
theorem fam_len {acts : List ByteArray} {T : List Spc} : (ofFam acts T).S.length = offL T T.length := by simp only [ofFam, List.length_cons]; exact blocksL_len
theorem fam_get {acts : List ByteArray} {T : List Spc} {p j : Nat} (hp : p < T.length) (hj : j < T[p]!.S.length) : (ofFam acts T).S[offL T p + j]! = planP p (offL T p) T[p]!.S[j]! := by
 have hpos := @offL_pos T p
 rw [← blocksL_get hj hp]
 simp only [ofFam]
 obtain ⟨k, hk⟩ : ∃ k, offL T p = k + 1 := ⟨offL T p - 1, by omega⟩
 rw [hk, show k + 1 + j = k + j + 1 by omega, List.getElem!_cons_succ]
 rfl
theorem pow_le8 {n : Nat} (h : n ≤ 8) : 2 ^ n ≤ 256 := Nat.pow_le_pow_right (n := 2) (by omega) h
theorem pow_lt {p P : Nat} (h : p < P) : (1 : Int) ≤ ((2 ^ p : Nat) : Int) ∧ ((2 ^ p : Nat) : Int) < ((2 ^ P : Nat) : Int) := by
 have h1 := Nat.two_pow_pos p
 have h2 := Nat.pow_lt_pow_right (a := 2) (by omega) h
 omega
theorem TL.set {acts : List ByteArray} {T : List Spc} (h : TL acts T) {p j : Nat} (hp : p < T.length) (hj : j < T[p]!.S.length) {v : Int} (hv : v ∈ T[p]!.S[j]!.A) : 0 ≤ v ∧ v < ((2 ^ acts.length : Nat) : Int) := by
 obtain ⟨i, hi, e⟩ := getAt hv
 have := ((h.t p hp).1.ok.st j hj).a i hi
 rw [e, (h.t p hp).2] at this; exact this
theorem TL.has {acts : List ByteArray} {T : List Spc} (h : TL acts T) {p j : Nat} (hp : p < T.length) (hj : j < T[p]!.S.length) {v : Int} (hv : v ∈ T[p]!.S[j]!.A) {a : Nat} (ha : a < acts.length) (hb : hasA v a = true) : 0 ≤ T[p]!.S[j]!.X[a]! := by
 obtain ⟨i, hi, e⟩ := getAt hv
 exact ((h.t p hp).1.ok.st j hj).has i hi a (by rw [(h.t p hp).2]; exact ha) (by rw [e]; exact hb)
theorem TL.len {acts : List ByteArray} {T : List Spc} (h : TL acts T) {p j : Nat} (hp : p < T.length) (hj : j < T[p]!.S.length) : T[p]!.S[j]!.X.length = acts.length := by
 rw [((h.t p hp).1.ok.st j hj).len, (h.t p hp).2]
theorem TL.tgt {acts : List ByteArray} {T : List Spc} (h : TL acts T) {p j : Nat} (hp : p < T.length) (hj : j < T[p]!.S.length) {a : Nat} (ha : a < acts.length) : T[p]!.S[j]!.X[a]! < (T[p]!.S.length : Int) :=
 (((h.t p hp).1.ok.st j hj).x a (by rw [(h.t p hp).2]; exact ha)).2
theorem TL.s1 {acts : List ByteArray} {T : List Spc} (h : TL acts T) {p : Nat} (hp : p < T.length) : 0 < T[p]!.S.length := (h.t p hp).1.ok.s1
theorem TL.offp {acts : List ByteArray} {T : List Spc} (h : TL acts T) {p : Nat} (hp : p < T.length) : offL T p + T[p]!.S.length ≤ offL T T.length := offL_mono (T := T) (p := p + 1) hp
theorem wm_two {l : List Ch} (h : ∀ c ∈ l, ∃ p < 32, c.W = ((2 ^ p : Nat) : Int)) : WM l := fun c hc => by
 obtain ⟨p, hp, e⟩ := h c hc
 exact ⟨2 ^ p, e, Nat.pow_lt_pow_right (by omega) (by omega)⟩
theorem planP_ok {acts : List ByteArray} {T : List Spc} (h : TL acts T) {p j : Nat} (hp : p < T.length) (hj : j < T[p]!.S.length) : PlanOk (planP p (offL T p) T[p]!.S[j]!) acts.length (offL T T.length) T.length := by
 have hst := (h.t p hp).1.ok.st j hj
 have hoff := h.offp hp
 have hn2 := h.n2
 have hlen := h.len hp hj
 have hXa : ∀ a < acts.length, (planP p (offL T p) T[p]!.S[j]!).X[a]! = if 0 ≤ T[p]!.S[j]!.X[a]! then [⟨(offL T p : Int) + T[p]!.S[j]!.X[a]!, ((2 ^ p : Nat) : Int)⟩] else [] := fun a ha => by
  simp only [planP]
  rw [getElem!_pos _ a (by rw [List.length_map, hlen]; exact ha), List.getElem_map, getElem!_pos T[p]!.S[j]!.X a (by omega)]
 have hwm : ∀ a < acts.length, WM (planP p (offL T p) T[p]!.S[j]!).X[a]! := fun a ha => wm_two fun c hc => by
  rw [hXa a ha] at hc
  split at hc
  ·rw [List.mem_singleton] at hc; exact ⟨p, by omega, by rw [hc]⟩
  ·cases hc
 refine ⟨by simp only [planP, List.length_map]; exact hlen, choOk_iff.2 ⟨fun c hc => ?_, ?_⟩, fun a ha => ?_, fun i hi a ha hb => ?_⟩
 ·simp only [planP, List.mem_map] at hc
  obtain ⟨v, hv, rfl⟩ := hc
  have := h.set hp hj hv
  exact ⟨by simpa using this, pow_lt hp⟩
 ·simp only [planP]
  rw [List.pairwise_map]
  exact pw_of_ris hst.ris
 ·have ha' : a < acts.length := by simp only [planP, List.length_map] at ha; omega
  have htg := h.tgt hp hj ha'
  refine ⟨?_, (disj_iff (hwm a ha')).2 ?_⟩
  ·rw [hXa a ha', choOk_iff]
   split
   ·rename_i h0
    refine ⟨fun c hc => ?_, by simp⟩
    rw [List.mem_singleton] at hc; subst hc
    exact ⟨by simp only [decide_eq_true_eq]; omega, pow_lt hp⟩
   ·simp
  ·rw [hXa a ha']; split <;> simp
 ·have hi' : i < T[p]!.S[j]!.A.length := by simpa [planP] using hi
  have hAi : (planP p (offL T p) T[p]!.S[j]!).A[i]! = ⟨T[p]!.S[j]!.A[i]!, ((2 ^ p : Nat) : Int)⟩ := by
   simp only [planP]
   rw [getElem!_pos _ i (by simpa using hi'), List.getElem_map, getElem!_pos T[p]!.S[j]!.A i hi']
  rw [hAi] at hb ⊢
  have h0 := h.has hp hj (getMem hi') ha hb
  obtain ⟨o1, o2⟩ := orAll_nat (hwm a ha)
  rw [o1, (bandn_zero (Nat.pow_lt_pow_right (a := 2) (by omega) (show p < 63 by omega)) (by omega))]
  intro b hbb
  rw [hXa a ha, if_pos h0, orN_test]
  exact ⟨_, List.mem_singleton_self _, by rw [Int.toNat_natCast]; exact hbb⟩
theorem plan0_ok {acts : List ByteArray} {T : List Spc} (h : TL acts T) : PlanOk (plan0 T T.length acts.length) acts.length (offL T T.length) T.length := by
 have hn2 := h.n2
 have h8 := actsOk_len h.av
 have hXa : ∀ a < acts.length, (plan0 T T.length acts.length).X[a]! = nxtL T a T.length := fun a ha => getR ha
 have hwm : ∀ a, WM (nxtL T a T.length) := fun a => wm_two fun c hc => by
  obtain ⟨p, hp, _, rfl⟩ := mem_nxtL.1 hc
  exact ⟨p, by omega, rfl⟩
 refine ⟨by simp [plan0], choOk_iff.2 ⟨fun c hc => ?_, ?_⟩, fun a ha => ?_, fun i hi a ha hb => ?_⟩
 ·obtain ⟨v, hv, hne, rfl⟩ := mem_accL.1 hc
  obtain ⟨p, hpb⟩ : ∃ p, (bitsN (hasS T v) T.length).testBit p = true := by
   refine Classical.byContradiction fun hno => hne ?_
   refine nat_zero_bits.2 fun a => ?_
   cases hv : (bitsN (hasS T v) T.length).testBit a with
   | false => rfl
   | true => exact absurd ⟨a, hv⟩ hno
  rw [bitsN_test, Bool.and_eq_true, decide_eq_true_eq] at hpb
  have hm : (v : Int) ∈ T[p]!.S[0]!.A := of_decide_eq_true hpb.2
  have := h.set hpb.1 (h.s1 hpb.1) hm
  have hlt := @bitsN_lt (hasS T v) T.length
  exact ⟨by simpa using this, by simp only []; omega, by simp only []; omega⟩
 ·simp only [plan0, accL]
  rw [List.pairwise_map]
  refine (List.Pairwise.filter _ List.pairwise_lt_range).imp (fun {a b} hab => ?_)
  simp only []; omega
 ·have ha' : a < acts.length := by simpa [plan0] using ha
  rw [hXa a ha']
  refine ⟨choOk_iff.2 ⟨fun c hc => ?_, ?_⟩, (disj_iff (hwm a)).2 nxt_apart⟩
  ·obtain ⟨p, hp, h0, rfl⟩ := mem_nxtL.1 hc
   have htg := h.tgt hp (h.s1 hp) ha'
   have hoff := h.offp hp
   exact ⟨by simp only [decide_eq_true_eq]; omega, pow_lt hp⟩
  ·have key : ∀ n, n ≤ T.length → (nxtL T a n).Pairwise (fun c d => c.N < d.N) := by
    intro n
    induction n with
    | zero => intro _; simp [nxtL]
    | succ n ih =>
      intro hn
      simp only [nxtL]
      rw [List.pairwise_append]
      refine ⟨ih (by omega), by split <;> simp, fun c hc d hd => ?_⟩
      obtain ⟨p, hp, _, rfl⟩ := mem_nxtL.1 hc
      split at hd
      ·rw [List.mem_singleton] at hd; subst hd
       have h1 := h.tgt (show p < T.length by omega) (h.s1 (by omega)) ha'
       have h2 := offL_mono (T := T) (show p + 1 ≤ n by omega)
       simp only [offL] at h2 ⊢
       omega
      ·cases hd
   exact key _ (Nat.le_refl _)
 ·have hmem : (plan0 T T.length acts.length).A[i]! ∈ accL T T.length := getMem (l := accL T T.length) hi
  obtain ⟨v, hv, hne, hAi⟩ := mem_accL.1 hmem
  rw [hAi] at hb ⊢
  obtain ⟨o1, o2⟩ := orAll_nat (hwm a)
  rw [hXa a ha, o1, bandn_zero (bitsN_63 hn2) (by omega)]
  intro p hpb
  rw [bitsN_test, Bool.and_eq_true, decide_eq_true_eq] at hpb
  have hm : (v : Int) ∈ T[p]!.S[0]!.A := of_decide_eq_true hpb.2
  have h0 := h.has hpb.1 (h.s1 hpb.1) hm ha (by simpa [hasA] using hb)
  rw [orN_test]
  exact ⟨_, mem_nxtL.2 ⟨p, hpb.1, h0, rfl⟩, by rw [two_bit]; simp⟩
theorem ofFam_ok {acts : List ByteArray} {T : List Spc} (h : TL acts T) : FamOk (ofFam acts T) := by
 have h1 := h.n1
 have h2 := h.n2
 refine ⟨h.av, by simp only [ofFam]; omega, by simp only [ofFam]; omega, by rw [fam_len]; exact offL_pos, by rw [fam_len]; exact h.off, fun i hi => ?_⟩
 rw [fam_len] at hi ⊢
 have hP : (ofFam acts T).P.toNat = T.length := by simp [ofFam]
 rw [hP]
 rcases Nat.eq_zero_or_pos i with rfl | hpos
 ·exact plan0_ok h
 ·obtain ⟨p, j, hp, hj, rfl⟩ := off_at hpos hi
  rw [fam_get hp hj]
  exact planP_ok h hp hj
end Go.Mw
/- The products of a family of trimmed specifications have the implementations of these. -/
namespace Go.Mw
set_option maxRecDepth 100000
structure Orig (L : Spc) (o : Nat → Nat) : Prop where
 z : o 0 = 0
 lt : ∀ j < (trimA L).1.S.length, o j < L.S.length
 a : ∀ j < (trimA L).1.S.length, ∀ v ∈ (trimA L).1.S[j]!.A, v ∈ L.S[o j]!.A
 x : ∀ j < (trimA L).1.S.length, ∀ a < L.acts.length, 0 ≤ (trimA L).1.S[j]!.X[a]! → 0 ≤ L.S[o j]!.X[a]! ∧ o (trimA L).1.S[j]!.X[a]!.toNat = L.S[o j]!.X[a]!.toNat
theorem idx_get {l : List Nat} {k : Nat} (h : k ∈ l) : l[l.idxOf k]! = k := by
 have hl := List.idxOf_lt_length_of_mem h
 rw [getElem!_pos l _ hl, List.getElem_idxOf]
theorem trim_orig {L : Spc} (h : SpcOk L) : ∃ o, Orig L o := by
 have hb := h.b h.sz
 have h1 : 0 < L.S.length := h.s1
 cases h0 : (holL L)[0]! with
 | true =>
   have e : trimA L = (noSpc L.acts, []) := by unfold trimA; rw [if_pos h0]
   have hj : ∀ {j}, j < (trimA L).1.S.length → j = 0 := fun hj => by rw [e] at hj; simp [noSpc] at hj; exact hj
   refine ⟨fun _ => 0, rfl, fun j hj => h1, fun j hj' v hv => ?_, fun j hj' a ha hx => ?_⟩
   ·have := hj hj'; subst this; rw [e] at hv; simp [noSpc] at hv
   ·have := hj hj'; subst this; rw [e] at hx
    simp only [noSpc, List.getElem!_cons_zero] at hx
    rw [getElem!_pos _ a (by simpa using ha)] at hx; simp at hx
 | false =>
   have e : trimA L = (trimOf L, ordOf L) := by unfold trimA; rw [if_neg (by rw [h0]; simp)]
   rw [show (fun o => Orig L o) = fun o => Orig L o from rfl]
   refine ⟨fun j => (ordOf L)[j]!, ord_zero hb h1, ?_, ?_, ?_⟩
   all_goals
    rw [e]
    have hlen : (trimOf L).S.length = (ordOf L).length := by simp [trimOf]
    simp only [hlen]
   ·intro j hj; exact ord_lt hb h1 (getMem hj)
   ·intro j hj v hv
    rw [trim_get hj] at hv
    exact solA_mem (show v ∈ solA L (ordOf L)[j]! from hv)
   ·intro j hj a ha hx
    have hxl := ord_lt hb h1 (getMem hj)
    have hl := (h.st _ hxl).len
    rw [trim_get hj, trimS_X (by omega)] at hx ⊢
    have hcl := ord_closed hb h1 _ (getMem hj)
    rw [solid_get hxl] at hcl
    by_cases hu : (usedN (solA L (ordOf L)[j]!)).testBit a = true
    ·rw [if_pos hu] at hx ⊢
     have hX0 := solX_used h hxl (by omega) hu
     have hm : L.S[(ordOf L)[j]!]!.X[a]!.toNat ∈ ordOf L := by
      refine hcl _ ?_ hX0
      have : (solS L (ordOf L)[j]!).X[a]! ∈ (solS L (ordOf L)[j]!).X := getMem (by simp only [solS, onlyX_len]; omega)
      rw [solX_get (by omega), if_pos hu] at this; exact this
     refine ⟨hX0, ?_⟩
     have hp : placeX (ordOf L) L.S[(ordOf L)[j]!]!.X[a]! = ((ordOf L).idxOf L.S[(ordOf L)[j]!]!.X[a]!.toNat : Int) := by unfold placeX; rw [if_pos hX0]
     rw [hp, Int.toNat_natCast, idx_get hm]
    ·rw [if_neg hu] at hx; simp [placeX] at hx
theorem ref_sim {A B : Spc} (hA : SpcOk A) (R : Nat → Nat → Prop) (z : R 0 0)
 (s : ∀ x y, x < A.S.length → R x y → (∀ v ∈ A.S[x]!.A, v ∈ B.S[y]!.A) ∧ ∀ a < A.acts.length, 0 ≤ A.S[x]!.X[a]! → R A.S[x]!.X[a]!.toNat B.S[y]!.X[a]!.toNat) : Ref (trimA A).1 B := by
 obtain ⟨o, ho⟩ := trim_orig hA
 obtain ⟨hT, hTa⟩ := trimA_ok hA
 refine ref_of (P := fun i y => i < (trimA A).1.S.length ∧ R (o i) y) ⟨⟨hT.ok.s1, by rw [ho.z]; exact z⟩, ?_⟩ ?_
 ·rintro i y ⟨hi, hr⟩ _ a ha h0
  have hla := (hT.ok.st i hi).len
  rw [hTa] at hla
  have hxb := ((hT.ok.st i hi).x a (by rw [hTa]; omega)).2
  obtain ⟨g1, g2⟩ := ho.x i hi a (by omega) h0
  refine ⟨by omega, ?_⟩
  rw [g2]
  exact (s _ _ (ho.lt i hi) hr).2 a (by omega) g1
 ·rintro i y ⟨hi, hr⟩ v hv
  exact (s _ _ (ho.lt i hi) hr).1 v (ho.a i hi v hv)
theorem prod_get {acts : List ByteArray} {T : List Spc} {p i : Nat} (hi : i < offL T T.length) : (prodOf (ofFam acts T) p).S[i]! = sttOf (ofFam acts T).S[i]! p := prod_st (by rw [fam_len]; exact hi)
theorem TL.b256 {acts : List ByteArray} {T : List Spc} (h : TL acts T) {p : Nat} (hp : p < T.length) : ∀ v ∈ T[p]!.S[0]!.A, 0 ≤ v ∧ v < 256 := fun v hv => by
 have := h.set hp (h.s1 hp) hv
 have h8 := pow_le8 (actsOk_len h.av)
 omega
theorem prod0_A {acts : List ByteArray} {T : List Spc} (h : TL acts T) {p : Nat} (hp : p < T.length) {v : Int} : v ∈ (prodOf (ofFam acts T) p).S[0]!.A ↔ v ∈ T[p]!.S[0]!.A := by
 rw [prod_get offL_pos]
 exact acc0_mem hp (h.b256 hp)
theorem prod0_X {acts : List ByteArray} {T : List Spc} (h : TL acts T) {p : Nat} (hp : p < T.length) {a : Nat} (ha : a < acts.length) : (prodOf (ofFam acts T) p).S[0]!.X[a]! = if 0 ≤ T[p]!.S[0]!.X[a]! then (offL T p : Int) + T[p]!.S[0]!.X[a]! else -1 := by
 rw [prod_get offL_pos]
 have e : (ofFam acts T).S[0]! = plan0 T T.length acts.length := rfl
 rw [e, stt_X (by simpa [plan0] using ha), ← nxt0_of hp]
 congr 1
 exact getR ha
theorem prodj_A {acts : List ByteArray} {T : List Spc} (h : TL acts T) {p j : Nat} (hp : p < T.length) (hj : j < T[p]!.S.length) {v : Int} : v ∈ (prodOf (ofFam acts T) p).S[offL T p + j]!.A ↔ v ∈ T[p]!.S[j]!.A := by
 have := h.offp hp
 rw [prod_get (by omega), fam_get hp hj]
 exact planP_A.trans ⟨fun g => g.2, fun g => ⟨rfl, g⟩⟩
theorem prodj_X {acts : List ByteArray} {T : List Spc} (h : TL acts T) {p j : Nat} (hp : p < T.length) (hj : j < T[p]!.S.length) {a : Nat} (ha : a < acts.length) : (prodOf (ofFam acts T) p).S[offL T p + j]!.X[a]! = if 0 ≤ T[p]!.S[j]!.X[a]! then (offL T p : Int) + T[p]!.S[j]!.X[a]! else -1 := by
 have := h.offp hp
 have hl := h.len hp hj
 rw [prod_get (by omega), fam_get hp hj, stt_X (by simp only [planP, List.length_map]; omega), planP_X (by omega)]
 by_cases h0 : 0 ≤ T[p]!.S[j]!.X[a]!
 ·rw [if_pos ⟨rfl, h0⟩, if_pos h0]
 ·rw [if_neg (fun g => h0 g.2), if_neg h0]
theorem of_refines {acts : List ByteArray} {T : List Spc} (h : TL acts T) {p : Nat} (hp : p < T.length) {L : Spc} (hL : SpcOk L) (hLa : L.acts = acts) (hT : T[p]! = (trimA L).1) : Ref (trimA (prodOf (ofFam acts T) p)).1 L := by
 obtain ⟨o, ho⟩ := trim_orig hL
 obtain ⟨oz, olt, oa, ox⟩ := ho
 rw [← hT] at olt oa ox
 rw [hLa] at ox
 have hs1 := h.s1 hp
 refine ref_sim (prod_ok (ofFam_ok h) p) (fun x y => (x = 0 ∧ y = 0) ∨ ∃ j < T[p]!.S.length, x = offL T p + j ∧ y = o j) (.inl ⟨rfl, rfl⟩) ?_
 have ha' : ∀ a, a < (prodOf (ofFam acts T) p).acts.length → a < acts.length := fun a h => h
 rintro x y hx (⟨rfl, rfl⟩ | ⟨j, hj, rfl, rfl⟩)
 ·refine ⟨fun v hv => ?_, fun a ha h0 => ?_⟩
  ·have := oa 0 hs1 v ((prod0_A h hp).1 hv)
   rwa [oz] at this
  ·rw [prod0_X h hp (ha' a ha)] at h0 ⊢
   by_cases hk : 0 ≤ T[p]!.S[0]!.X[a]!
   ·rw [if_pos hk]
    obtain ⟨g1, g2⟩ := ox 0 hs1 a (ha' a ha) hk
    rw [oz] at g1 g2
    have := h.tgt hp hs1 (ha' a ha)
    exact .inr ⟨T[p]!.S[0]!.X[a]!.toNat, by omega, by omega, by rw [g2]⟩
   ·rw [if_neg hk] at h0; omega
 ·refine ⟨fun v hv => oa j hj v ((prodj_A h hp hj).1 hv), fun a ha h0 => ?_⟩
  rw [prodj_X h hp hj (ha' a ha)] at h0 ⊢
  by_cases hk : 0 ≤ T[p]!.S[j]!.X[a]!
  ·rw [if_pos hk]
   obtain ⟨g1, g2⟩ := ox j hj a (ha' a ha) hk
   have := h.tgt hp hj (ha' a ha)
   exact .inr ⟨T[p]!.S[j]!.X[a]!.toNat, by omega, by omega, by rw [g2]⟩
  ·rw [if_neg hk] at h0; omega
theorem refines_of {acts : List ByteArray} {T : List Spc} (h : TL acts T) {p : Nat} (hp : p < T.length) : Ref T[p]! (prodOf (ofFam acts T) p) := by
 have hs1 := h.s1 hp
 refine ref_of (P := fun j u => j < T[p]!.S.length ∧ ((j = 0 ∧ u = 0) ∨ u = offL T p + j)) ⟨⟨hs1, .inl ⟨rfl, rfl⟩⟩, ?_⟩ ?_
 ·rintro j u ⟨hj, hu⟩ _ a ha h0
  have hl := h.len hp hj
  have htg := h.tgt hp hj (a := a) (by omega)
  refine ⟨by omega, .inr ?_⟩
  rcases hu with ⟨rfl, rfl⟩ | rfl
  ·have e := (prod0_X h hp (a := a) (by omega)).trans (if_pos (by simpa using h0))
   rw [e]; omega
  ·have e := (prodj_X h hp hj (a := a) (by omega)).trans (if_pos (by simpa using h0))
   rw [e]; omega
 ·rintro j u ⟨hj, hu⟩ v hv
  rcases hu with ⟨rfl, rfl⟩ | rfl
  ·exact (prod0_A h hp).2 hv
  ·exact (prodj_A h hp hj).2 hv
end Go.Mw
/- Does a list of specifications contain one of which something holds? -/
namespace Go.Mw
set_option maxRecDepth 100000
theorem indexSp_ok (l : List Spc) (hl : l.length ≤ 1048576) (f : FuncId) (cs : List AV) (q : Spc → Bool) (hp : PureF G f) (ht : ∀ h, treeBL 0 h cs = cs) (hok : ∀ i < l.length, FnT G f (eSp l[i]! :: cs) (Bo (q l[i]!))) :
 ∃ v : Int, FnT G f_slices_IndexFuncZaiScai [.lst (l.map eSp), .fn f cs] (I v) ∧ decide (0 ≤ v) = l.any q := by
 suffices hh : FnP G f_slices_IndexFuncZaiScai [.lst (l.map eSp), .fn f cs] (fun rs h => ∃ v : Int, packV (treeBL 0 h rs) = I v ∧ decide (0 ≤ v) = l.any q ∧ rs.all AV.flats = true) by
  obtain ⟨F, n, rs, σ1, e1, e2, e3, e4, e5, e6, d, h3, h4, h5⟩ := hh
  exact ⟨d, ⟨F, n, rs, σ1, e1, e2, e3, e4, e5, e6, h3, h5⟩, h4⟩
 refine FnP.mk' g_slices_IndexFuncZaiScai rfl rfl ?_
 simp only [go_sem, ↓reduceIte, ↓gA, ↓gB, ↓gC, ↓gD, ↓cA, ↓cB, c_slices_IndexFuncZaiScai]
 refine wp_loopQ (fun (i : Nat) σ => i ≤ l.length ∧ (∀ j < i, q l[j]! = false) ∧ σ = ⟨aT .undef 19 [(0, .lst (l.map eSp)), (1, .fn f cs), (7, I l.length), (8, I i)], [], []⟩) (fun i => l.length - i) ?_ 0 ?_
 ·rintro i σ ⟨hi, hall, rfl⟩ N Q hQ hN
  by_cases hlt : i < l.length
  ·have hcall : ∀ {fr : Bool} {roots : List Nat} {b : Nat} {ss : List Nat} {σ : St} {k : AV → St → Prop}, callT G f (.agg [.lst (l[i]!.acts.map .str), .lst (l[i]!.S.map eSt)] :: cs) fr roots b ss σ k = k (Bo (q l[i]!)) σ := (hok i hlt).rule
   simp only [go_sem, ↓reduceIte, ↓gA, ↓gB, ↓gC, ↓gD, ↓cA, ↓cB, eSp, wrap_succ hlt (by omega), Int.ofNat_lt, hlt, hp, ht, hcall]
   refine ⟨fun h => ?_, fun h => hN (i + 1) _ (by omega) ⟨by omega, forall_lt_succ hall h, ?_⟩⟩
   ·subst hQ; simp only [go_sem, ↓reduceIte, ↓gA, ↓gB, ↓gC, ↓gD, ↓cA, ↓cB]
    refine ⟨i, rfl, ?_⟩
    rw [decide_eq_true (by omega)]
    exact (List.any_eq_true.2 ⟨_, getMem hlt, h⟩).symm
   ·simp only [go_sem, ↓reduceIte, ↓gA, ↓gB, ↓gC, ↓gD, ↓cA, ↓cB]
  ·have hil : i = l.length := by omega
   subst hil hQ
   simp only [go_sem, ↓reduceIte, ↓gA, ↓gB, ↓gC, ↓gD, ↓cA, ↓cB, Int.ofNat_lt, hlt]
   refine ⟨-1, rfl, ?_⟩
   rw [decide_eq_false (by omega)]
   refine (List.any_eq_false.2 fun x hx => ?_).symm
   obtain ⟨j, hj, e⟩ := getAt hx
   have := hall j hj
   rw [e] at this; rw [this]; simp
 ·exact ⟨by omega, by simp, by simp only [go_sem, ↓reduceIte, ↓gA, ↓gB, ↓gC, ↓gD, ↓cA, ↓cB]⟩
theorem containsSp_ok (l : List Spc) (hl : l.length ≤ 1048576) (f : FuncId) (cs : List AV) (q : Spc → Bool) (hp : PureF G f) (ht : ∀ h, treeBL 0 h cs = cs) (hok : ∀ i < l.length, FnT G f (eSp l[i]! :: cs) (Bo (q l[i]!))) :
 FnT G f_slices_ContainsFuncZaiScai [.lst (l.map eSp), .fn f cs] (Bo (l.any q)) := by
 obtain ⟨v, hv, he⟩ := indexSp_ok l hl f cs q hp ht hok
 have hcall : ∀ {fr : Bool} {roots : List Nat} {b : Nat} {ss : List Nat} {σ : St} {k : AV → St → Prop}, callT G f_slices_IndexFuncZaiScai [.lst (l.map eSp), .fn f cs] fr roots b ss σ k = k (I v) σ := hv.rule
 refine FnP.mk' g_slices_ContainsFuncZaiScai rfl rfl ?_
 simp only [go_sem, ↓reduceIte, ↓gA, ↓gB, ↓gC, ↓gD, ↓cA, ↓cB, c_slices_ContainsFuncZaiScai, hcall, ht]
 rw [he]
open Classical in
theorem of1_ok (s : Spc) (hz : SpSz s) (hI : SpI s) : FnT G f_family_Of_1 [eSp s] (Bo (!decide (SpcOk s))) := by
 refine FnP.mk' g_family_Of_1 rfl rfl ?_
 simp only [go_sem, ↓reduceIte, ↓gA, ↓gB, ↓gC, ↓gD, ↓cA, ↓cB, c_family_Of_1, eSp, spc_r hz hI]
theorem of2_ok (acts : List ByteArray) (ha : acts.length ≤ 1048576) (s : Spc) (hz : SpSz s) : FnT G f_family_Of_2 [eSp s, .pfro [.lst (acts.map .str)]] (Bo (!decide (s.acts = acts))) := by
 refine FnP.mk' g_family_Of_2 rfl rfl ?_
 simp only [go_sem, ↓reduceIte, ↓gA, ↓gB, ↓gC, ↓gD, ↓cA, ↓cB, c_family_Of_2, eSp, eqS_r hz.a ha]
end Go.Mw
/- What family.Of answers, plainly. -/
namespace Go.Mw
set_option maxRecDepth 100000
noncomputable def tOf (L : List Spc) : List Spc := L.map fun s => (trimA s).1
theorem tOf_len {L : List Spc} : (tOf L).length = L.length := by simp [tOf]
theorem tOf_get {L : List Spc} {p : Nat} (hp : p < L.length) : (tOf L)[p]! = (trimA L[p]!).1 := by
 unfold tOf
 rw [getElem!_pos _ p (by simpa using hp), List.getElem_map, getElem!_pos L p hp]
open Classical in
noncomputable def ofE (acts : List ByteArray) (L : List Spc) : Int :=
 if actsOk acts = true then (if 1 ≤ L.length ∧ L.length ≤ 32 then (if ∀ i < L.length, SpcOk L[i]! then (if ∀ i < L.length, L[i]!.acts = acts then 0 else 10) else 30) else 1) else 10
def noFam0 : Fam := ⟨[], 0, []⟩
open Classical in
noncomputable def ofA (acts : List ByteArray) (L : List Spc) : Fam × Int := if ofE acts L = 0 then (if offL (tOf L) L.length ≤ 500 then (ofFam acts (tOf L), 0) else (noFam0, 2)) else (noFam0, ofE acts L)
theorem ofE_zero {acts : List ByteArray} {L : List Spc} (h : ofE acts L = 0) : actsOk acts = true ∧ (1 ≤ L.length ∧ L.length ≤ 32) ∧ (∀ i < L.length, SpcOk L[i]!) ∧ ∀ i < L.length, L[i]!.acts = acts := by
 unfold ofE at h
 split at h
 ·rename_i h1
  split at h
  ·rename_i h2
   split at h
   ·rename_i h3
    split at h
    ·rename_i h4; exact ⟨h1, h2, h3, h4⟩
    ·omega
   ·omega
  ·omega
 ·omega
theorem tl_of {acts : List ByteArray} {L : List Spc} (h : ofE acts L = 0) (ho : offL (tOf L) L.length ≤ 500) : TL acts (tOf L) := by
 obtain ⟨h1, ⟨h2, h3⟩, h4, h5⟩ := ofE_zero h
 refine ⟨h1, by rw [tOf_len]; exact h2, by rw [tOf_len]; exact h3, fun p hp => ?_, by rw [tOf_len]; exact ho⟩
 rw [tOf_len] at hp
 rw [tOf_get hp]
 obtain ⟨g1, g2⟩ := trimA_ok (h4 p hp)
 exact ⟨g1, g2.trans (h5 p hp)⟩
theorem trimA_le {s : Spc} (h : SpcOk s) : (trimA s).1.S.length ≤ s.S.length := by
 unfold trimA
 split
 ·have := h.s1; simp [noSpc]; omega
 ·have := ord_len (h.b h.sz) h.s1; simpa [trimOf] using this
def sumS (L : List Spc) : Nat → Nat
 | 0 => 1
 | p + 1 => sumS L p + L[p]!.S.length
theorem off_le_sum {L : List Spc} (h : ∀ i < L.length, SpcOk L[i]!) : ∀ p, p ≤ L.length → offL (tOf L) p ≤ sumS L p := by
 intro p
 induction p with
 | zero => intro _; exact Nat.le_refl _
 | succ p ih =>
   intro hp
   have := ih (by omega)
   have h2 := trimA_le (h p (by omega))
   simp only [offL, sumS]
   rw [tOf_get (by omega)]; omega
theorem of_equal {acts : List ByteArray} {L : List Spc} (h : ofE acts L = 0) (ho : offL (tOf L) L.length ≤ 500) {p : Nat} (hp : p < L.length) : Ref (trimA (prodOf (ofFam acts (tOf L)) p)).1 L[p]! ∧ Ref (trimA L[p]!).1 (prodOf (ofFam acts (tOf L)) p) := by
 obtain ⟨h1, _, h4, h5⟩ := ofE_zero h
 have ht := tl_of h ho
 have hp' : p < (tOf L).length := by rw [tOf_len]; exact hp
 refine ⟨of_refines ht hp' (h4 p hp) (h5 p hp) (tOf_get hp), ?_⟩
 rw [← tOf_get hp]
 exact refines_of ht hp'
end Go.Mw
/- Small or not, for families of any size: a family that is small has small parts. -/
namespace Go.Mw
set_option maxRecDepth 100000
structure PBig (p : Plan) : Prop where
 a : p.A.length ≤ 140737488355328
 x : p.X.length ≤ 140737488355328
 y : ∀ i < p.X.length, p.X[i]!.length ≤ 140737488355328
structure FBig (f : Fam) : Prop where
 a : f.acts.length ≤ 140737488355328
 s : f.S.length ≤ 140737488355328
 p : ∀ i < f.S.length, PBig f.S[i]!
theorem FnP.flatB {f : FuncId} {xs : List AV} {P : Prop} (h : FnP G f xs fun rs h => ∃ v, packV (treeBL 0 h rs) = Bo v ∧ (v = true → P) ∧ rs.all AV.flats = true) : ∃ v, FnT G f xs (Bo v) ∧ (v = true → P) := by
 obtain ⟨F, n, rs, σ1, hf, h1, h2, h3, h4, hr, v, hR, hP, hfl⟩ := h
 exact ⟨v, ⟨F, n, rs, σ1, hf, h1, h2, h3, h4, hr, hR, hfl⟩, hP⟩
theorem bo_exB {b : Bool} {P : Prop} : (∃ v, AV.bool b = Bo v ∧ (v = true → P)) = (b = true → P) := by
 apply propext; constructor
 ·rintro ⟨v, hv, h⟩; cases hv; exact h
 ·intro h; exact ⟨b, rfl, h⟩
def Counted (f : Fam) (i : Nat) (c : Int) : Prop := (f.acts.length : Int) ≤ c ∧ (f.S.length : Int) ≤ c ∧ ∀ j < i, (f.S[j]!.A.length : Int) ≤ c ∧ (f.S[j]!.X.length : Int) ≤ c ∧ ∀ m < f.S[j]!.X.length, (f.S[j]!.X[m]!.length : Int) ≤ c
theorem Counted.mono {f : Fam} {i : Nat} {c d : Int} (h : Counted f i c) (hd : c ≤ d) : Counted f i d :=
 ⟨by have := h.1; omega, by have := h.2.1; omega, fun j hj => ⟨by have := (h.2.2 j hj).1; omega, by have := (h.2.2 j hj).2.1; omega, fun m hm => by have := (h.2.2 j hj).2.2 m hm; omega⟩⟩
theorem Counted.sz {f : Fam} {c : Int} (h : Counted f f.S.length c) (hc : c ≤ 1000) : FSz f :=
 ⟨by have := h.1; omega, by have := h.2.1; omega, fun j hj => ⟨by have := (h.2.2 j hj).1; omega, by have := (h.2.2 j hj).2.1; omega, fun m hm => by have := (h.2.2 j hj).2.2 m hm; omega⟩⟩
end Go.Mw
/- Small or not: specifications of any size. -/
namespace Go.Mw
set_option maxRecDepth 100000
structure SpBig (s : Spc) : Prop where
 fa : s.acts.length ≤ 140737488355328
 fs : s.S.length ≤ 140737488355328
 fx : ∀ i < s.S.length, s.S[i]!.A.length ≤ 140737488355328 ∧ s.S[i]!.X.length ≤ 140737488355328
 fi : SpI s
def CountP (s : Spc) (i : Nat) (c : Int) : Prop := (s.acts.length : Int) ≤ c ∧ (s.S.length : Int) ≤ c ∧ ∀ j < i, (s.S[j]!.A.length : Int) ≤ c ∧ (s.S[j]!.X.length : Int) ≤ c
theorem few3_big (s : Spc) (hs : SpBig s) (K : Int) (h0 : 0 ≤ K) (hK : K ≤ 1000000) : ∃ v, FnT G f_r03_Few [eSp s, I K] (Bo v) ∧ (v = true → SpSz s) := by
 refine FnP.flatB (FnP.mk' g_r03_Few rfl rfl ?_)
 have ha := hs.fa
 have hS := hs.fs
 have w0 : IntKind.i64.wrap ((s.acts.length : Int) + s.S.length) = (s.acts.length : Int) + s.S.length := by rw [wrapI] <;> omega
 simp only [go_sem, ↓reduceIte, ↓gA, ↓gB, ↓gC, ↓gD, ↓cA, ↓cB, c_r03_Few, eSp, w0]
 refine wp_loopQ (fun (i : Nat) σ => i ≤ s.S.length ∧ ∃ c : Int, 0 ≤ c ∧ c ≤ 562949953421312 ∧ (c ≤ K → CountP s i c) ∧ σ = ⟨aT .undef 46 [(1, I K), (2, .ptr 0 1 [] 0 0 0), (5, I c), (6, I i)], [⟨1, 0, .own 2 [.agg [.lst (s.acts.map .str), .lst (s.S.map eSt)]]⟩], []⟩) (fun i => s.S.length - i) ?_ 0 ?_
 ·rintro i σ ⟨hi, c, hc0, hc1, hc2, rfl⟩ N Q hQ hN
  by_cases hlt : i < s.S.length
  ·obtain ⟨hl1, hl2⟩ := hs.fx i hlt
   simp only [go_sem, ↓reduceIte, ↓gA, ↓gB, ↓gC, ↓gD, ↓cA, ↓cB, eSt, Int.ofNat_lt, hlt]
   by_cases hc : c ≤ K
   ·have w1 : IntKind.i64.wrap ((s.S[i]!.A.length : Int) + (s.S[i]!.X.length : Int)) = (s.S[i]!.A.length : Int) + (s.S[i]!.X.length : Int) := by rw [wrapI] <;> omega
    have w2 : IntKind.i64.wrap (c + ((s.S[i]!.A.length : Int) + (s.S[i]!.X.length : Int))) = c + ((s.S[i]!.A.length : Int) + (s.S[i]!.X.length : Int)) := by rw [wrapI] <;> omega
    have w3 : IntKind.i64.wrap ((i : Int) + 1) = ((i + 1 : Nat) : Int) := by rw [wrapI] <;> omega
    simp only [go_sem, ↓reduceIte, ↓gA, ↓gB, ↓gC, ↓gD, ↓cA, ↓cB, hc, w1, w2, w3]
    refine hN (i + 1) _ (by omega) ⟨by omega, c + ((s.S[i]!.A.length : Int) + s.S[i]!.X.length), by omega, by omega, fun h => ?_, ?_⟩
    ·obtain ⟨g1, g2, g3⟩ := hc2 hc
     exact ⟨by omega, by omega, forall_lt_succ (fun j hj => by have := g3 j hj; omega) (by omega)⟩
    ·simp only [go_sem, ↓reduceIte, ↓gA, ↓gB, ↓gC, ↓gD, ↓cA, ↓cB]
   ·simp only [go_sem, ↓reduceIte, ↓gA, ↓gB, ↓gC, ↓gD, ↓cA, ↓cB, hc]
    subst hQ
    simp only [go_sem, ↓reduceIte, ↓gA, ↓gB, ↓gC, ↓gD, ↓cA, ↓cB, bo_exB, hc]
  ·subst hQ
   have hil : i = s.S.length := by omega
   subst hil
   simp only [go_sem, ↓reduceIte, ↓gA, ↓gB, ↓gC, ↓gD, ↓cA, ↓cB, Int.ofNat_lt, hlt, bo_exB, decide_eq_true_eq]
   intro h
   obtain ⟨g1, g2, g3⟩ := hc2 h
   exact ⟨by omega, by omega, fun j hj => by have := g3 j hj; omega⟩
 ·refine ⟨by omega, s.acts.length + s.S.length, by omega, by omega, fun _ => ⟨by omega, by omega, fun j hj => absurd hj (by omega)⟩, ?_⟩
  simp only [go_sem, ↓reduceIte, ↓gA, ↓gB, ↓gC, ↓gD, ↓cA, ↓cB]
end Go.Mw
/- Short or not: lists of specifications of any size. -/
namespace Go.Mw
set_option maxRecDepth 100000
structure LBig (L : List Spc) : Prop where
 fl : L.length ≤ 140737488355328
 fs : ∀ i < L.length, SpBig L[i]!
theorem short_big (L : List Spc) (h : LBig L) : ∃ v, FnT G f_w16_short [.lst (L.map eSp)] (Bo v) ∧ (v = true → L.length ≤ 40 ∧ ∀ i < L.length, SpSz L[i]!) := by
 refine FnP.flatB (FnP.mk' g_w16_short rfl rfl ?_)
 have hL := h.fl
 simp only [go_sem, ↓reduceIte, ↓gA, ↓gB, ↓gC, ↓gD, ↓cA, ↓cB, c_w16_short]
 refine wp_loopQ (fun (i : Nat) σ => i ≤ L.length ∧ i ≤ 40 ∧ (∀ j < i, SpSz L[j]!) ∧ σ = ⟨aT .undef 32 [(0, .lst (L.map eSp)), (3, I i)], [], []⟩) (fun i => L.length - i) ?_ 0 ?_
 ·rintro i σ ⟨hi, hi4, hall, rfl⟩ N Q hQ hN
  have hexit : ∀ b : Bool, (b = true → L.length ≤ 40) → (i = L.length ∨ i = 40) → (b = true → L.length ≤ 40 ∧ ∀ i < L.length, SpSz L[i]!) := fun b hb hc hbt => ⟨hb hbt, fun j hj => hall j (by have := hb hbt; omega)⟩
  by_cases hlt : i < L.length
  ·by_cases h40 : i < 40
   ·have hs := h.fs i hlt
    have hSl := hs.fs
    obtain ⟨v, hv, hP⟩ := few3_big L[i]! hs 800 (by omega) (by omega)
    have hcall : ∀ {fr : Bool} {roots : List Nat} {b : Nat} {ss : List Nat} {σ : St} {k : AV → St → Prop}, callT G f_r03_Few [.agg [.lst (L[i]!.acts.map .str), .lst (L[i]!.S.map eSt)], .int .i64 800] fr roots b ss σ k = k (Bo v) σ := hv.rule
    have h40' : (i : Int) < 40 := by omega
    have w2 : IntKind.i64.wrap ((i : Int) + 1) = ((i + 1 : Nat) : Int) := by rw [wrapI] <;> omega
    simp only [go_sem, ↓reduceIte, ↓gA, ↓gB, ↓gC, ↓gD, ↓cA, ↓cB, Int.ofNat_lt, hlt, h40', eSp, hcall, w2]
    by_cases h60 : (60 : Int) < L[i]!.S.length
    ·simp only [go_sem, ↓reduceIte, ↓gA, ↓gB, ↓gC, ↓gD, ↓cA, ↓cB, h60]
     subst hQ
     simp only [go_sem, ↓reduceIte, ↓gA, ↓gB, ↓gC, ↓gD, ↓cA, ↓cB, bo_exB]
    ·simp only [go_sem, ↓reduceIte, ↓gA, ↓gB, ↓gC, ↓gD, ↓cA, ↓cB, h60]
     cases v with
     | false => simp only [go_sem, ↓reduceIte, ↓gA, ↓gB, ↓gC, ↓gD, ↓cA, ↓cB]; subst hQ; simp only [go_sem, ↓reduceIte, ↓gA, ↓gB, ↓gC, ↓gD, ↓cA, ↓cB, bo_exB]
     | true =>
       simp only [go_sem, ↓reduceIte, ↓gA, ↓gB, ↓gC, ↓gD, ↓cA, ↓cB]
       refine hN (i + 1) _ (by omega) ⟨by omega, by omega, forall_lt_succ hall (hP rfl), ?_⟩
       simp only [go_sem, ↓reduceIte, ↓gA, ↓gB, ↓gC, ↓gD, ↓cA, ↓cB, eSp]
   ·have h40' : ¬ (i : Int) < 40 := by omega
    simp only [go_sem, ↓reduceIte, ↓gA, ↓gB, ↓gC, ↓gD, ↓cA, ↓cB, Int.ofNat_lt, hlt, h40']
    subst hQ
    simp only [go_sem, ↓reduceIte, ↓gA, ↓gB, ↓gC, ↓gD, ↓cA, ↓cB, bo_exB, decide_eq_true_eq]
    intro hb
    omega
  ·simp only [go_sem, ↓reduceIte, ↓gA, ↓gB, ↓gC, ↓gD, ↓cA, ↓cB, Int.ofNat_lt, hlt]
   subst hQ
   simp only [go_sem, ↓reduceIte, ↓gA, ↓gB, ↓gC, ↓gD, ↓cA, ↓cB, bo_exB, decide_eq_true_eq]
   intro hb
   exact ⟨by omega, fun j hj => hall j (by omega)⟩
 ·exact ⟨by omega, by omega, by simp, by simp only [go_sem, ↓reduceIte, ↓gA, ↓gB, ↓gC, ↓gD, ↓cA, ↓cB]⟩
end Go.Mw
/- The law of families of specifications, given what family.Of answers. -/
namespace Go.Mw
set_option maxRecDepth 100000
open Classical in
noncomputable def e1 (acts : List ByteArray) (L : List Spc) (i : Nat) : Int :=
 if actsOk acts = true then (if 1 ≤ L.length ∧ L.length ≤ 32 then (if ∀ j < i, SpcOk L[j]! then 0 else 30) else 1) else 10
open Classical in
noncomputable def e2 (acts : List ByteArray) (L : List Spc) (i : Nat) : Int :=
 if e1 acts L L.length = 0 then (if ∀ j < i, L[j]!.acts = acts then 0 else 10) else e1 acts L L.length
theorem wpDr_on {d : Option Nat} {i : Ins} {t : Nat} {want : Bool} {os : List Rop} {b : Nat} {σ : St} {K : St → List (Option (List Nat)) → Prop} (hv : σ.t[t]? = some (.bool want)) :
 WpDr G (⟨d, i, some (t, want)⟩ :: os) b σ K = WpDr G (⟨d, i, none⟩ :: os) b σ K := by
 have hw : wantedO (some (t, want)) σ = some true := by simp [wantedO, hv]
 have h0 : wantedO none σ = some true := (rfl)
 unfold WpDr WpD
 simp only [drwE, hw, h0]
theorem none0_ok : FnT G f_r16_None [eF noFam0] (Bo true) := by
 refine FnP.mk' g_r16_None rfl rfl ?_
 simp only [go_sem, ↓reduceIte, ↓gA, ↓gB, ↓gC, ↓gD, ↓cA, ↓cB, c_r16_None, eF, noFam0, List.map_nil]
theorem none0_r {fr : Bool} {roots : List Nat} {b : Nat} {ss : List Nat} {σ : St} {k : AV → St → Prop} : callT G f_r16_None [.agg [.lst [], I 0, .lst []]] fr roots b ss σ k = k (Bo true) σ := none0_ok.rule
theorem cho_len {l : List Ch} {most n : Nat} (h : choOk l (most : Int) (fun x => decide (0 ≤ x ∧ x < (n : Int))) = true) : l.length ≤ n := by
 obtain ⟨h1, h2⟩ := choOk_iff.1 h
 have := @rising_len n (l.map (·.N)) (fun i hi => ?_) (fun i hi h0 => ?_)
 ·simpa using this
 ·obtain ⟨c, hc, e⟩ := List.mem_map.1 (getMem hi)
  have := (h1 c hc).1
  rw [decide_eq_true_eq] at this
  rw [← e]; exact this
 ·exact pw_last (by rw [List.pairwise_map]; exact h2) hi h0
theorem FamOk.sz {f : Fam} (h : FamOk f) : FSz f := by
 have h8 := actsOk_len h.acts
 have h28 := pow_le8 h8
 have h2 := h.s2
 refine ⟨by omega, by omega, fun i hi => ?_⟩
 have hp := h.plan i hi
 refine ⟨?_, by rw [hp.len]; omega, fun a ha => ?_⟩
 ·have := @cho_len _ _ (2 ^ f.acts.length) hp.acc
  omega
 ·have := @cho_len _ _ f.S.length (hp.nxt a ha).1
  omega
theorem drop8 {o0 o1 o2 o3 o4 o5 o6 o7 : Ob} {xs : List AV} {h' : List Ob} (h : h' = [o0, o1, o2, o3, o4, o5, o6, o7] ∨ h' = dropRoots [o0, o1, o2, o3, o4, o5, o6, o7] (may xs 5)) : ∃ o, h' = [o0, o1, o2, o3, o4, o, o6, o7] := by
 rcases h with rfl | rfl
 ·exact ⟨_, rfl⟩
 ·unfold may; split <;> exact ⟨_, rfl⟩
theorem br4 {c : C} {Q : Ex → St → Prop} {X : St → Prop} {σ1 σ2 σ3 σ4 : St} {A1 A2 B1 B2 C1 C2 : Prop} (h : (A2 → X σ4) ∧ (A1 → (B1 → (C1 → X σ1) ∧ (C2 → X σ2)) ∧ (B2 → X σ3))) (main : ∀ σ, X σ → Wp G c 0 σ Q) :
 (A2 → Wp G c 0 σ4 Q) ∧ (A1 → (B1 → (C1 → Wp G c 0 σ1 Q) ∧ (C2 → Wp G c 0 σ2 Q)) ∧ (B2 → Wp G c 0 σ3 Q)) :=
 ⟨fun a => main _ (h.1 a), fun a => ⟨fun b => ⟨fun x => main _ (((h.2 a).1 b).1 x), fun x => main _ (((h.2 a).1 b).2 x)⟩, fun b => main _ ((h.2 a).2 b)⟩⟩
theorem e1_yes {acts : List ByteArray} {L : List Spc} {i : Nat} (h : SpcOk L[i]!) : e1 acts L (i + 1) = e1 acts L i := by
 unfold e1
 by_cases hall : ∀ j < i, SpcOk L[j]!
 ·rw [if_pos (show ∀ j < i + 1, SpcOk L[j]! from forall_lt_succ hall h), if_pos hall]
 ·rw [if_neg (show ¬ ∀ j < i + 1, SpcOk L[j]! from fun g => hall fun j hj => g j (by omega)), if_neg hall]
theorem e1_no {acts : List ByteArray} {L : List Spc} {i : Nat} (h : ¬ SpcOk L[i]!) : e1 acts L (i + 1) = if e1 acts L i = 0 then 30 else e1 acts L i := by
 have h1 : ¬ ∀ j < i + 1, SpcOk L[j]! := fun g => h (g i (by omega))
 unfold e1
 split <;> (try split) <;> (try split) <;> simp_all
theorem e2_yes {acts : List ByteArray} {L : List Spc} {i : Nat} (h : L[i]!.acts = acts) : e2 acts L (i + 1) = e2 acts L i := by
 unfold e2
 by_cases hall : ∀ j < i, L[j]!.acts = acts
 ·rw [if_pos (show ∀ j < i + 1, L[j]!.acts = acts from forall_lt_succ hall h), if_pos hall]
 ·rw [if_neg (show ¬ ∀ j < i + 1, L[j]!.acts = acts from fun g => hall fun j hj => g j (by omega)), if_neg hall]
theorem e2_no {acts : List ByteArray} {L : List Spc} {i : Nat} (h : ¬ L[i]!.acts = acts) : e2 acts L (i + 1) = if e2 acts L i = 0 then 10 else e2 acts L i := by
 have h1 : ¬ ∀ j < i + 1, L[j]!.acts = acts := fun g => h (g i (by omega))
 unfold e2
 split <;> (try split) <;> simp_all
theorem e2_zero {acts : List ByteArray} {L : List Spc} : e2 acts L 0 = e1 acts L L.length := by
 unfold e2; split
 ·rename_i h; rw [if_pos (by simp), h]
 ·rfl
theorem e2_end {acts : List ByteArray} {L : List Spc} : e2 acts L L.length = ofE acts L := by
 unfold e2 e1 ofE
 split <;> (try split) <;> (try split) <;> (try split) <;> simp_all
theorem sumS_le {L : List Spc} (h : ∀ i < L.length, SpSz L[i]!) : ∀ p, p ≤ L.length → sumS L p ≤ 1 + p * 1048576 := by
 intro p
 induction p with
 | zero => intro _; simp [sumS]
 | succ p ih => intro hp; have := ih (by omega); have := (h p (by omega)).s; simp only [sumS]; omega
theorem familyOf_of (acts : List ByteArray) (L : List Spc) (ha : acts.length ≤ 140737488355328) (hL : LBig L)
 (hof : acts.length ≤ 100 → L.length ≤ 40 → (∀ i < L.length, SpSz L[i]! ∧ SpI L[i]!) → Fn G f_family_Of [.lst (acts.map .str), .lst (L.map eSp)] (.tup [eF (ofA acts L).1, I (ofA acts L).2])) :
 FnT G f_w16_FamilyOf [.lst (acts.map .str), .lst (L.map eSp)] (Bo true) := by
 obtain ⟨v, hv, hP⟩ := short_big L hL
 have hcall : ∀ {fr : Bool} {roots : List Nat} {b : Nat} {ss : List Nat} {σ : St} {k : AV → St → Prop}, callT G f_w16_short [.lst (L.map eSp)] fr roots b ss σ k = k (Bo v) σ := hv.rule
 refine FnP.mk' g_w16_FamilyOf rfl rfl ?_
 by_cases h100 : (100 : Int) < acts.length
 ·simp only [go_sem, ↓reduceIte, ↓gA, ↓gB, ↓gC, ↓gD, ↓cA, ↓cB, c_w16_FamilyOf, h100, awake_r]
 have ha1 : acts.length ≤ 1048576 := by omega
 cases v with
 | false => simp only [go_sem, ↓reduceIte, ↓gA, ↓gB, ↓gC, ↓gD, ↓cA, ↓cB, c_w16_FamilyOf, h100, hcall, awake_r]
 | true =>
   obtain ⟨h40, hsz⟩ := hP rfl
   have hsum := sumS_le hsz
   have hofr := hof (by omega) h40 (fun i hi => ⟨hsz i hi, (hL.fs i hi).fi⟩)
   have e1z : e1 acts L 0 = if actsOk acts = true then (if 1 ≤ L.length ∧ L.length ≤ 32 then 0 else 1) else 10 := by unfold e1; simp
   simp only [go_sem, ↓reduceIte, ↓gA, ↓gB, ↓gC, ↓gD, ↓cA, ↓cB, c_w16_FamilyOf, h100, hcall, actsR_r ha1]
   refine br4 (X := fun σ => headS (rest 163 [0, 1, 5, 6, 40, 41, 42]) [0] 0 σ = ⟨aT .undef 163 [(0, .lst (acts.map .str)), (1, .lst (L.map eSp)), (5, I (e1 acts L 0)), (6, I 1), (40, .lst (L.map eSp)), (41, I L.length), (42, I 0)],
    [⟨0, 0, .gone⟩, ⟨0, 0, .gone⟩, ⟨0, 0, .gone⟩, ⟨0, 0, .gone⟩, ⟨0, 0, .gone⟩, ⟨0, 0, .gone⟩, ⟨0, 0, .gone⟩, ⟨0, 0, .gone⟩], []⟩) ?_ ?_
   ·rw [e1z]
    refine ⟨fun hA => ?_, fun hA => ⟨fun h1 => ⟨fun h2 => ?_, fun h2 => ?_⟩, fun h1 => ?_⟩⟩
    ·rw [if_neg (by rw [hA]; simp)]; simp only [go_sem, ↓reduceIte, ↓gA, ↓gB, ↓gC, ↓gD, ↓cA, ↓cB]
    ·rw [if_pos hA, if_neg (by omega)]; simp only [go_sem, ↓reduceIte, ↓gA, ↓gB, ↓gC, ↓gD, ↓cA, ↓cB]
    ·rw [if_pos hA, if_pos (by omega)]; simp only [go_sem, ↓reduceIte, ↓gA, ↓gB, ↓gC, ↓gD, ↓cA, ↓cB]
    ·rw [if_pos hA, if_neg (by omega)]; simp only [go_sem, ↓reduceIte, ↓gA, ↓gB, ↓gC, ↓gD, ↓cA, ↓cB]
   ·intro σ hσ
    refine wp_loopQ (fun (i : Nat) σ => i ≤ L.length ∧ ∃ a0 c0, σ = ⟨aT .undef 163 [(0, .lst (acts.map .str)), (1, .lst (L.map eSp)), (5, I (e1 acts L i)), (6, I (sumS L i : Nat)), (40, .lst (L.map eSp)), (41, I L.length), (42, I i)],
     [⟨a0, c0, .gone⟩, ⟨0, 0, .gone⟩, ⟨0, 0, .gone⟩, ⟨0, 0, .gone⟩, ⟨0, 0, .gone⟩, ⟨0, 0, .gone⟩, ⟨0, 0, .gone⟩, ⟨0, 0, .gone⟩], []⟩) (fun i => L.length - i) ?_ 0 ⟨by omega, 0, 0, hσ⟩
    rintro i σ ⟨hi, a0, c0, rfl⟩ N Q hQ hN
    by_cases hlt : i < L.length
    ·have hs := hsz i hlt
     have hS := hs.s
     have hsi := hsum i hi
     have w1 : IntKind.i64.wrap ((sumS L i : Int) + (L[i]!.S.length : Int)) = (sumS L (i + 1) : Nat) := by
      simp only [sumS]; rw [wrapI] <;> omega
     simp only [go_sem, ↓reduceIte, ↓gA, ↓gB, ↓gC, ↓gD, ↓cA, ↓cB, eSp, wrap_succ hlt (by omega), Int.ofNat_lt, hlt, spcR_r hs, w1]
     refine ⟨fun h0 => ⟨fun hs => ?_, fun hs => ?_⟩, fun h0 => ?_⟩
     ·have h0' : e1 acts L i = 0 := by simpa using h0
      have := @e1_no acts L i hs
      rw [if_pos h0'] at this
      refine hN (i + 1) _ (by omega) ⟨by omega, ?_⟩
      simp only [go_sem, ↓reduceIte, ↓gA, ↓gB, ↓gC, ↓gD, ↓cA, ↓cB, this, eSp]
      repeat apply Exists.intro
      rfl
     ·refine hN (i + 1) _ (by omega) ⟨by omega, ?_⟩
      simp only [go_sem, ↓reduceIte, ↓gA, ↓gB, ↓gC, ↓gD, ↓cA, ↓cB, e1_yes hs, eSp]
      repeat apply Exists.intro
      rfl
     ·have h0' : ¬ e1 acts L i = 0 := by simpa using h0
      have hee : e1 acts L (i + 1) = e1 acts L i := by
       by_cases hs : SpcOk L[i]!
       ·exact e1_yes hs
       ·rw [e1_no hs, if_neg h0']
      refine hN (i + 1) _ (by omega) ⟨by omega, ?_⟩
      simp only [go_sem, ↓reduceIte, ↓gA, ↓gB, ↓gC, ↓gD, ↓cA, ↓cB, hee, eSp]
      repeat apply Exists.intro
      rfl
    ·have hil : i = L.length := by omega
     subst hil hQ
     simp only [go_sem, ↓reduceIte, ↓gA, ↓gB, ↓gC, ↓gD, ↓cA, ↓cB, Int.ofNat_lt, hlt]
     rw [← e2_zero]
     refine wp_loopQ (fun (i : Nat) σ => i ≤ L.length ∧ ∃ a1 c1, σ = ⟨aT .undef 163 [(0, .lst (acts.map .str)), (1, .lst (L.map eSp)), (5, I (e2 acts L i)), (6, I (sumS L L.length : Nat)), (59, .lst (L.map eSp)), (60, I L.length), (61, I i)],
      [⟨a0, c0, .gone⟩, ⟨a1, c1, .gone⟩, ⟨0, 0, .gone⟩, ⟨0, 0, .gone⟩, ⟨0, 0, .gone⟩, ⟨0, 0, .gone⟩, ⟨0, 0, .gone⟩, ⟨0, 0, .gone⟩], []⟩) (fun i => L.length - i) ?_ 0 ?_
     ·rintro i σ ⟨hi, a1, c1, rfl⟩ N Q hQ hN
      by_cases hlt : i < L.length
      ·have hs := hsz i hlt
       simp only [go_sem, ↓reduceIte, ↓gA, ↓gB, ↓gC, ↓gD, ↓cA, ↓cB, eSp, wrap_succ hlt (by omega), Int.ofNat_lt, hlt, sameSR_r hs.a ha1]
       refine ⟨fun h0 => ⟨fun hs => ?_, fun hs => ?_⟩, fun h0 => ?_⟩
       ·have h0' : e2 acts L i = 0 := by simpa using h0
        have := @e2_no acts L i hs
        rw [if_pos h0'] at this
        refine hN (i + 1) _ (by omega) ⟨by omega, ?_⟩
        simp only [go_sem, ↓reduceIte, ↓gA, ↓gB, ↓gC, ↓gD, ↓cA, ↓cB, this, eSp]
        repeat apply Exists.intro
        rfl
       ·refine hN (i + 1) _ (by omega) ⟨by omega, ?_⟩
        simp only [go_sem, ↓reduceIte, ↓gA, ↓gB, ↓gC, ↓gD, ↓cA, ↓cB, e2_yes hs, eSp]
        repeat apply Exists.intro
        rfl
       ·have h0' : ¬ e2 acts L i = 0 := by simpa using h0
        have hee : e2 acts L (i + 1) = e2 acts L i := by
         by_cases hs : L[i]!.acts = acts
         ·exact e2_yes hs
         ·rw [e2_no hs, if_neg h0']
        refine hN (i + 1) _ (by omega) ⟨by omega, ?_⟩
        simp only [go_sem, ↓reduceIte, ↓gA, ↓gB, ↓gC, ↓gD, ↓cA, ↓cB, hee, eSp]
        repeat apply Exists.intro
        rfl
      ·have hil : i = L.length := by omega
       subst hQ
       simp only [go_sem, ↓reduceIte, ↓gA, ↓gB, ↓gC, ↓gD, ↓cA, ↓cB, Int.ofNat_lt, hlt]
       rw [hil, e2_end]
       refine wp_loopQ (fun (i : Nat) σ => i ≤ L.length ∧ ∃ a2 c2 a3 c3 a4 c4, σ = ⟨aT .undef 163 [(0, .lst (acts.map .str)), (1, .lst (L.map eSp)), (5, I (ofE acts L)), (6, I (sumS L L.length : Nat)), (11, rowv .nils 2 4 a4 ((L.take i).map eSp)), (75, .lst (L.map eSp)), (76, I L.length), (77, I i)],
        [⟨a0, c0, .gone⟩, ⟨a1, c1, .gone⟩, ⟨a2, c2, .gone⟩, ⟨a3, c3, .gone⟩, ⟨a4, c4, rowo 2 ((L.take i).map eSp)⟩, ⟨0, 0, .gone⟩, ⟨0, 0, .gone⟩, ⟨0, 0, .gone⟩], []⟩) (fun i => L.length - i) ?_ 0 ?_
       ·rintro i σ ⟨hi, a2, c2, a3, c3, a4, c4, rfl⟩ N Q hQ hN
        by_cases hlt : i < L.length
        ·have hs := hsz i hlt
         simp only [go_sem, ↓reduceIte, ↓gA, ↓gB, ↓gC, ↓gD, ↓cA, ↓cB, eSp, wrap_succ hlt (by omega), Int.ofNat_lt, hlt, spcCopy_r hs]
         refine ⟨by rw [List.length_take]; omega, hN (i + 1) _ (by omega) ⟨by omega, ?_⟩⟩
         simp only [go_sem, ↓reduceIte, ↓gA, ↓gB, ↓gC, ↓gD, ↓cA, ↓cB, take_succ_map _ hlt, eSp]
         repeat apply Exists.intro
         rfl
        ·have hil : i = L.length := by omega
         subst hQ
         simp only [go_sem, ↓reduceIte, ↓gA, ↓gB, ↓gC, ↓gD, ↓cA, ↓cB, Int.ofNat_lt, hlt]
         rw [hil, List.take_length]
         have hfz : (L.map eSp).map frz = L.map eSp := by rw [List.map_map]; rfl
         rw [hfz]
         refine ⟨by omega, Fn.ruleM hofr (fun h' hh => ?_)⟩
         obtain ⟨o5, rfl⟩ := drop8 hh
         by_cases hE : ofE acts L = 0
         ·by_cases ho : offL (tOf L) L.length ≤ 500
          ·have hA : ofA acts L = (ofFam acts (tOf L), 0) := by unfold ofA; rw [if_pos hE, if_pos ho]
           have htl := tl_of hE ho
           have hfo := ofFam_ok htl
           have hfz := hfo.sz
           have hPl : (ofFam acts (tOf L)).P = (L.length : Int) := by simp only [ofFam, tOf_len]
           have hac : (ofFam acts (tOf L)).acts = acts := rfl
           have heq := fun p hp => @of_equal acts L hE ho p hp
           obtain ⟨_, _, hok, hacts⟩ := ofE_zero hE
           simp only [hA, hE]
           generalize ofFam acts (tOf L) = F at *
           subst hac
           have hbne : ((L.length : Int) != (L.length : Int)) = false := by simp
           have hfam : ∀ {fr : Bool} {roots : List Nat} {b : Nat} {ss : List Nat} {σ : St} {k : AV → St → Prop}, callT G f_r16_Is [.agg [.lst (F.acts.map .str), I (L.length : Nat), .lst (F.S.map eP)]] fr roots b ss σ k = k (Bo true) σ := by
            intro fr roots b ss σ k
            rw [← hPl, famR_r hfz]; simp only [hfo, decide_true]
           simp only [go_sem, ↓reduceIte, ↓gA, ↓gB, ↓gC, ↓gD, ↓cA, ↓cB, eF, hPl, hfam, hbne, sameS_r ha1, List.length_map]
           refine wp_loopQ (fun (i : Nat) σ => i ≤ L.length ∧ ∃ o0 o1 o2 o3 o4 o5 a7 c7, σ = ⟨aT .undef 163 [(11, .lst (L.map eSp)), (14, .ptr 6 1 [] 0 0 0), (139, .lst (L.map eSp)), (140, I L.length), (141, I i)],
            [o0, o1, o2, o3, o4, o5, ⟨1, 0, .own 3 [.agg [.lst (F.acts.map .str), I (L.length : Nat), .lst (F.S.map eP)]]⟩, ⟨a7, c7, .gone⟩], []⟩) (fun i => L.length - i) ?_ 0 ?_
           ·rintro i σ ⟨hi, o0, o1, o2, o3, o4, o5, a7, c7, rfl⟩ N Q hQ hN
            by_cases hlt : i < L.length
            ·have hs := hsz i hlt
             have hpo := prod_ok hfo i
             have hprod : ∀ {roots : List Nat} {b : Nat} {ss : List Nat} {σ : St} {k : AV → St → Prop}, callT G f_r16_Product [.agg [.lst (F.acts.map .str), I (L.length : Nat), .lst (F.S.map eP)], I i] true roots b ss σ k = k (eSp (prodOf F i)) σ := by
              intro roots b ss σ k
              rw [← hPl, prodR_r hfz hfo.w]
             have hle : (prodOf F i).acts.length = L[i]!.acts.length := by rw [hacts i hlt]; rfl
             simp only [go_sem, ↓reduceIte, ↓gA, ↓gB, ↓gC, ↓gD, ↓cA, ↓cB, eSp, wrap_succ hlt (by omega), Int.ofNat_lt, hlt, hprod, equalR_r hpo (hok i hlt) hle, heq i hlt, same_r hs]
             repeat (rw [wpDr_on (by simp only [go_sem, ↓reduceIte, ↓gA, ↓gB, ↓gC, ↓gD, ↓cA, ↓cB])]; simp only [go_sem, ↓reduceIte, ↓gA, ↓gB, ↓gC, ↓gD, ↓cA, ↓cB, eSp, Int.ofNat_lt, hlt, same_r hs])
             rw [wrap_succ hlt (by omega)]
             refine hN (i + 1) _ (by omega) ⟨by omega, ?_⟩
             simp only [go_sem, ↓reduceIte, ↓gA, ↓gB, ↓gC, ↓gD, ↓cA, ↓cB, eSp]
             repeat apply Exists.intro
             rfl
            ·have hil : i = L.length := by omega
             subst hQ
             simp only [go_sem, ↓reduceIte, ↓gA, ↓gB, ↓gC, ↓gD, ↓cA, ↓cB, Int.ofNat_lt, hlt, awake_r]
           ·refine ⟨by omega, ?_⟩
            simp only [go_sem, ↓reduceIte, ↓gA, ↓gB, ↓gC, ↓gD, ↓cA, ↓cB]
            repeat apply Exists.intro
            rfl
          ·have hA : ofA acts L = (noFam0, 2) := by unfold ofA; rw [if_pos hE, if_neg ho]
           have hbig : (500 : Int) < (sumS L L.length : Nat) := by
            have := off_le_sum (ofE_zero hE).2.2.1 L.length (Nat.le_refl _)
            omega
           simp only [hA, hE]
           simp only [go_sem, ↓reduceIte, ↓gA, ↓gB, ↓gC, ↓gD, ↓cA, ↓cB, eF, noFam0, hbig, none0_r, awake_r]
         ·have hA : ofA acts L = (noFam0, ofE acts L) := by unfold ofA; rw [if_neg hE]
          have hE2 : (ofE acts L != 0) = true := by simpa using hE
          simp only [hA]
          simp only [go_sem, ↓reduceIte, ↓gA, ↓gB, ↓gC, ↓gD, ↓cA, ↓cB, eF, noFam0, none0_r, awake_r, hE2]
       ·refine ⟨by omega, ?_⟩
        simp only [go_sem, ↓reduceIte, ↓gA, ↓gB, ↓gC, ↓gD, ↓cA, ↓cB, List.take_zero, List.map_nil]
        repeat apply Exists.intro
        rfl
     ·refine ⟨by omega, ?_⟩
      simp only [go_sem, ↓reduceIte, ↓gA, ↓gB, ↓gC, ↓gD, ↓cA, ↓cB]
      repeat apply Exists.intro
      rfl
end Go.Mw
