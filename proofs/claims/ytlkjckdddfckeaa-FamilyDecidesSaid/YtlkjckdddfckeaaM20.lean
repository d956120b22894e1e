/- Which systems satisfy a specification, as the reference tells. -/
import Derived.Test.YtlkjckdddfckeaaM19
namespace Go.Mw
set_option linter.unusedVariables false
set_option linter.unusedSimpArgs false
set_option maxRecDepth 100000
theorem inR_ok (l : List Int) (hl : l.length ≤ 1048576) (x : Int) : FnT G f_makeweightref01_In [.lst (l.map I), I x] (Bo (decide (x ∈ l))) := by
  refine FnP.mk' g_makeweightref01_In rfl rfl ?_
  simp only [go_sem, ↓reduceIte, ↓guardT_tt, ↓guardT_tf, ↓guardT_ft, ↓guardT_ff, ↓condT_t, ↓condT_f, c_makeweightref01_In]
  refine wp_loopQ (fun (i : Nat) σ => i ≤ l.length ∧ (∀ j < i, l[j]! ≠ x) ∧ σ = ⟨aT .undef 17 [(1, I x), (7, .lst (l.map I)), (8, I l.length), (9, I i)], [], []⟩) (fun i => l.length - i) ?_ 0 ?_
  · rintro i σ ⟨hi, hall, rfl⟩ N Q hQ hN
    by_cases hlt : i < l.length
    · simp only [go_sem, ↓reduceIte, ↓guardT_tt, ↓guardT_tf, ↓guardT_ft, ↓guardT_ff, ↓condT_t, ↓condT_f, Int.ofNat_lt, hlt, wrap_succ hlt (by omega)]
      refine ⟨fun h => ?_, fun h => ?_⟩
      · subst hQ; simp only [go_sem, ↓reduceIte, ↓guardT_tt, ↓guardT_tf, ↓guardT_ft, ↓guardT_ff, ↓condT_t, ↓condT_f]
        rw [decide_eq_true]
        have e := eq_of_beq h
        rw [e, getElem!_pos l i hlt]; exact List.getElem_mem hlt
      · refine hN (i + 1) _ (by omega) ⟨by omega, forall_lt_succ hall (fun e => ne_of_beq_false h e.symm), ?_⟩
        simp only [go_sem, ↓reduceIte, ↓guardT_tt, ↓guardT_tf, ↓guardT_ft, ↓guardT_ff, ↓condT_t, ↓condT_f]
    · have hil : i = l.length := by omega
      subst hil hQ
      simp only [go_sem, ↓reduceIte, ↓guardT_tt, ↓guardT_tf, ↓guardT_ft, ↓guardT_ff, ↓condT_t, ↓condT_f, Int.ofNat_lt, hlt]
      rw [decide_eq_false]
      intro hm
      obtain ⟨j, hj, e⟩ := List.mem_iff_getElem.1 hm
      exact hall j hj (by rw [getElem!_pos l j hj]; exact e)
  · exact ⟨by omega, by simp, by simp only [go_sem, ↓reduceIte, ↓guardT_tt, ↓guardT_tf, ↓guardT_ft, ↓guardT_ff, ↓condT_t, ↓condT_f]⟩
theorem inR_r {l : List Int} (hl : l.length ≤ 1048576) {x : Int} {fr : Bool} {roots : List Nat} {b : Nat} {ss : List Nat} {σ : St} {k : AV → St → Prop} :
    callT G f_makeweightref01_In [.lst (l.map I), I x] fr roots b ss σ k = k (Bo (decide (x ∈ l))) σ := (inR_ok l hl x).rule
theorem acceptsR_ok (s : Spc) (hs : SpSz s) (y : Nat) (hy : y < s.S.length) (x : Int) : FnT G f_makeweightref03_Accepts [eSp s, I y, I x] (Bo (decide (x ∈ s.S[y]!.A))) := by
  refine FnP.mk' g_makeweightref03_Accepts rfl rfl ?_
  have h := (hs.x y hy).1
  simp only [go_sem, ↓reduceIte, ↓guardT_tt, ↓guardT_tf, ↓guardT_ft, ↓guardT_ff, ↓condT_t, ↓condT_f, c_makeweightref03_Accepts, eSp, eSt, Int.ofNat_lt, hy, inR_r h]
theorem acceptsR_r {s : Spc} (hs : SpSz s) {y : Nat} (hy : y < s.S.length) {x : Int} {fr : Bool} {roots : List Nat} {b : Nat} {ss : List Nat} {σ : St} {k : AV → St → Prop} :
    callT G f_makeweightref03_Accepts [.agg [.lst (s.acts.map .str), .lst (s.S.map eSt)], I y, I x] fr roots b ss σ k = k (Bo (decide (x ∈ s.S[y]!.A))) σ := (acceptsR_ok s hs y hy x).rule
open Classical in
theorem goodR_ok (m : Sys) (hm : SySz m) (s : Spc) (hs : SpSz s) (x y : Nat) (hx : x < m.S.length) (ha : aOk m.S[x]!) (hy : y < s.S.length) : FnT G f_makeweightref03_good [eSys m, eSp s, .agg [I x, I y]] (Bo (decide (goodP m s x y))) := by
  refine FnP.mk' g_makeweightref03_good rfl rfl ?_
  simp only [go_sem, ↓reduceIte, ↓guardT_tt, ↓guardT_tf, ↓guardT_ft, ↓guardT_ff, ↓condT_t, ↓condT_f, c_makeweightref03_good, eSp, eSys, offerR_r hm hx ha, acceptsR_r hs hy]
  congr 1; exact decide_eq_decide.2 Iff.rfl
open Classical in
theorem goodR_r {m : Sys} (hm : SySz m) {s : Spc} (hs : SpSz s) {x y : Nat} (hx : x < m.S.length) (ha : aOk m.S[x]!) (hy : y < s.S.length) {fr : Bool} {roots : List Nat} {b : Nat} {ss : List Nat} {σ : St} {k : AV → St → Prop} :
    callT G f_makeweightref03_good [.agg [.lst (m.acts.map .str), .lst (m.S.map eEs)], .agg [.lst (s.acts.map .str), .lst (s.S.map eSt)], .agg [I x, I y]] fr roots b ss σ k = k (Bo (decide (goodP m s x y))) σ := (goodR_ok m hm s hs x y hx ha hy).rule
/-! #### a row that becomes data -/
def dropK (k : Nat) : List (Nat × AV) → List (Nat × AV)
  | [] => []
  | (j, v) :: l => if j = k then dropK k l else (j, v) :: dropK k l
theorem look_dropK {d : AV} {k j : Nat} (h : ¬ k = j) : ∀ (l : List (Nat × AV)), look d j (dropK k l) = look d j l := by
  intro l
  induction l with
  | nil => rfl
  | cons p l ih =>
    obtain ⟨q, v⟩ := p
    simp only [dropK]
    split
    · rename_i e; subst e; rw [ih]; simp only [look, if_neg h]
    · simp only [look, ih]
theorem frz1_eq {nt t : Nat} {d : AV} {l : List (Nat × AV)} {h : List Ob} {lp : List Lp} (ht : t < nt) : frz1 t ⟨aT d nt l, h, lp⟩ = ⟨aT d nt ((t, treeB 0 h (look d t l)) :: dropK t l), dropRoots h (rootsOf (look d t l)), lp⟩ := by
  simp only [frz1, aT_get ht, aT_set ht]
  congr 1
  apply List.ext_getElem?
  intro i
  by_cases hi : i < nt
  · rw [aT_get hi, aT_get hi]
    simp only [look]
    split
    · rfl
    · rename_i e; rw [look_dropK e]
  · rw [List.getElem?_eq_none (by rw [aT_len]; omega), List.getElem?_eq_none (by rw [aT_len]; omega)]
theorem dropK_nil {k : Nat} : dropK k [] = [] := (rfl)
theorem dropK_cons {k j : Nat} {v : AV} {l : List (Nat × AV)} : dropK k ((j, v) :: l) = if j = k then dropK k l else (j, v) :: dropK k l := (rfl)
def dropM (xs : List AV) (r : Nat) : Nat → List Ob → List Ob
  | _, [] => []
  | k, o :: h => (if k = r ∧ xs ≠ [] then { o with c := .gone } else o) :: dropM xs r (k + 1) h
theorem freeL_may {xs : List AV} {r : Nat} : ∀ (h : List Ob) (k : Nat), freeL (may xs r) k h = dropM xs r k h := by
  intro h
  induction h with
  | nil => intro k; rfl
  | cons o h ih =>
    intro k
    simp only [freeL, dropM, ih]
    unfold may
    by_cases hx : xs = []
    · simp [hx]
    · by_cases hk : k = r <;> simp [hx, hk]
theorem dropRoots_free {S : List Nat} {h : List Ob} : dropRoots h S = freeL S 0 h := by
  rw [← free_sites]; simp [freeSites]
theorem drop_may {xs : List AV} {r : Nat} {h : List Ob} : dropRoots h (may xs r) = dropM xs r 0 h := by rw [dropRoots_free, freeL_may]
theorem drop_nil {h : List Ob} : dropRoots h [] = h := (rfl)
theorem drop_one {r : Nat} {h : List Ob} : dropRoots h [r] = freeL [r] 0 h := dropRoots_free
theorem dropM_nil {xs : List AV} {r k : Nat} : dropM xs r k [] = [] := (rfl)
theorem dropM_hit {xs : List AV} {r es st ss : Nat} {h : List Ob} : dropM xs r r (⟨st, ss, rowo es xs⟩ :: h) = ⟨st, ss, .gone⟩ :: dropM xs r (r + 1) h := by
  simp only [dropM, rowo]
  by_cases hx : xs = [] <;> simp [hx]
theorem dropM_skip {xs : List AV} {r k : Nat} {o : Ob} {h : List Ob} (hk : ¬ k = r) : dropM xs r k (o :: h) = o :: dropM xs r (k + 1) h := by
  simp [dropM, hk]
attribute [go_sem] wp_frzt frz1_eq dropK_nil dropK_cons drop_may drop_nil drop_one dropM_nil dropM_hit dropM_skip
end Go.Mw

/- Which systems satisfy a specification: the pairs that are reached, as the reference finds them. -/
namespace Go.Mw
set_option linter.unusedVariables false
set_option linter.unusedSimpArgs false
set_option maxRecDepth 100000
/-- which pairs have been met -/
def Met (M : List (List Bool)) (x y : Nat) : Prop := M[x]![y]! = true
structure MSz (M : List (List Bool)) (a b : Nat) : Prop where
  l : M.length = a
  r : ∀ x < a, M[x]!.length = b
def μM (M : List (List Bool)) : Nat := (M.map outN).sum
def setM (M : List (List Bool)) (x y : Nat) : List (List Bool) := M.set x (M[x]!.set y true)
theorem sum_set {l : List Nat} {i v : Nat} (h : i < l.length) : (l.set i v).sum + l[i]! = l.sum + v := by
  induction l generalizing i with
  | nil => simp at h
  | cons a l ih =>
    cases i with
    | zero => simp; omega
    | succ i => have := ih (i := i) (by simpa using h); simp at this ⊢; omega
theorem μM_set {M : List (List Bool)} {a b x y : Nat} (h : MSz M a b) (hx : x < a) (hy : y < b) (hf : M[x]![y]! = false) : μM (setM M x y) + 1 = μM M := by
  unfold μM setM
  rw [List.map_set]
  have h1 := @sum_set (M.map outN) x (outN (M[x]!.set y true)) (by rw [List.length_map, h.l]; exact hx)
  have h2 := outN_set (l := M[x]!) (i := y) (by rw [h.r x hx]; exact hy) hf
  have h3 : (M.map outN)[x]! = outN M[x]! := by rw [getElem!_pos _ x (by rw [List.length_map, h.l]; exact hx), getElem!_pos M x (by rw [h.l]; exact hx), List.getElem_map]
  omega
theorem setM_sz {M : List (List Bool)} {a b x y : Nat} (h : MSz M a b) (hx : x < a) : MSz (setM M x y) a b := by
  refine ⟨by unfold setM; rw [List.length_set]; exact h.l, fun z hz => ?_⟩
  unfold setM
  rw [getS1 (by rw [h.l]; exact hx)]
  split
  · rename_i e; subst e; rw [List.length_set]; exact h.r x hx
  · exact h.r z hz
theorem setM_get {M : List (List Bool)} {a b x y : Nat} (h : MSz M a b) (hx : x < a) (hy : y < b) {x' y' : Nat} : Met (setM M x y) x' y' ↔ (x' = x ∧ y' = y) ∨ Met M x' y' := by
  unfold Met setM
  rw [getS1 (by rw [h.l]; exact hx)]
  by_cases e : x = x'
  · subst e
    rw [if_pos rfl, getS1 (by rw [h.r x hx]; exact hy)]
    by_cases e2 : y = y'
    · subst e2; simp
    · rw [if_neg e2]; exact ⟨.inr, fun h => h.resolve_left (fun h => e2 h.2.symm)⟩
  · rw [if_neg e]; exact ⟨.inr, fun h => h.resolve_left (fun h => e h.1.symm)⟩
theorem μM_le {M : List (List Bool)} {a b : Nat} (h : MSz M a b) : μM M ≤ a * b := by
  obtain ⟨rfl, hr⟩ := h
  unfold μM
  induction M with
  | nil => simp
  | cons r M ih =>
    have h0 := hr 0 (by simp)
    have h1 : outN r ≤ r.length := List.length_filter_le _ _
    have h2 := ih (fun x hx => by have := hr (x + 1) (by simpa using hx); simpa using this)
    simp at h0 ⊢
    rw [Nat.add_mul]; omega
/-- what is kept while pairs are met: W: those whose edges are to be followed -/
structure RI (m : Sys) (s : Spc) (M : List (List Bool)) (W : List (Nat × Nat)) : Prop where
  sz : MSz M m.S.length s.S.length
  z : Met M 0 0
  r : ∀ x y, Met M x y → Rch m s x y
  w : ∀ p ∈ W, Met M p.1 p.2
  c : ∀ x y, Met M x y → (x, y) ∈ W ∨ (goodP m s x y ∧ ∀ i < m.S[x]!.length, Met M m.S[x]![i]!.t.toNat (nxt s y m.S[x]![i]!.a.toNat).toNat)
theorem RI.lt {m : Sys} {s : Spc} {M : List (List Bool)} {W : List (Nat × Nat)} (h : RI m s M W) (hm : SysOk m) (hs : SpcOk s) (he : m.acts.length = s.acts.length) {p : Nat × Nat} (hp : p ∈ W) : p.1 < m.S.length ∧ p.2 < s.S.length := (h.r _ _ (h.w p hp)).lt hm hs he
/-- a pair is met -/
theorem RI.meet {m : Sys} {s : Spc} {M : List (List Bool)} {W : List (Nat × Nat)} (h : RI m s M W) {x y : Nat} (hx : x < m.S.length) (hy : y < s.S.length) (hr : Rch m s x y) : RI m s (setM M x y) (W ++ [(x, y)]) := by
  have g := fun {x' y'} => @setM_get M _ _ x y h.sz hx hy x' y'
  refine ⟨setM_sz h.sz hx, g.2 (.inr h.z), fun x' y' hm => ?_, fun p hp => ?_, fun x' y' hm => ?_⟩
  · rcases g.1 hm with ⟨rfl, rfl⟩ | hm
    · exact hr
    · exact h.r _ _ hm
  · rw [List.mem_append, List.mem_singleton] at hp
    rcases hp with hp | rfl
    · exact g.2 (.inr (h.w p hp))
    · exact g.2 (.inl ⟨rfl, rfl⟩)
  · rcases g.1 hm with ⟨rfl, rfl⟩ | hm
    · exact .inl (List.mem_append_right _ (List.mem_singleton_self _))
    · rcases h.c _ _ hm with h1 | ⟨h1, h2⟩
      · exact .inl (List.mem_append_left _ h1)
      · exact .inr ⟨h1, fun i hi => g.2 (.inr (h2 i hi))⟩
/-- a pair is done -/
theorem RI.done {m : Sys} {s : Spc} {M : List (List Bool)} {p : Nat × Nat} {W : List (Nat × Nat)} (h : RI m s M (p :: W)) (hg : goodP m s p.1 p.2) (hd : ∀ i < m.S[p.1]!.length, Met M m.S[p.1]![i]!.t.toNat (nxt s p.2 m.S[p.1]![i]!.a.toNat).toNat) : RI m s M W := by
  refine ⟨h.sz, h.z, h.r, fun q hq => h.w q (List.mem_cons_of_mem _ hq), fun x y hm => ?_⟩
  rcases h.c x y hm with h1 | h1
  · rcases List.mem_cons.1 h1 with rfl | h1
    · exact .inr ⟨hg, hd⟩
    · exact .inl h1
  · exact .inr h1
theorem RI.fin {m : Sys} {s : Spc} {M : List (List Bool)} (h : RI m s M []) : Sat m s := by
  refine sat_of (P := Met M) ⟨h.z, fun x y hm hg i hi => ?_⟩ (fun x y hm => ?_)
  · rcases h.c x y hm with h1 | h1
    · cases h1
    · exact h1.2 i hi
  · rcases h.c x y hm with h1 | h1
    · cases h1
    · exact h1.1
theorem frz_mapN2 {l : List (Nat × Nat)} : (l.map eN2).map frz = l.map eN2 := by rw [List.map_map]; rfl
def mcell (n i x : Nat) : AV := if x < i then .own 1 ((List.replicate n false).map Bo) else .nils
theorem mcell_self {n i : Nat} : mcell n i i = .nils := by simp [mcell]
theorem mcell_set {n k i : Nat} : ((List.range k).map (mcell n i)).set i (.own 1 (List.replicate n (.bool false))) = (List.range k).map (mcell n (i + 1)) := by
  apply List.ext_getElem?
  intro j
  rw [List.getElem?_set]
  by_cases h : i = j
  · subst h
    by_cases hl : i < k <;> simp [hl, mcell]
  · by_cases hl : j < k
    · have e : (j < i) = (j < i + 1) := propext ⟨fun _ => by omega, fun _ => by omega⟩
      simp [h, hl, mcell, e]
    · simp [h, hl]
theorem mcell_fin {n k : Nat} : (List.range k).map (mcell n k) = (List.replicate k (List.replicate n false)).map rowB := by
  apply List.ext_getElem (by simp)
  intro j h1 h2
  simp at h1
  simp [mcell, rowB, h1]
open Classical in
theorem reachR_ok (m : Sys) (hm : SysOk m) (hmz : SySz m) (s : Spc) (hs : SpcOk s) (hsz : SpSz s) (he : m.acts.length = s.acts.length) : ∃ v d, Fn G f_makeweightref03_Reach [eSys m, eSp s] (.tup [v, I d, Bo (decide (Sat m s))]) := by
  suffices hh : FnP G f_makeweightref03_Reach [eSys m, eSp s] (fun rs h => ∃ v d, packV (treeBL 0 h rs) = .tup [v, I d, Bo (decide (Sat m s))]) by
    obtain ⟨F, n, rs, σ1, e1, e2, e3, e4, e5, e6, v, d, h3⟩ := hh
    exact ⟨v, d, F, n, rs, σ1, e1, e2, e3, e4, e5, e6, h3⟩
  refine FnP.mk' g_makeweightref03_Reach rfl rfl ?_
  have hS := hmz.s
  have hs5 := hm.s2
  have hT := hs.s2
  simp only [go_sem, ↓reduceIte, ↓guardT_tt, ↓guardT_tf, ↓guardT_ft, ↓guardT_ff, ↓condT_t, ↓condT_f, c_makeweightref03_Reach, eSp, eSys]
  refine ⟨by omega, ?_⟩
  refine wp_loopQ (fun (i : Nat) σ => i ≤ m.S.length ∧ ∃ z2 a3 c3, σ = ⟨aT .undef 136 [(2, .ptr 0 1 [] 0 0 0), (3, .ptr 1 1 [] 0 0 0), (7, .sl 2 1 [] 0 0 m.S.length), (26, I m.S.length), (27, I i)],
    [⟨1, 0, .own 2 [.agg [.lst (m.acts.map .str), .lst (m.S.map eEs)]]⟩, ⟨1, 0, .own 2 [.agg [.lst (s.acts.map .str), .lst (s.S.map eSt)]]⟩, ⟨1, z2, .own 1 ((List.range m.S.length).map (mcell s.S.length i))⟩, ⟨a3, c3, .gone⟩, ⟨0, 0, .gone⟩, ⟨0, 0, .gone⟩, ⟨0, 0, .gone⟩, ⟨0, 0, .gone⟩, ⟨0, 0, .gone⟩, ⟨0, 0, .gone⟩, ⟨0, 0, .gone⟩, ⟨0, 0, .gone⟩], []⟩) (fun i => m.S.length - i) ?_ 0 ?_
  · rintro i σ ⟨hi, z2, a3, c3, rfl⟩ N Q hQ hN
    by_cases hlt : i < m.S.length
    · simp only [go_sem, ↓reduceIte, ↓guardT_tt, ↓guardT_tf, ↓guardT_ft, ↓guardT_ff, ↓condT_t, ↓condT_f, wrap_succ hlt (by omega), Int.ofNat_lt, hlt, List.length_range, rng_get hlt, mcell_self, mcell_set]
      refine ⟨by omega, hN (i + 1) _ (by omega) ⟨by omega, ?_⟩⟩
      simp only [go_sem, ↓reduceIte, ↓guardT_tt, ↓guardT_tf, ↓guardT_ft, ↓guardT_ff, ↓condT_t, ↓condT_f]
      repeat apply Exists.intro
      rfl
    · have hil : i = m.S.length := by omega
      subst hil hQ
      have h0 : 0 < m.S.length := by have := hm.s1; omega
      have h1 : 0 < s.S.length := by have := hs.s1; omega
      simp only [go_sem, ↓reduceIte, ↓guardT_tt, ↓guardT_tf, ↓guardT_ft, ↓guardT_ff, ↓condT_t, ↓condT_f, Int.ofNat_lt, hlt, mcell_fin]
      have hM0 : MSz (List.replicate m.S.length (List.replicate s.S.length false)) m.S.length s.S.length := ⟨by simp, fun x hx => by rw [getElem!_pos _ x (by simpa using hx)]; simp⟩
      have hM1 : ∀ x y, ¬ Met (List.replicate m.S.length (List.replicate s.S.length false)) x y := by
        intro x y h
        unfold Met at h
        by_cases hx : x < m.S.length
        · rw [getElem!_pos _ x (by simpa using hx)] at h
          simp only [List.getElem_replicate, List.getElem!_eq_getElem?_getD, List.getElem?_replicate] at h
          split at h <;> simp at h
        · have e1 : (List.replicate m.S.length (List.replicate s.S.length false))[x]! = [] := by
            rw [List.getElem!_eq_getElem?_getD, List.getElem?_eq_none (by simpa using hx)]; rfl
          rw [e1] at h; simp at h
      generalize List.replicate m.S.length (List.replicate s.S.length false) = M0 at *
      have hRI : RI m s (setM M0 0 0) [(0, 0)] := by
        refine ⟨setM_sz hM0 h0, (setM_get hM0 h0 h1).2 (.inl ⟨rfl, rfl⟩), fun x y hm' => ?_, fun p hp => ?_, fun x y hm' => ?_⟩
        · rcases (setM_get hM0 h0 h1).1 hm' with ⟨rfl, rfl⟩ | h
          · exact (Rch.closed m s).z
          · exact absurd h (hM1 x y)
        · rw [List.mem_singleton] at hp; subst hp; exact (setM_get hM0 h0 h1).2 (.inl ⟨rfl, rfl⟩)
        · rcases (setM_get hM0 h0 h1).1 hm' with ⟨rfl, rfl⟩ | h
          · exact .inl (List.mem_singleton_self _)
          · exact absurd h (hM1 x y)
      have g0 := hM0.l
      have g1 := hM0.r 0 h0
      simp only [go_sem, ↓reduceIte, ↓guardT_tt, ↓guardT_tf, ↓guardT_ft, ↓guardT_ff, ↓condT_t, ↓condT_f, Int.ofNat_lt, h0, h1, g0, g1, rowB, map_setB, map_setR]
      refine ⟨by omega, by omega, ?_⟩
      refine wp_loopQ (fun (g : List (List Bool) × List (Nat × Nat)) σ => RI m s g.1 g.2 ∧ g.2.length ≤ 2500000 ∧ ∃ d z2 o3 o4 a5 c5 a6 c6 a7 c7 a8 c8 a9 c9, frz1 9 σ = ⟨aT .undef 136 [(9, .lst (g.2.map eN2)), (2, .ptr 0 1 [] 0 0 0), (3, .ptr 1 1 [] 0 0 0), (7, .sl 2 1 [] 0 0 m.S.length), (10, I d)],
        [⟨1, 0, .own 2 [.agg [.lst (m.acts.map .str), .lst (m.S.map eEs)]]⟩, ⟨1, 0, .own 2 [.agg [.lst (s.acts.map .str), .lst (s.S.map eSt)]]⟩, ⟨1, z2, .own 1 (g.1.map rowB)⟩, o3, o4, ⟨a5, c5, .gone⟩, ⟨a6, c6, .gone⟩, ⟨a7, c7, .gone⟩, ⟨a8, c8, .gone⟩, ⟨a9, c9, .gone⟩, ⟨0, 0, .gone⟩, ⟨0, 0, .gone⟩], []⟩) (fun g => 2 * μM g.1 + if g.2 = [] then 0 else 1) ?_ (setM M0 0 0, [(0, 0)]) ?_
      · rintro ⟨M, W⟩ σ ⟨hI, hWl, d, z2, o3, o4, a5, c5, a6, c6, a7, c7, a8, c8, a9, c9, hσ⟩ N Q hQ hN
        simp only at hI hσ hWl
        have hMl := hI.sz.l
        by_cases hW : W = []
        · subst hW
          have hsat := hI.fin
          subst hQ
          simp only [go_sem, ↓reduceIte, ↓guardT_tt, ↓guardT_tf, ↓guardT_ft, ↓guardT_ff, ↓condT_t, ↓condT_f, hσ, hMl]
          refine wp_loopQ (fun (i : Nat) σ => i ≤ m.S.length ∧ ∃ P : List (Nat × Nat), P.length ≤ i * 500 ∧ ∃ o0 o1 z2 o3 o4 o5 o6 o7 o8 o9 a10 c10 a11 c11, σ = ⟨aT .undef 136 [(7, .sl 2 1 [] 0 0 m.S.length), (17, rowv .nils 2 11 a11 (P.map eN2)), (112, I m.S.length), (113, I i)],
            [o0, o1, ⟨1, z2, .own 1 (M.map rowB)⟩, o3, o4, o5, o6, o7, o8, o9, ⟨a10, c10, .gone⟩, ⟨a11, c11, rowo 2 (P.map eN2)⟩], []⟩) (fun i => m.S.length - i) ?_ 0 ?_
          · rintro i σ ⟨hi, P, hP, o0, o1, z2, o3, o4, o5, o6, o7, o8, o9, a10, c10, a11, c11, rfl⟩ N Q hQ hN
            by_cases hlt : i < m.S.length
            · have hiM : i < M.length := by omega
              have hr := hI.sz.r i hlt
              simp only [go_sem, ↓reduceIte, ↓guardT_tt, ↓guardT_tf, ↓guardT_ft, ↓guardT_ff, ↓condT_t, ↓condT_f, Int.ofNat_lt, hlt, hiM, rowB, hr, hMl]
              refine wp_loopQ (fun (j : Nat) σ => j ≤ s.S.length ∧ ∃ P : List (Nat × Nat), P.length ≤ i * 500 + j ∧ ∃ o0 o1 o3 o4 o5 o6 o7 o8 o9 a10 c10 a11 c11, σ = ⟨aT .undef 136 [(7, .sl 2 1 [] 0 0 m.S.length), (17, rowv .nils 2 11 a11 (P.map eN2)), (18, I i), (112, I m.S.length), (113, I i), (119, .sl 2 1 [(i, 0)] z2 0 s.S.length), (120, I s.S.length), (121, I j)],
                [o0, o1, ⟨1, z2, .own 1 (M.map rowB)⟩, o3, o4, o5, o6, o7, o8, o9, ⟨a10, c10, .gone⟩, ⟨a11, c11, rowo 2 (P.map eN2)⟩], []⟩) (fun j => s.S.length - j) ?_ 0 ?_
              · rintro j σ ⟨hj, P, hP, o0, o1, o3, o4, o5, o6, o7, o8, o9, a10, c10, a11, c11, rfl⟩ N2 Q2 hQ2 hN2
                by_cases hlt2 : j < s.S.length
                · have hjr : j < M[i]!.length := by omega
                  simp only [go_sem, ↓reduceIte, ↓guardT_tt, ↓guardT_tf, ↓guardT_ft, ↓guardT_ff, ↓condT_t, ↓condT_f, Int.ofNat_lt, hlt2, hiM, rowB, hr, hjr, wrap_succ hlt2 (by omega)]
                  refine ⟨fun hb => ⟨by omega, ?_⟩, fun hb => ?_⟩
                  · refine hN2 (j + 1) _ (by omega) ⟨by omega, P ++ [(i, j)], by rw [List.length_append, List.length_singleton]; omega, ?_⟩
                    simp only [go_sem, ↓reduceIte, ↓guardT_tt, ↓guardT_tf, ↓guardT_ft, ↓guardT_ff, ↓condT_t, ↓condT_f, List.map_append, eN2, eN]
                    repeat apply Exists.intro
                    rfl
                  · refine hN2 (j + 1) _ (by omega) ⟨by omega, P, by omega, ?_⟩
                    simp only [go_sem, ↓reduceIte, ↓guardT_tt, ↓guardT_tf, ↓guardT_ft, ↓guardT_ff, ↓condT_t, ↓condT_f]
                    repeat apply Exists.intro
                    rfl
                · have hjl : j = s.S.length := by omega
                  subst hQ2
                  simp only [go_sem, ↓reduceIte, ↓guardT_tt, ↓guardT_tf, ↓guardT_ft, ↓guardT_ff, ↓condT_t, ↓condT_f, Int.ofNat_lt, hlt2, wrap_succ hlt (show m.S.length ≤ 1000000000 by omega)]
                  refine hN (i + 1) _ (by omega) ⟨by omega, P, by omega, ?_⟩
                  simp only [go_sem, ↓reduceIte, ↓guardT_tt, ↓guardT_tf, ↓guardT_ft, ↓guardT_ff, ↓condT_t, ↓condT_f]
                  repeat apply Exists.intro
                  rfl
              · refine ⟨by omega, P, by omega, ?_⟩
                simp only [go_sem, ↓reduceIte, ↓guardT_tt, ↓guardT_tf, ↓guardT_ft, ↓guardT_ff, ↓condT_t, ↓condT_f, rowB]
                repeat apply Exists.intro
                rfl
            · have hil : i = m.S.length := by omega
              subst hQ
              simp only [go_sem, ↓reduceIte, ↓guardT_tt, ↓guardT_tf, ↓guardT_ft, ↓guardT_ff, ↓condT_t, ↓condT_f, Int.ofNat_lt, hlt]
              rw [decide_eq_true hsat]
              exact ⟨_, _, rfl⟩
          · refine ⟨by omega, [], by simp, ?_⟩
            simp only [go_sem, ↓reduceIte, ↓guardT_tt, ↓guardT_tf, ↓guardT_ft, ↓guardT_ff, ↓condT_t, ↓condT_f]
            repeat apply Exists.intro
            rfl
        · have hW0 : 0 < W.length := List.length_pos_iff.2 hW
          have hWp : (0 : Int) < (W.length : Int) := by omega
          have hμ := μM_le hI.sz
          have hμ2 : m.S.length * s.S.length ≤ 5000 * 500 := Nat.mul_le_mul (by omega) (by omega)
          simp only [go_sem, ↓reduceIte, ↓guardT_tt, ↓guardT_tf, ↓guardT_ft, ↓guardT_ff, ↓condT_t, ↓condT_f, hσ, hWp]
          refine wp_loopQ (fun (g : Nat × List (List Bool) × List (Nat × Nat)) σ => g.1 ≤ W.length ∧ RI m s g.2.1 (W.drop g.1 ++ g.2.2) ∧ μM g.2.1 + g.2.2.length = μM M ∧ ∃ z2 o3 o4 a5 c5 a6 c6 a7 c7 a8 c8 a9 c9, σ = ⟨aT .undef 136 [(2, .ptr 0 1 [] 0 0 0), (3, .ptr 1 1 [] 0 0 0), (7, .sl 2 1 [] 0 0 m.S.length), (10, I d), (11, rowv .nils 2 9 a9 (g.2.2.map eN2)), (49, .lst (W.map eN2)), (50, I W.length), (51, I g.1)],
            [⟨1, 0, .own 2 [.agg [.lst (m.acts.map .str), .lst (m.S.map eEs)]]⟩, ⟨1, 0, .own 2 [.agg [.lst (s.acts.map .str), .lst (s.S.map eSt)]]⟩, ⟨1, z2, .own 1 (g.2.1.map rowB)⟩, o3, o4, ⟨a5, c5, .gone⟩, ⟨a6, c6, .gone⟩, ⟨a7, c7, .gone⟩, ⟨a8, c8, .gone⟩, ⟨a9, c9, rowo 2 (g.2.2.map eN2)⟩, ⟨0, 0, .gone⟩, ⟨0, 0, .gone⟩], []⟩) (fun g => W.length - g.1) ?_ (0, M, []) ?_
          · rintro ⟨j, M1, W2⟩ σ ⟨hj, hI1, hcnt, z2, o3, o4, a5, c5, a6, c6, a7, c7, a8, c8, a9, c9, rfl⟩ N2 Q2 hQ2 hN2
            simp only at hj hI1 hcnt
            by_cases hlt : j < W.length
            · have hcons : W.drop j = W[j]! :: W.drop (j + 1) := by rw [List.drop_eq_getElem_cons hlt, getElem!_pos W j hlt]
              rw [hcons, List.cons_append] at hI1
              have hpl := hI1.lt hm hs he (List.mem_cons_self ..)
              generalize hp : W[j]! = p at *
              obtain ⟨x, y⟩ := p
              simp only at hpl
              have hpr := hI1.r _ _ (hI1.w _ (List.mem_cons_self ..))
              simp only at hpr
              have haO := hm.aOk hpl.1
              simp only [go_sem, ↓reduceIte, ↓guardT_tt, ↓guardT_tf, ↓guardT_ft, ↓guardT_ff, ↓condT_t, ↓condT_f, Int.ofNat_lt, hlt, hp, eN2, eN, goodR_r hmz hsz hpl.1 haO hpl.2, wrap_succ hlt (by omega), hpl.1, eEs]
              refine ⟨fun hg => ?_, fun hg => ?_⟩
              · subst hQ2; simp only [go_sem, ↓reduceIte, ↓guardT_tt, ↓guardT_tf, ↓guardT_ft, ↓guardT_ff, ↓condT_t, ↓condT_f]; subst hQ; simp only [go_sem, ↓reduceIte, ↓guardT_tt, ↓guardT_tf, ↓guardT_ft, ↓guardT_ff, ↓condT_t, ↓condT_f]
                rw [decide_eq_false (fun hsat : Sat m s => hg (hsat x y hpr))]
                exact ⟨_, _, rfl⟩
              · have hel := hmz.e x hpl.1
                refine wp_loopQ (fun (g : Nat × List (List Bool) × List (Nat × Nat)) σ => g.1 ≤ m.S[x]!.length ∧ RI m s g.2.1 ((x, y) :: (W.drop (j + 1) ++ g.2.2)) ∧ (∀ i < g.1, Met g.2.1 m.S[x]![i]!.t.toNat (nxt s y m.S[x]![i]!.a.toNat).toNat) ∧ μM g.2.1 + g.2.2.length = μM M ∧ ∃ z2 o3 o4 a6 c6 a7 c7 a8 c8 a9 c9, σ = ⟨aT .undef 136 [(2, .ptr 0 1 [] 0 0 0), (3, .ptr 1 1 [] 0 0 0), (7, .sl 2 1 [] 0 0 m.S.length), (10, I d), (11, rowv .nils 2 9 a9 (g.2.2.map eN2)), (13, .ptr 5 (a5 + 1) [] 0 0 0), (49, .lst (W.map eN2)), (50, I W.length), (51, I j), (66, .lst (m.S[x]!.map eE)), (67, I m.S[x]!.length), (68, I g.1)],
                  [⟨1, 0, .own 2 [.agg [.lst (m.acts.map .str), .lst (m.S.map eEs)]]⟩, ⟨1, 0, .own 2 [.agg [.lst (s.acts.map .str), .lst (s.S.map eSt)]]⟩, ⟨1, z2, .own 1 (g.2.1.map rowB)⟩, o3, o4, ⟨a5 + 1, 0, .own 2 [.agg [I x, I y]]⟩, ⟨a6, c6, .gone⟩, ⟨a7, c7, .gone⟩, ⟨a8, c8, .gone⟩, ⟨a9, c9, rowo 2 (g.2.2.map eN2)⟩, ⟨0, 0, .gone⟩, ⟨0, 0, .gone⟩], []⟩) (fun g => m.S[x]!.length - g.1) ?_ (0, M1, W2) ?_
                · rintro ⟨k, M2, W3⟩ σ ⟨hk, hI2, hdn, hcnt2, z2, o3, o4, a6, c6, a7, c7, a8, c8, a9, c9, rfl⟩ N3 Q3 hQ3 hN3
                  simp only at hk hI2 hdn hcnt2
                  by_cases hlt2 : k < m.S[x]!.length
                  · obtain ⟨g1, g2, g3, g4, g5, g6⟩ := good_nxt hm hs he hpl.1 hpl.2 hg hlt2
                    have hsr := (Rch.closed m s).n x y hpr hg k hlt2
                    unfold nxt at g5 g6 hsr
                    have hdn' := hdn
                    unfold nxt at hdn
                    have hXl : s.S[y]!.X.length = s.acts.length := (hs.st y hpl.2).len
                    obtain ⟨tx, htx⟩ : ∃ n : Nat, m.S[x]![k]!.t = n := ⟨m.S[x]![k]!.t.toNat, by omega⟩
                    obtain ⟨ac, hac⟩ : ∃ n : Nat, m.S[x]![k]!.a = n := ⟨m.S[x]![k]!.a.toNat, by omega⟩
                    rw [hac, Int.toNat_natCast] at g5 g6 hsr
                    obtain ⟨ty, hty⟩ : ∃ n : Nat, s.S[y]!.X[ac]! = n := ⟨s.S[y]!.X[ac]!.toNat, by omega⟩
                    rw [htx, hty, Int.toNat_natCast, Int.toNat_natCast] at hsr
                    have hacl : ac < s.S[y]!.X.length := by omega
                    have htx2 : tx < m.S.length := by omega
                    have hty2 : ty < s.S.length := by omega
                    have htM : tx < M2.length := by rw [hI2.sz.l]; exact htx2
                    have htR : ty < M2[tx]!.length := by rw [hI2.sz.r tx htx2]; exact hty2
                    simp only [go_sem, ↓reduceIte, ↓guardT_tt, ↓guardT_tf, ↓guardT_ft, ↓guardT_ff, ↓condT_t, ↓condT_f, Int.ofNat_lt, hlt2, eE, eSt, htx, hac, hty, hpl.2, hacl, htx2, hty2, htM, htR, rowB, wrap_succ hlt2 (by omega), hI2.sz.l]
                    have hμ3 := μM_le hI2.sz
                    have htk : ∀ i < k + 1, i = k ∨ i < k := fun i hi => by omega
                    have hnx : (nxt s y m.S[x]![k]!.a.toNat).toNat = ty := by unfold nxt; rw [hac, Int.toNat_natCast, hty, Int.toNat_natCast]
                    have htx3 : m.S[x]![k]!.t.toNat = tx := by rw [htx, Int.toNat_natCast]
                    refine ⟨fun hf => ⟨by omega, ?_⟩, fun hf => ?_⟩
                    · have hg2 := fun {x' y'} => @setM_get M2 _ _ tx ty hI2.sz htx2 hty2 x' y'
                      have hms := μM_set hI2.sz htx2 hty2 hf
                      have hmt := hI2.meet htx2 hty2 hsr
                      rw [List.cons_append, List.append_assoc] at hmt
                      refine hN3 (k + 1, setM M2 tx ty, W3 ++ [(tx, ty)]) _ (by simp only; omega) ⟨by simp only; omega, hmt, fun i hi => ?_, by simp only [List.length_append, List.length_singleton]; omega, ?_⟩
                      · rcases htk i hi with rfl | hi
                        · rw [htx3, hnx]; exact hg2.2 (.inl ⟨rfl, rfl⟩)
                        · exact hg2.2 (.inr (hdn' i hi))
                      · simp only [go_sem, ↓reduceIte, ↓guardT_tt, ↓guardT_tf, ↓guardT_ft, ↓guardT_ff, ↓condT_t, ↓condT_f, setM, List.map_append, eN2, eN, map_setB, map_setR]
                        repeat apply Exists.intro
                        rfl
                    · refine hN3 (k + 1, M2, W3) _ (by simp only; omega) ⟨by simp only; omega, hI2, fun i hi => ?_, hcnt2, ?_⟩
                      · rcases htk i hi with rfl | hi
                        · rw [htx3, hnx]; exact hf
                        · exact hdn' i hi
                      · simp only [go_sem, ↓reduceIte, ↓guardT_tt, ↓guardT_tf, ↓guardT_ft, ↓guardT_ff, ↓condT_t, ↓condT_f]
                        repeat apply Exists.intro
                        rfl
                  · have hkl : k = m.S[x]!.length := by omega
                    subst hQ3
                    simp only [go_sem, ↓reduceIte, ↓guardT_tt, ↓guardT_tf, ↓guardT_ft, ↓guardT_ff, ↓condT_t, ↓condT_f, Int.ofNat_lt, hlt2, wrap_succ hlt (show W.length ≤ 1000000000 by omega)]
                    refine hN2 (j + 1, M2, W3) _ (by simp only; omega) ⟨by simp only; omega, hI2.done hg (fun i hi => hdn i (by rw [hkl]; exact hi)), hcnt2, ?_⟩
                    simp only [go_sem, ↓reduceIte, ↓guardT_tt, ↓guardT_tf, ↓guardT_ft, ↓guardT_ff, ↓condT_t, ↓condT_f]
                    repeat apply Exists.intro
                    rfl
                · refine ⟨by simp, hI1, fun i hi => absurd hi (by simp), hcnt, ?_⟩
                  simp only [go_sem, ↓reduceIte, ↓guardT_tt, ↓guardT_tf, ↓guardT_ft, ↓guardT_ff, ↓condT_t, ↓condT_f]
                  repeat apply Exists.intro
                  rfl
            · have hjl : j = W.length := by omega
              subst hQ2
              simp only [go_sem, ↓reduceIte, ↓guardT_tt, ↓guardT_tf, ↓guardT_ft, ↓guardT_ff, ↓condT_t, ↓condT_f, Int.ofNat_lt, hlt]
              subst hjl
              rw [List.drop_length, List.nil_append] at hI1
              refine hN (M1, W2) _ ?_ ⟨hI1, by simp only; omega, ?_⟩
              · simp only [hW, if_false]
                by_cases hW2 : W2 = []
                · subst hW2; simp at hcnt ⊢; omega
                · have := List.length_pos_iff.2 hW2; simp only [hW2, if_false]; omega
              · simp only [go_sem, ↓reduceIte, ↓guardT_tt, ↓guardT_tf, ↓guardT_ft, ↓guardT_ff, ↓condT_t, ↓condT_f, frz_mapN2]
                repeat apply Exists.intro
                rfl
          · refine ⟨by simp, by simpa using hI, by simp, ?_⟩
            simp only [go_sem, ↓reduceIte, ↓guardT_tt, ↓guardT_tf, ↓guardT_ft, ↓guardT_ff, ↓condT_t, ↓condT_f]
            repeat apply Exists.intro
            rfl
      · refine ⟨hRI, by simp, ?_⟩
        simp only [go_sem, ↓reduceIte, ↓guardT_tt, ↓guardT_tf, ↓guardT_ft, ↓guardT_ff, ↓condT_t, ↓condT_f, setM, eN2, eN]
        repeat apply Exists.intro
        rfl
  · refine ⟨by omega, ?_⟩
    have e1 : (List.range m.S.length).map (mcell s.S.length 0) = List.replicate m.S.length AV.nils := by
      apply List.ext_getElem (by simp); intro j h1 h2; simp [mcell]
    simp only [go_sem, ↓reduceIte, ↓guardT_tt, ↓guardT_tf, ↓guardT_ft, ↓guardT_ff, ↓condT_t, ↓condT_f, e1]
    repeat apply Exists.intro
    rfl
open Classical in
theorem satR_ok (m : Sys) (hm : SysOk m) (hmz : SySz m) (s : Spc) (hs : SpcOk s) (hsz : SpSz s) (he : m.acts.length = s.acts.length) : FnT G f_makeweightref03_Satisfies [eSys m, eSp s] (Bo (decide (Sat m s))) := by
  obtain ⟨v, d, h⟩ := reachR_ok m hm hmz s hs hsz he
  have hcall : ∀ {roots : List Nat} {b : Nat} {ss : List Nat} {σ : St} {k : AV → St → Prop}, callT G f_makeweightref03_Reach [.agg [.lst (m.acts.map .str), .lst (m.S.map eEs)], .agg [.lst (s.acts.map .str), .lst (s.S.map eSt)]] true roots b ss σ k = k (.tup [v, I d, Bo (decide (Sat m s))]) σ := h.rule
  refine FnP.mk' g_makeweightref03_Satisfies rfl rfl ?_
  simp only [go_sem, ↓reduceIte, ↓guardT_tt, ↓guardT_tf, ↓guardT_ft, ↓guardT_ff, ↓condT_t, ↓condT_f, c_makeweightref03_Satisfies, eSys, eSp, hcall]
open Classical in
theorem satR_r {m : Sys} (hm : SysOk m) (hmz : SySz m) {s : Spc} (hs : SpcOk s) (hsz : SpSz s) (he : m.acts.length = s.acts.length) {fr : Bool} {roots : List Nat} {b : Nat} {ss : List Nat} {σ : St} {k : AV → St → Prop} :
    callT G f_makeweightref03_Satisfies [.agg [.lst (m.acts.map .str), .lst (m.S.map eEs)], .agg [.lst (s.acts.map .str), .lst (s.S.map eSt)]] fr roots b ss σ k = k (Bo (decide (Sat m s))) σ := (satR_ok m hm hmz s hs hsz he).rule
end Go.Mw

/- Numbers below one, as a set. -/
namespace Go.Mw
set_option linter.unusedVariables false
set_option linter.unusedSimpArgs false
set_option maxRecDepth 100000
/-- the numbers below n of which something holds, as a set -/
def bitsN (p : Nat → Bool) : Nat → Nat
  | 0 => 0
  | j + 1 => if p j then bitsN p j ||| 2 ^ j else bitsN p j
theorem bitsN_succ {p : Nat → Bool} {j : Nat} : bitsN p (j + 1) = if p j then bitsN p j ||| 2 ^ j else bitsN p j := (rfl)
theorem bitsN_test {p : Nat → Bool} {n a : Nat} : (bitsN p n).testBit a = (decide (a < n) && p a) := by
  induction n with
  | zero => simp [bitsN]
  | succ n ih =>
    rw [bitsN_succ]
    split
    · rename_i h
      rw [Nat.testBit_or, ih, Nat.testBit_two_pow]
      by_cases e : n = a
      · subst e; simp [h]
      · have h1 : decide (a < n + 1) = decide (a < n) := by apply decide_eq_decide.2; omega
        simp [e, h1]
    · rename_i h
      rw [ih]
      by_cases e : n = a
      · subst e; simp [h]
      · have h1 : decide (a < n + 1) = decide (a < n) := by apply decide_eq_decide.2; omega
        rw [h1]
theorem bitsN_lt {p : Nat → Bool} {n : Nat} : bitsN p n < 2 ^ n := by
  apply Nat.lt_pow_two_of_testBit
  intro i hi
  rw [bitsN_test]; simp; omega
theorem bitsN_63 {p : Nat → Bool} {n : Nat} (hn : n ≤ 32) : bitsN p n < 2 ^ 63 := Nat.lt_of_lt_of_le bitsN_lt (Nat.pow_le_pow_right (by omega) (by omega))
theorem bitsN_bor {p : Nat → Bool} {n : Nat} (hn : n ≤ 32) : bor .i64 (bitsN p n : Int) ((2 ^ n : Nat) : Int) = ((bitsN p n ||| 2 ^ n : Nat) : Int) := bor_nat (bitsN_63 hn) (Nat.pow_lt_pow_right (by omega) (by omega))
end Go.Mw

/- The products for which something holds. -/
namespace Go.Mw
set_option linter.unusedVariables false
set_option linter.unusedSimpArgs false
set_option maxRecDepth 100000
theorem with_ok (p : Nat → Bool) (n : Nat) (hn : n ≤ 32) : FnT G f__family_products__with [I (bitsN p n : Nat), I n] (I ((bitsN p n ||| 2 ^ n : Nat) : Int)) := by
  refine FnP.mk' g__family_products__with rfl rfl ?_
  simp only [go_sem, ↓reduceIte, ↓guardT_tt, ↓guardT_tf, ↓guardT_ft, ↓guardT_ff, ↓condT_t, ↓condT_f, c__family_products__with, bshl_one (show n ≤ 62 by omega), bitsN_bor hn]
theorem with_r {p : Nat → Bool} {n : Nat} (hn : n ≤ 32) {fr : Bool} {roots : List Nat} {b : Nat} {ss : List Nat} {σ : St} {k : AV → St → Prop} :
    callT G f__family_products__with [I (bitsN p n : Nat), I n] fr roots b ss σ k = k (I ((bitsN p n ||| 2 ^ n : Nat) : Int)) σ := (with_ok p n hn).rule
theorem which_ok (n : Nat) (hn : n ≤ 32) (f : FuncId) (cs : List AV) (p : Nat → Bool) (hp : PureF G f) (ht : ∀ h, treeBL 0 h cs = cs) (hok : ∀ a < n, FnT G f (I a :: cs) (Bo (p a))) :
    FnT G f_family_which [I n, .fn f cs] (I (bitsN p n : Nat)) := by
  refine FnP.mk' g_family_which rfl rfl ?_
  simp only [go_sem, ↓reduceIte, ↓guardT_tt, ↓guardT_tf, ↓guardT_ft, ↓guardT_ff, ↓condT_t, ↓condT_f, c_family_which]
  refine wp_loopQ (fun (i : Nat) σ => i ≤ n ∧ σ = ⟨aT .undef 19 [(1, .fn f cs), (5, I (bitsN p i : Nat)), (7, I n), (8, I i)], [], []⟩) (fun i => n - i) ?_ 0 ?_
  · rintro i σ ⟨hi, rfl⟩ N Q hQ hN
    by_cases hlt : i < n
    · have hcall : ∀ {fr : Bool} {roots : List Nat} {b : Nat} {ss : List Nat} {σ : St} {k : AV → St → Prop}, callT G f (I i :: cs) fr roots b ss σ k = k (Bo (p i)) σ := (hok i hlt).rule
      simp only [go_sem, ↓reduceIte, ↓guardT_tt, ↓guardT_tf, ↓guardT_ft, ↓guardT_ff, ↓condT_t, ↓condT_f, wrap_succ hlt (by omega), Int.ofNat_lt, hlt, hp, ht, hcall, with_r (show i ≤ 32 by omega)]
      refine ⟨fun h => hN (i + 1) _ (by omega) ⟨by omega, ?_⟩, fun h => hN (i + 1) _ (by omega) ⟨by omega, ?_⟩⟩
      · simp only [go_sem, ↓reduceIte, ↓guardT_tt, ↓guardT_tf, ↓guardT_ft, ↓guardT_ff, ↓condT_t, ↓condT_f, bitsN_succ, h]
      · simp only [go_sem, ↓reduceIte, ↓guardT_tt, ↓guardT_tf, ↓guardT_ft, ↓guardT_ff, ↓condT_t, ↓condT_f, bitsN_succ, h]
    · have hil : i = n := by omega
      subst hil hQ
      simp only [go_sem, ↓reduceIte, ↓guardT_tt, ↓guardT_tf, ↓guardT_ft, ↓guardT_ff, ↓condT_t, ↓condT_f, Int.ofNat_lt, hlt]
  · exact ⟨by omega, by simp only [go_sem, ↓reduceIte, ↓guardT_tt, ↓guardT_tf, ↓guardT_ft, ↓guardT_ff, ↓condT_t, ↓condT_f, bitsN]⟩
end Go.Mw

/- The products of a valid family are valid; which of them a system satisfies, which are not hollow: as the reference tells. -/
namespace Go.Mw
set_option linter.unusedVariables false
set_option linter.unusedSimpArgs false
set_option maxRecDepth 100000
theorem mem_chosen {l : List Ch} {p : Nat} {n : Int} : n ∈ chosenL l p ↔ ∃ c ∈ l, c.W.toNat.testBit p = true ∧ c.N = n := by
  unfold chosenL; simp only [List.mem_map, List.mem_filter]
  exact ⟨fun ⟨c, ⟨h1, h2⟩, h3⟩ => ⟨c, h1, h2, h3⟩, fun ⟨c, h1, h2, h3⟩ => ⟨c, ⟨h1, h2⟩, h3⟩⟩
theorem pw_last {l : List Int} (h : l.Pairwise (· < ·)) {i : Nat} (hi : i < l.length) (h0 : 0 < i) : l[i-1]! < l[i]! := by
  rw [getElem!_pos l (i-1) (by omega), getElem!_pos l i hi]
  exact (List.pairwise_iff_getElem.1 h) (i-1) i (by omega) hi (by omega)
theorem chosen_pw {l : List Ch} {p : Nat} (h : l.Pairwise (fun c d => c.N < d.N)) : (chosenL l p).Pairwise (· < ·) := by
  unfold chosenL
  rw [List.pairwise_map]
  exact h.filter _
theorem next_mem {l : List Ch} {p : Nat} : nextOf l p = -1 ∧ chosenL l p = [] ∨ nextOf l p ∈ chosenL l p := by
  unfold nextOf
  cases h : chosenL l p with
  | nil => exact .inl ⟨rfl, rfl⟩
  | cons a r => right; simp
theorem next_of {l : List Ch} {p : Nat} (hd : l.Pairwise Apart) {c : Ch} (hc : c ∈ l) (hb : c.W.toNat.testBit p = true) : nextOf l p = c.N := by
  unfold nextOf chosenL
  induction l with
  | nil => cases hc
  | cons d l ih =>
    rw [List.pairwise_cons] at hd
    rcases List.mem_cons.1 hc with rfl | hc
    · rw [List.filter_cons, if_pos hb]; rfl
    · have hnd : ¬ d.W.toNat.testBit p = true := fun h => hd.1 c hc p ⟨h, hb⟩
      rw [List.filter_cons, if_neg hnd]
      exact ih hd.2 hc
theorem getMem {α : Type} [Inhabited α] {l : List α} {i : Nat} (h : i < l.length) : l[i]! ∈ l := by rw [getElem!_pos l i h]; exact List.getElem_mem h
theorem prod_st {f : Fam} {p i : Nat} (hi : i < f.S.length) : (prodOf f p).S[i]! = sttOf f.S[i]! p := by
  simp only [prodOf]
  rw [getElem!_pos (f.S.map fun x => sttOf x p) i (by simpa using hi), getElem!_pos f.S i hi, List.getElem_map]
theorem stt_X {x : Plan} {p a : Nat} (h : a < x.X.length) : (sttOf x p).X[a]! = nextOf x.X[a]! p := by
  simp only [sttOf]
  rw [getElem!_pos (x.X.map fun l => nextOf l p) a (by simpa using h), getElem!_pos x.X a h, List.getElem_map]
/-- what is known of a plan of a valid family -/
theorem PlanOk.disj {x : Plan} {n st pr : Nat} (h : PlanOk x n st pr) (hpr : pr ≤ 32) {a : Nat} (ha : a < x.X.length) : x.X[a]!.Pairwise Apart := by
  obtain ⟨h1, h2⟩ := h.nxt a ha
  exact (disj_iff (choOk_W hpr h1).m).1 h2
theorem stt_ok {x : Plan} {n st pr p : Nat} (h : PlanOk x n st pr) (hn : n ≤ 8) (hpr : pr ≤ 32) : SttOk (sttOf x p) st n := by
  obtain ⟨hA, hAp⟩ := choOk_iff.1 h.acc
  have hAN : ∀ i < (sttOf x p).A.length, ∃ c ∈ x.A, c.W.toNat.testBit p = true ∧ c.N = (sttOf x p).A[i]! := fun i hi => mem_chosen.1 (getMem hi)
  refine ⟨by simp only [sttOf, List.length_map]; exact h.len, fun i hi => ?_, fun i hi h0 => pw_last (chosen_pw hAp) hi h0, fun a ha => ?_, fun i hi a ha hb => ?_⟩
  · obtain ⟨c, hc, _, e⟩ := hAN i hi
    have := (hA c hc).1
    rw [decide_eq_true_eq] at this
    rw [← e]; exact this
  · have hax : a < x.X.length := by rw [h.len]; exact ha
    rw [stt_X hax]
    rcases @next_mem x.X[a]! p with ⟨e, _⟩ | e
    · omega
    · obtain ⟨c, hc, _, e2⟩ := mem_chosen.1 e
      have := ((choOk_iff.1 (h.nxt a hax).1).1 c hc).1
      rw [decide_eq_true_eq] at this
      omega
  · have hax : a < x.X.length := by rw [h.len]; exact ha
    obtain ⟨c, hc, hcb, e⟩ := hAN i hi
    obtain ⟨j, hj, ej⟩ := List.mem_iff_getElem.1 hc
    have h1 := h.has j hj a ha (by rw [getElem!_pos x.A j hj, ej, e]; exact hb)
    rw [getElem!_pos x.A j hj, ej] at h1
    have hw := (choOk_W hpr (h.nxt a hax).1).m
    obtain ⟨w, hw1, hw2⟩ := (choOk_W hpr h.acc).m c hc
    obtain ⟨o1, o2⟩ := orAll_nat hw
    rw [hw1, o1] at h1
    have h2 := (bandn_zero (show w < 2 ^ 63 by omega) (show orN x.X[a]! < 2 ^ 63 by omega)).1 h1 p (by rw [hw1, Int.toNat_natCast] at hcb; exact hcb)
    obtain ⟨d, hd, hdb⟩ := orN_test.1 h2
    rw [stt_X hax, next_of (h.disj hpr hax) hd hdb]
    have := ((choOk_iff.1 (h.nxt a hax).1).1 d hd).1
    rw [decide_eq_true_eq] at this
    exact this.1
theorem prod_ok {f : Fam} (h : FamOk f) (p : Nat) : SpcOk (prodOf f p) := by
  have h8 := actsOk_len h.acts
  refine ⟨h.acts, by simp only [prodOf, List.length_map]; exact h.s1, by simp only [prodOf, List.length_map]; exact h.s2, fun i hi => ?_⟩
  simp only [prodOf, List.length_map] at hi
  rw [prod_st hi]
  have := stt_ok (p := p) (h.plan i hi) h8 (by have := h.p2; omega)
  simpa only [prodOf, List.length_map] using this
theorem SpcOk.b {s : Spc} (h : SpcOk s) (hz : SpSz s) : SpB s := by
  have h8 := actsOk_len h.acts
  refine ⟨hz.s, fun i hi => ⟨fun j hj => ?_, fun j hj => ?_, (hz.x i hi).1, (hz.x i hi).2⟩⟩
  · have := (h.st i hi).a j hj
    have h28 : 2 ^ s.acts.length ≤ 2 ^ 8 := Nat.pow_le_pow_right (by omega) h8
    omega
  · exact ((h.st i hi).x j (by rw [← (h.st i hi).len]; exact hj)).2
theorem SpcOk.x8 {s : Spc} (h : SpcOk s) : ∀ i < s.S.length, s.S[i]!.X.length ≤ 8 := fun i hi => by
  rw [(h.st i hi).len]; exact actsOk_len h.acts
open Classical in
/-- is a product satisfied?, is it not hollow? -/
noncomputable def satP (m : Sys) (f : Fam) (p : Nat) : Bool := decide (Sat m (prodOf f p))
open Classical in
noncomputable def fullP (f : Fam) (p : Nat) : Bool := !decide (Hol (prodOf f p) 0)
open Classical in
theorem holL_zero {s : Spc} (h : 1 ≤ s.S.length) : (holL s)[0]! = decide (Hol s 0) := by
  unfold holL; rw [mapR_get (by omega)]
open Classical in
theorem satisfiedR_ok (m : Sys) (hm : SysOk m) (hmz : SySz m) (f : Fam) (hf : FamOk f) (hfz : FSz f) (he : m.acts = f.acts) : FnT G f_makeweightref16_Satisfied [eSys m, eF f] (I (bitsN (satP m f) f.P.toNat : Nat)) := by
  obtain ⟨P, hP⟩ : ∃ P : Nat, f.P = P := ⟨f.P.toNat, by have := hf.p1; omega⟩
  have hP32 : P ≤ 32 := by have := hf.p2; omega
  refine FnP.mk' g_makeweightref16_Satisfied rfl rfl ?_
  simp only [go_sem, ↓reduceIte, ↓guardT_tt, ↓guardT_tf, ↓guardT_ft, ↓guardT_ff, ↓condT_t, ↓condT_f, c_makeweightref16_Satisfied, eSys, eF, hP]
  refine wp_loopQ (fun (i : Nat) σ => i ≤ P ∧ σ = ⟨aT .undef 23 [(2, .ptr 0 1 [] 0 0 0), (3, .ptr 1 1 [] 0 0 0), (5, I (bitsN (satP m f) i : Nat)), (8, I P), (9, I i)],
    [⟨1, 0, .own 2 [.agg [.lst (m.acts.map .str), .lst (m.S.map eEs)]]⟩, ⟨1, 0, .own 3 [.agg [.lst (f.acts.map .str), I P, .lst (f.S.map eP)]]⟩], []⟩) (fun i => P - i) ?_ 0 ?_
  · rintro i σ ⟨hi, rfl⟩ N Q hQ hN
    by_cases hlt : i < P
    · have hso := prod_ok hf i
      have hsz := prodOf_sz hfz i
      have hcall : ∀ {roots : List Nat} {b : Nat} {ss : List Nat} {σ : St} {k : AV → St → Prop}, callT G f_makeweightref16_Product [.agg [.lst (f.acts.map .str), I P, .lst (f.S.map eP)], I i] true roots b ss σ k = k (eSp (prodOf f i)) σ := by
        rw [← hP]; exact prodR_r hfz hf.w
      simp only [go_sem, ↓reduceIte, ↓guardT_tt, ↓guardT_tf, ↓guardT_ft, ↓guardT_ff, ↓condT_t, ↓condT_f, Int.ofNat_lt, hlt, wrap_succ hlt (by omega), hcall, eSp, satR_r hm hmz hso hsz (by rw [he]; rfl)]
      refine ⟨fun h => hN (i + 1) _ (by omega) ⟨by omega, ?_⟩, fun h => hN (i + 1) _ (by omega) ⟨by omega, ?_⟩⟩
      · simp only [go_sem, ↓reduceIte, ↓guardT_tt, ↓guardT_tf, ↓guardT_ft, ↓guardT_ff, ↓condT_t, ↓condT_f, bitsN_succ, satP, decide_eq_true h, bshl_one (show i ≤ 62 by omega), bitsN_bor (show i ≤ 32 by omega)]
      · simp only [go_sem, ↓reduceIte, ↓guardT_tt, ↓guardT_tf, ↓guardT_ft, ↓guardT_ff, ↓condT_t, ↓condT_f, bitsN_succ, satP, decide_eq_false h]
    · have hil : i = P := by omega
      subst hil hQ
      simp only [go_sem, ↓reduceIte, ↓guardT_tt, ↓guardT_tf, ↓guardT_ft, ↓guardT_ff, ↓condT_t, ↓condT_f, Int.ofNat_lt, hlt]
      rw [show f.P.toNat = i by omega]
  · exact ⟨by omega, by simp only [go_sem, ↓reduceIte, ↓guardT_tt, ↓guardT_tf, ↓guardT_ft, ↓guardT_ff, ↓condT_t, ↓condT_f, bitsN]⟩
open Classical in
theorem fullR_ok (f : Fam) (hf : FamOk f) (hfz : FSz f) : FnT G f_makeweightref16_Full [eF f] (I (bitsN (fullP f) f.P.toNat : Nat)) := by
  obtain ⟨P, hP⟩ : ∃ P : Nat, f.P = P := ⟨f.P.toNat, by have := hf.p1; omega⟩
  have hP32 : P ≤ 32 := by have := hf.p2; omega
  refine FnP.mk' g_makeweightref16_Full rfl rfl ?_
  simp only [go_sem, ↓reduceIte, ↓guardT_tt, ↓guardT_tf, ↓guardT_ft, ↓guardT_ff, ↓condT_t, ↓condT_f, c_makeweightref16_Full, eF, hP]
  refine wp_loopQ (fun (i : Nat) σ => i ≤ P ∧ σ = ⟨aT .undef 23 [(1, .ptr 0 1 [] 0 0 0), (3, I (bitsN (fullP f) i : Nat)), (6, I P), (7, I i)],
    [⟨1, 0, .own 3 [.agg [.lst (f.acts.map .str), I P, .lst (f.S.map eP)]]⟩], []⟩) (fun i => P - i) ?_ 0 ?_
  · rintro i σ ⟨hi, rfl⟩ N Q hQ hN
    by_cases hlt : i < P
    · have hso := prod_ok hf i
      have hsz := prodOf_sz hfz i
      have hs1 := hso.s1
      have hcall : ∀ {roots : List Nat} {b : Nat} {ss : List Nat} {σ : St} {k : AV → St → Prop}, callT G f_makeweightref16_Product [.agg [.lst (f.acts.map .str), I P, .lst (f.S.map eP)], I i] true roots b ss σ k = k (eSp (prodOf f i)) σ := by
        rw [← hP]; exact prodR_r hfz hf.w
      have hlen : (holL (prodOf f i)).length = (prodOf f i).S.length := by simp [holL]
      have h0 : 0 < (holL (prodOf f i)).length := by omega
      simp only [go_sem, ↓reduceIte, ↓guardT_tt, ↓guardT_tf, ↓guardT_ft, ↓guardT_ff, ↓condT_t, ↓condT_f, Int.ofNat_lt, hlt, wrap_succ hlt (by omega), hcall, eSp, hollowR_r (hso.b hsz), h0, holL_zero hs1]
      refine ⟨fun h => hN (i + 1) _ (by omega) ⟨by omega, ?_⟩, fun h => hN (i + 1) _ (by omega) ⟨by omega, ?_⟩⟩
      · simp only [go_sem, ↓reduceIte, ↓guardT_tt, ↓guardT_tf, ↓guardT_ft, ↓guardT_ff, ↓condT_t, ↓condT_f, bitsN_succ, fullP, decide_eq_false h, bshl_one (show i ≤ 62 by omega), bitsN_bor (show i ≤ 32 by omega)]
      · simp only [go_sem, ↓reduceIte, ↓guardT_tt, ↓guardT_tf, ↓guardT_ft, ↓guardT_ff, ↓condT_t, ↓condT_f, bitsN_succ, fullP, decide_eq_true h]
    · have hil : i = P := by omega
      subst hil hQ
      simp only [go_sem, ↓reduceIte, ↓guardT_tt, ↓guardT_tf, ↓guardT_ft, ↓guardT_ff, ↓condT_t, ↓condT_f, Int.ofNat_lt, hlt]
      rw [show f.P.toNat = i by omega]
  · exact ⟨by omega, by simp only [go_sem, ↓reduceIte, ↓guardT_tt, ↓guardT_tf, ↓guardT_ft, ↓guardT_ff, ↓condT_t, ↓condT_f, bitsN]⟩
open Classical in
theorem full1_ok (f : Fam) (hf : FamOk f) (hfz : FSz f) (p : Nat) : FnT G f_family_Full_1 [I p, .pfro [.lst (f.acts.map .str), I f.P, .lst (f.S.map eP)]] (Bo (fullP f p)) := by
  have hso := prod_ok hf p
  have hsz := prodOf_sz hfz p
  have hs1 := hso.s1
  have hlen : (holL (prodOf f p)).length = (prodOf f p).S.length := by simp [holL]
  have h0 : 0 < (holL (prodOf f p)).length := by omega
  refine FnP.mk' g_family_Full_1 rfl rfl ?_
  simp only [go_sem, ↓reduceIte, ↓guardT_tt, ↓guardT_tf, ↓guardT_ft, ↓guardT_ff, ↓condT_t, ↓condT_f, c_family_Full_1, single_r hfz hf.w, eSp, hollows_r (hso.b hsz) hso.x8, h0, holL_zero hs1]
  rfl
open Classical in
/-- what is answered -/
noncomputable def fullA (f : Fam) : Int × Int := if FamOk f then ((bitsN (fullP f) f.P.toNat : Nat), 0) else (0, 160)
open Classical in
theorem full_ok (f : Fam) (hfz : FSz f) : FnT G f_family_Full [eF f] (.tup [I (fullA f).1, I (fullA f).2]) := by
  refine FnP.mk' g_family_Full rfl rfl ?_
  simp only [go_sem, ↓reduceIte, ↓guardT_tt, ↓guardT_tf, ↓guardT_ft, ↓guardT_ff, ↓condT_t, ↓condT_f, c_family_Full, eF, fam_r hfz]
  by_cases hf : FamOk f
  · obtain ⟨P, hP⟩ : ∃ P : Nat, f.P = P := ⟨f.P.toNat, by have := hf.p1; omega⟩
    have hP32 : P ≤ 32 := by have := hf.p2; omega
    have hcall : ∀ {fr : Bool} {roots : List Nat} {b : Nat} {ss : List Nat} {σ : St} {k : AV → St → Prop}, callT G f_family_which [I P, .fn f_family_Full_1 [.pfro [.lst (f.acts.map .str), I P, .lst (f.S.map eP)]]] fr roots b ss σ k = k (I (bitsN (fullP f) P : Nat)) σ :=
      (which_ok P hP32 f_family_Full_1 [.pfro [.lst (f.acts.map .str), I P, .lst (f.S.map eP)]] (fullP f) pure_family_Full_1 (fun h => rfl) (fun a ha => by rw [← hP]; exact full1_ok f hf hfz a)).rule
    simp only [go_sem, ↓reduceIte, ↓guardT_tt, ↓guardT_tf, ↓guardT_ft, ↓guardT_ff, ↓condT_t, ↓condT_f, hf, fullA, hP, hcall, Int.toNat_natCast]
  · simp only [go_sem, ↓reduceIte, ↓guardT_tt, ↓guardT_tf, ↓guardT_ft, ↓guardT_ff, ↓condT_t, ↓condT_f, hf, fullA]
end Go.Mw

/- Maps: rules for walks. -/
namespace Go.Mw
set_option linter.unusedVariables false
set_option linter.unusedSimpArgs false
set_option maxRecDepth 100000
abbrev KV := (Int × Int) × AV
def eKV (e : KV) : AV × AV := (.agg [I e.1.1, I e.1.2], e.2)
/-- a map from pairs of numbers -/
def entsE (l : List KV) : List (AV × AV) := l.map eKV
def hasM (l : List KV) (k : Int × Int) : Bool := l.any fun e => e.1 == k
def idxM (l : List KV) (k : Int × Int) : Nat := (l.findIdx? fun e => e.1 == k).getD l.length
def lookM (l : List KV) (k : Int × Int) (z : AV) : AV := match l.find? fun e => e.1 == k with | some e => e.2 | none => z
/-- an entry is there -/
def ensM (l : List KV) (k : Int × Int) (z : AV) : List KV := if hasM l k then l else l ++ [(k, z)]
def setIM : List KV → Nat → AV → List KV
  | [], _, _ => []
  | e :: l, 0, v => (e.1, v) :: l
  | e :: l, i + 1, v => e :: setIM l i v
def putM (l : List KV) (k : Int × Int) (v : AV) : List KV := setIM (ensM l k v) (idxM l k) v
theorem findK_E {l : List KV} {a b : Int} : findK (true, [1, 1]) (.agg [I a, I b]) (entsE l) = some (l.findIdx? fun e => e.1 == (a, b)) := by
  have hk : (keyEq (true, [1, 1]) (.agg [I a, I b]) (.agg [I a, I b])).isSome = true ∧ (AV.agg [I a, I b]).k64 = true := by
    simp [keyEq, eqCells, eqCell, AV.k64, AV.c64]
  have key : ∀ (l : List KV) (n : Nat), findKey (true, [1, 1]) (.agg [I a, I b]) (entsE l) n = some ((l.findIdx? fun e => e.1 == (a, b)).map (· + n)) := by
    intro l
    induction l with
    | nil => intro n; rfl
    | cons e l ih =>
      intro n
      obtain ⟨⟨c, d⟩, v⟩ := e
      simp only [entsE, List.map_cons, eKV, findKey]
      have he : keyEq (true, [1, 1]) (.agg [I a, I b]) (.agg [I c, I d]) = some ((c, d) == (a, b)) := by
        simp only [keyEq, eqCells, eqCell, if_true]
        have e1 : (a == c) = (c == a) := Bool.beq_comm
        have e2 : (b == d) = (d == b) := Bool.beq_comm
        have e3 : ((c, d) == (a, b)) = ((c == a) && (d == b)) := rfl
        rw [e1, e2, e3]
        cases (c == a) <;> cases (d == b) <;> rfl
      rw [he, List.findIdx?_cons]
      cases hb : ((c, d) == (a, b)) with
      | true => simp
      | false =>
        simp only [Bool.false_eq_true, if_false]
        have := ih (n + 1)
        unfold entsE at this
        rw [this, Option.map_map]
        congr 2
        funext i
        simp; omega
  rw [findK, if_pos hk, key l 0]
  simp
theorem idx_lt {l : List KV} {k : Int × Int} {i : Nat} (h : (l.findIdx? fun e => e.1 == k) = some i) : ∃ hi : i < l.length, l[i].1 = k := by
  obtain ⟨h1, h2, _⟩ := List.findIdx?_eq_some_iff_getElem.1 h
  exact ⟨h1, by simpa using h2⟩
theorem find_idx {l : List KV} {k : Int × Int} : (l.find? fun e => e.1 == k) = match l.findIdx? fun e => e.1 == k with | some i => l[i]? | none => none := by
  induction l with
  | nil => rfl
  | cons e l ih =>
    rw [List.find?_cons, List.findIdx?_cons]
    cases hb : (e.1 == k) with
    | true => simp
    | false =>
      simp only [Bool.false_eq_true, if_false, ih]
      cases l.findIdx? fun e => e.1 == k <;> simp
theorem has_idx {l : List KV} {k : Int × Int} : hasM l k = (l.findIdx? fun e => e.1 == k).isSome := by
  unfold hasM
  rw [List.findIdx?_isSome]
section
variable {G : Prg} {b : Nat} {σ : St} {k : AV → St → Prop}
def ownmK (x : AV) (k : List (AV × AV) → Prop) (u : Tg k := tg) : Prop := match x with | .ownm es => k es | _ => False
theorem ownmK_congr {k : List (AV × AV) → Prop} {x x' : AV} (h0 : x = x') : ownmK x k = ownmK x' k := by cases h0; rfl
theorem ownmK_ownm {es : List (AV × AV)} {q : List (AV × AV) → Prop} : ownmK (.ownm es) q = q es := (rfl)
/-- a lookup -/
def lokK (kk : KK) (z : AV) (ok : Bool) (m x : AV) (h : List Ob) (k : AV → Prop) (u : Tg k := tg) : Prop :=
  match (match m with | .nilm => some [] | .mp r st p ss => (match p, node h r st p ss with | [], some (.ownm es) => some es | _, _ => none) | _ => none : Option (List (AV × AV))) with
  | some es => (match findK kk x es with
    | some (some i) => (match es[i]? with | some (_, v) => k (if ok then .tup [v, .bool true] else v) | none => False)
    | some none => k (if ok then .tup [z, .bool false] else z)
    | none => False)
  | none => False
theorem lokK_congr {kk : KK} {z : AV} {ok : Bool} {m m' x x' : AV} {h h' : List Ob} {k : AV → Prop} (h0 : m = m') (h1 : x = x') (h2 : h = h') : lokK kk z ok m x h k = lokK kk z ok m' x' h' k := by cases h0; cases h1; cases h2; rfl
attribute [congr] ownmK_congr lokK_congr
theorem wpI_lok {kk : KK} {z : AV} {ok : Bool} {m x : Opd} : wpI G (.lok kk z ok m x) b σ k = lokK kk z ok (σ.get m) (σ.get x) σ.h (fun v => k v σ) := by
  have key : ∀ es : Option (List (AV × AV)), (stepK (match es with
      | some es => match findK kk (σ.get x) es with
        | some (some i) => match es[i]? with
          | some (_, v) => some (if ok then .tup [v, .bool true] else v, σ.h)
          | none => none
        | some none => some (if ok then .tup [z, .bool false] else z, σ.h)
        | none => none
      | none => none) (fun v h => k v { σ with h })) = (match es with
      | some es => (match findK kk (σ.get x) es with
        | some (some i) => (match es[i]? with | some (_, v) => k (if ok then .tup [v, .bool true] else v) σ | none => False)
        | some none => k (if ok then .tup [z, .bool false] else z) σ
        | none => False)
      | none => False) := by
    intro es
    cases es with
    | none => rfl
    | some es =>
      simp only
      cases findK kk (σ.get x) es with
      | none => rfl
      | some o =>
        cases o with
        | none => rfl
        | some i =>
          simp only
          cases es[i]? with
          | none => rfl
          | some e => obtain ⟨a, v⟩ := e; rfl
  simp only [wpI, ax, lokK]
  cases σ.get m <;> first | exact key none | exact key (some []) | skip
  rename_i r st p ss
  cases p with
  | cons a p => exact key none
  | nil =>
    simp only
    cases node σ.h r st [] ss with
    | none => exact key none
    | some nd => cases nd <;> first | exact key none | exact key (some _)
def lokE (kk : KK) (z : AV) (ok : Bool) (x : AV) (es : List (AV × AV)) (k : AV → Prop) (u : Tg k := tg) : Prop :=
  match findK kk x es with
  | some (some i) => (match es[i]? with | some (_, v) => k (if ok then .tup [v, .bool true] else v) | none => False)
  | some none => k (if ok then .tup [z, .bool false] else z)
  | none => False
theorem lokE_congr {kk : KK} {z : AV} {ok : Bool} {x x' : AV} {es es' : List (AV × AV)} {k : AV → Prop} (h0 : x = x') (h1 : es = es') : lokE kk z ok x es k = lokE kk z ok x' es' k := by cases h0; cases h1; rfl
attribute [congr] lokE_congr
theorem lokK_mp {kk : KK} {z : AV} {ok : Bool} {x : AV} {h : List Ob} {r st ss : Nat} {q : AV → Prop} : lokK kk z ok (.mp r st [] ss) x h q = nodeK h r st [] ss (fun nd => ownmK nd (fun es => lokE kk z ok x es q)) := by
  simp only [lokK, nodeK, ownmK, lokE]
  cases node h r st [] ss with
  | none => rfl
  | some nd => cases nd <;> rfl
theorem lokE_E {z : AV} {ok : Bool} {a c : Int} {l : List KV} {q : AV → Prop} : lokE (true, [1, 1]) z ok (.agg [I a, I c]) (entsE l) q = q (if ok then .tup [lookM l (a, c) z, Bo (hasM l (a, c))] else lookM l (a, c) z) := by
  simp only [lokE, findK_E, lookM, find_idx, has_idx]
  cases h : l.findIdx? fun e => e.1 == (a, c) with
  | none => rfl
  | some i =>
    obtain ⟨hi, _⟩ := idx_lt h
    simp only [entsE, List.getElem?_map, List.getElem?_eq_getElem hi, Option.map_some, eKV, Option.isSome_some]
/-- an entry is made or given anew -/
def mupK (kk : KK) (m x v : AV) (h : List Ob) (k : List Ob → Prop) (u : Tg k := tg) : Prop :=
  match m with
  | .mp r st p ss => (match node h r st p ss with
    | some (.ownm es) => if v.free = true ∧ x.free = true then (match findK kk x es with
      | some (some i) => (match es[i]? with
        | some (k', _) => (match setOb h r p (.ownm (es.set i (k', v))) false with | some h' => k h' | none => False)
        | none => False)
      | some none => (match setOb h r p (.ownm (es ++ [(x, v)])) false with | some h' => k h' | none => False)
      | none => False) else False
    | _ => False)
  | _ => False
theorem mupK_congr {kk : KK} {m m' x x' v v' : AV} {h h' : List Ob} {k : List Ob → Prop} (h0 : m = m') (h1 : x = x') (h2 : h = h') (h3 : v = v') : mupK kk m x v h k = mupK kk m' x' v' h' k := by cases h0; cases h1; cases h2; cases h3; rfl
attribute [congr] mupK_congr
theorem wpI_mup {kk : KK} {m x v : Opd} : wpI G (.mup kk m x v) b σ k = mupK kk (σ.get m) (σ.get x) (σ.get v) σ.h (fun h => k .undef { σ with h }) := by
  simp only [wpI, ax, mupK]
  cases σ.get m <;> first | rfl | skip
  rename_i r st p ss
  simp only
  cases node σ.h r st p ss with
  | none => rfl
  | some nd =>
    cases nd <;> first | rfl | skip
    rename_i es
    simp only
    split
    · cases findK kk (σ.get x) es with
      | none => rfl
      | some o =>
        cases o with
        | none => simp only; cases setOb σ.h r p (.ownm (es ++ [(σ.get x, σ.get v)])) false <;> rfl
        | some i =>
          simp only
          cases es[i]? with
          | none => rfl
          | some e => obtain ⟨a, w⟩ := e; simp only; cases setOb σ.h r p (.ownm (es.set i (a, σ.get v))) false <;> rfl
    · rfl
theorem setIM_E {l : List KV} {i : Nat} {v : AV} {kv : AV × AV} (h : (entsE l)[i]? = some kv) : (entsE l).set i (kv.1, v) = entsE (setIM l i v) := by
  induction l generalizing i with
  | nil => simp [entsE] at h
  | cons e l ih =>
    cases i with
    | zero => simp [entsE] at h; subst h; rfl
    | succ i =>
      have := ih (i := i) (by simpa [entsE] using h)
      simp only [entsE, setIM, List.map_cons, List.set_cons_succ] at this ⊢
      rw [this]
theorem mupK_mp {x v : AV} {a c : Int} {h : List Ob} {r st ss : Nat} {q : List Ob → Prop} : mupK (true, [1, 1]) (.mp r st [] ss) (.agg [I a, I c]) v h q =
    nodeK h r st [] ss (fun nd => ownmK nd (fun es => v.free = true ∧ obK h[r]? (fun o => (match findK (true, [1, 1]) (.agg [I a, I c]) es with
      | some (some i) => (match es[i]? with | some (k', _) => q (h.set r ⟨o.st, o.ss, .ownm (es.set i (k', v))⟩) | none => False)
      | some none => q (h.set r ⟨o.st, o.ss, .ownm (es ++ [(.agg [I a, I c], v)])⟩)
      | none => False)))) := by
  simp only [mupK, nodeK, ownmK]
  have hf : (AV.agg [I a, I c]).free = true := rfl
  cases hn : node h r st [] ss with
  | none => rfl
  | some nd =>
    cases nd <;> first | rfl | skip
    rename_i es
    simp only [hf, and_true]
    by_cases hv : v.free = true
    · simp only [hv, if_true, true_and]
      cases hr : h[r]? with
      | none => simp [node, hr] at hn
      | some o =>
        have hs : ∀ w, setOb h r [] w false = some (h.set r ⟨o.st, o.ss, w⟩) := fun w => by simp [setOb, hr, upd]
        simp only [hs, obK]
    · simp [hv]
def mupE (a c : Int) (v : AV) (h : List Ob) (r st ss : Nat) (es : List (AV × AV)) (k : List Ob → Prop) (u : Tg k := tg) : Prop :=
  match findK (true, [1, 1]) (.agg [I a, I c]) es with
  | some (some i) => (match es[i]? with | some (k', _) => k (h.set r ⟨st, ss, .ownm (es.set i (k', v))⟩) | none => False)
  | some none => k (h.set r ⟨st, ss, .ownm (es ++ [(.agg [I a, I c], v)])⟩)
  | none => False
theorem mupE_congr {a c : Int} {v v' : AV} {h h' : List Ob} {r st ss : Nat} {es es' : List (AV × AV)} {k : List Ob → Prop} (h0 : v = v') (h1 : h = h') (h2 : es = es') : mupE a c v h r st ss es k = mupE a c v' h' r st ss es' k := by cases h0; cases h1; cases h2; rfl
attribute [congr] mupE_congr
theorem mupK_mp' {v : AV} {a c : Int} {h : List Ob} {r st ss : Nat} {q : List Ob → Prop} : mupK (true, [1, 1]) (.mp r st [] ss) (.agg [I a, I c]) v h q =
    nodeK h r st [] ss (fun nd => ownmK nd (fun es => v.free = true ∧ obK h[r]? (fun o => mupE a c v h r o.st o.ss es q))) := mupK_mp (x := v)
theorem setIM_app {l : List KV} {e : KV} {v : AV} : setIM (l ++ [e]) l.length v = l ++ [(e.1, v)] := by
  induction l with
  | nil => rfl
  | cons x l ih => simp only [List.cons_append, List.length_cons, setIM, ih]
theorem ens_none {l : List KV} {k : Int × Int} {z v : AV} (h : (l.findIdx? fun e => e.1 == k) = none) : setIM (ensM l k z) (idxM l k) v = l ++ [(k, v)] := by
  have h1 : hasM l k = false := by rw [has_idx, h]; rfl
  simp only [ensM, h1, Bool.false_eq_true, if_false, idxM, h, Option.getD_none]
  exact setIM_app
theorem mupE_E {a c : Int} {v : AV} {h : List Ob} {r st ss : Nat} {l : List KV} {q : List Ob → Prop} : mupE a c v h r st ss (entsE l) q = q (h.set r ⟨st, ss, .ownm (entsE (putM l (a, c) v))⟩) := by
  simp only [mupE, findK_E]
  cases hf : l.findIdx? fun e => e.1 == (a, c) with
  | none =>
    have := @ens_none l (a, c) v v hf
    simp only [putM, this]
    simp [entsE, eKV]
  | some i =>
    obtain ⟨hi, _⟩ := idx_lt hf
    have hs : hasM l (a, c) = true := by rw [has_idx, hf]; rfl
    have hg : (entsE l)[i]? = some (eKV l[i]) := by simp [entsE, hi]
    simp only [hg]
    simp only [putM, ensM, hs, if_true, idxM, hf, Option.getD_some]
    rw [← setIM_E hg]
/-- an entry is made if there is none -/
def menE (a c : Int) (z : AV) (h : List Ob) (r st ss ss0 : Nat) (es : List (AV × AV)) (k : AV → List Ob → Prop) (u : Tg k := tg) : Prop :=
  match findK (true, [1, 1]) (.agg [I a, I c]) es with
  | some (some i) => (match es[i]? with | some (_, v) => k (.tup [v, .ent r st [] ss0 i]) (h.set r ⟨st, ss, .ownm es⟩) | none => False)
  | some none => k (.tup [z, .ent r st [] ss0 es.length]) (h.set r ⟨st, ss, .ownm (es ++ [(.agg [I a, I c], z)])⟩)
  | none => False
theorem menE_congr {a c : Int} {z : AV} {h h' : List Ob} {r st ss ss0 : Nat} {es es' : List (AV × AV)} {k : AV → List Ob → Prop} (h1 : h = h') (h2 : es = es') : menE a c z h r st ss ss0 es k = menE a c z h' r st ss ss0 es' k := by cases h1; cases h2; rfl
def menK (kk : KK) (z m x : AV) (h : List Ob) (k : AV → List Ob → Prop) (u : Tg k := tg) : Prop :=
  match m with
  | .mp r st p ss => (match p, node h r st p ss with
    | [], some (.ownm es) => if x.free = true ∧ z.free = true then (match findK kk x es with
      | some (some i) => (match es[i]? with | some (_, v) => k (.tup [v, .ent r st p ss i]) h | none => False)
      | some none => (match setOb h r p (.ownm (es ++ [(x, z)])) false with | some h' => k (.tup [z, .ent r st p ss es.length]) h' | none => False)
      | none => False) else False
    | _, _ => False)
  | _ => False
theorem menK_congr {kk : KK} {z m m' x x' : AV} {h h' : List Ob} {k : AV → List Ob → Prop} (h0 : m = m') (h1 : x = x') (h2 : h = h') : menK kk z m x h k = menK kk z m' x' h' k := by cases h0; cases h1; cases h2; rfl
attribute [congr] menE_congr menK_congr
theorem wpI_men {kk : KK} {z : AV} {m x : Opd} : wpI G (.men kk z m x) b σ k = menK kk z (σ.get m) (σ.get x) σ.h (fun v h => k v { σ with h }) := by
  simp only [wpI, ax, menK]
  cases σ.get m <;> first | rfl | skip
  rename_i r st p ss
  simp only
  cases p with
  | cons a p => cases node σ.h r st (a :: p) ss <;> rfl
  | nil =>
    cases node σ.h r st [] ss with
    | none => rfl
    | some nd =>
      cases nd <;> first | rfl | skip
      rename_i es
      simp only
      split
      · cases findK kk (σ.get x) es with
        | none => rfl
        | some o =>
          cases o with
          | none => simp only; cases setOb σ.h r [] (.ownm (es ++ [(σ.get x, z)])) false <;> rfl
          | some i =>
            simp only
            cases es[i]? with
            | none => rfl
            | some e => obtain ⟨a, w⟩ := e; rfl
      · rfl
theorem menK_mp {z : AV} {a c : Int} {h : List Ob} {r st ss : Nat} {q : AV → List Ob → Prop} : menK (true, [1, 1]) z (.mp r st [] ss) (.agg [I a, I c]) h q =
    nodeK h r st [] ss (fun nd => ownmK nd (fun es => z.free = true ∧ obK h[r]? (fun o => menE a c z h r o.st o.ss ss es q))) := by
  simp only [menK, nodeK, ownmK, menE]
  have hf : (AV.agg [I a, I c]).free = true := rfl
  cases hn : node h r st [] ss with
  | none => rfl
  | some nd =>
    cases nd <;> first | rfl | skip
    rename_i es
    simp only [hf, true_and]
    by_cases hv : z.free = true
    · simp only [hv, if_true, true_and]
      cases hr : h[r]? with
      | none => simp [node, hr] at hn
      | some o =>
        have hst : o.st = st ∧ o.c = .ownm es := by
          simp only [node, hr] at hn
          split at hn
          · rename_i hc; simp only [nav, Option.some.injEq] at hn; exact ⟨hc.1, hn⟩
          · cases hn
        have hset : h.set r ⟨st, o.ss, .ownm es⟩ = h := by
          apply List.ext_getElem?
          intro j
          rw [List.getElem?_set]
          split
          · rename_i e; subst e; rw [hr]; simp only [(List.getElem?_eq_some_iff.1 hr).1, if_true, Option.some.injEq]
            obtain ⟨a, b, c⟩ := o; simp only at hst; obtain ⟨rfl, rfl⟩ := hst; rfl
          · rfl
        have hs : ∀ w, setOb h r [] w false = some (h.set r ⟨o.st, o.ss, w⟩) := fun w => by simp [setOb, hr, upd]
        simp only [hs, obK, hst.1, hset]
    · simp [hv]
theorem menE_E {a c : Int} {z : AV} {h : List Ob} {r st ss ss0 : Nat} {l : List KV} {q : AV → List Ob → Prop} : menE a c z h r st ss ss0 (entsE l) q = q (.tup [lookM l (a, c) z, .ent r st [] ss0 (idxM l (a, c))]) (h.set r ⟨st, ss, .ownm (entsE (ensM l (a, c) z))⟩) := by
  simp only [menE, findK_E, lookM, find_idx, ensM, has_idx, idxM]
  cases hf : l.findIdx? fun e => e.1 == (a, c) with
  | none => simp [entsE, eKV]
  | some i =>
    obtain ⟨hi, _⟩ := idx_lt hf
    have hg : (entsE l)[i]? = some (eKV l[i]) := by simp [entsE, hi]
    simp only [hg, eKV, Option.isSome_some, if_true, Option.getD_some, List.getElem?_eq_getElem hi]
/-- an entry is given a value -/
def estK (m s v : AV) (h : List Ob) (k : List Ob → Prop) (u : Tg k := tg) : Prop :=
  match m, s with
  | .mp r st p ss, .ent r' st' p' ss' i => if r' = r ∧ st' = st ∧ p' = p ∧ ss' = ss ∧ v.free = true then (match node h r st p ss with
    | some (.ownm es) => (match es[i]? with
      | some (k', _) => (match setOb h r p (.ownm (es.set i (k', v))) false with | some h' => k h' | none => False)
      | none => False)
    | _ => False) else False
  | _, _ => False
theorem estK_congr {m m' s s' v v' : AV} {h h' : List Ob} {k : List Ob → Prop} (h0 : m = m') (h1 : s = s') (h2 : h = h') (h3 : v = v') : estK m s v h k = estK m' s' v' h' k := by cases h0; cases h1; cases h2; cases h3; rfl
attribute [congr] estK_congr
theorem wpI_est {m s v : Opd} : wpI G (.est m s v) b σ k = estK (σ.get m) (σ.get s) (σ.get v) σ.h (fun h => k .undef { σ with h }) := by
  simp only [wpI, ax, estK]
  cases σ.get m <;> cases σ.get s <;> first | rfl | skip
  rename_i r st p ss r' st' p' ss' i
  simp only
  split
  · cases node σ.h r st p ss with
    | none => rfl
    | some nd =>
      cases nd <;> first | rfl | skip
      rename_i es
      simp only
      cases es[i]? with
      | none => rfl
      | some e => obtain ⟨a, w⟩ := e; simp only; cases setOb σ.h r p (.ownm (es.set i (a, σ.get v))) false <;> rfl
  · rfl
def estE (i : Nat) (v : AV) (h : List Ob) (r st ss : Nat) (es : List (AV × AV)) (k : List Ob → Prop) (u : Tg k := tg) : Prop :=
  match es[i]? with
  | some (k', _) => k (h.set r ⟨st, ss, .ownm (es.set i (k', v))⟩)
  | none => False
theorem estE_congr {i : Nat} {v v' : AV} {h h' : List Ob} {r st ss : Nat} {es es' : List (AV × AV)} {k : List Ob → Prop} (h0 : v = v') (h1 : h = h') (h2 : es = es') : estE i v h r st ss es k = estE i v' h' r st ss es' k := by cases h0; cases h1; cases h2; rfl
attribute [congr] estE_congr
theorem estK_mp {v : AV} {h : List Ob} {r st ss r' st' ss' i : Nat} {q : List Ob → Prop} : estK (.mp r st [] ss) (.ent r' st' [] ss' i) v h q =
    ((r' = r ∧ st' = st ∧ ss' = ss ∧ v.free = true) ∧ nodeK h r st [] ss (fun nd => ownmK nd (fun es => obK h[r]? (fun o => estE i v h r o.st o.ss es q)))) := by
  simp only [estK, nodeK, ownmK, estE]
  by_cases hc : r' = r ∧ st' = st ∧ ss' = ss ∧ v.free = true
  · obtain ⟨rfl, rfl, rfl, hv⟩ := hc
    simp only [hv, and_self, if_true, true_and]
    cases hn : node h r' st' [] ss' with
    | none => rfl
    | some nd =>
      cases nd <;> first | rfl | skip
      rename_i es
      simp only
      cases hr : h[r']? with
      | none => simp [node, hr] at hn
      | some o =>
        have hs : ∀ w, setOb h r' [] w false = some (h.set r' ⟨o.st, o.ss, w⟩) := fun w => by simp [setOb, hr, upd]
        simp only [hs, obK]
  · have : ¬ (r' = r ∧ st' = st ∧ ([] : Path) = [] ∧ ss' = ss ∧ v.free = true) := fun ⟨a, b, _, c, d⟩ => hc ⟨a, b, c, d⟩
    simp [hc, this]
theorem ens_idx {l : List KV} {k : Int × Int} {z : AV} : idxM l k < (ensM l k z).length := by
  unfold idxM ensM
  rw [has_idx]
  cases hf : l.findIdx? fun e => e.1 == k with
  | none => simp
  | some i => obtain ⟨hi, _⟩ := idx_lt hf; simpa using hi
theorem estE_E {v : AV} {h : List Ob} {r st ss : Nat} {l : List KV} {k : Int × Int} {z : AV} {q : List Ob → Prop} : estE (idxM l k) v h r st ss (entsE (ensM l k z)) q = q (h.set r ⟨st, ss, .ownm (entsE (putM l k v))⟩) := by
  have hi := @ens_idx l k z
  have hg : (entsE (ensM l k z))[idxM l k]? = some (eKV (ensM l k z)[idxM l k]) := by simp [entsE, hi]
  simp only [estE, hg]
  have h2 := @setIM_E (ensM l k z) (idxM l k) v _ hg
  simp only [eKV] at h2 ⊢
  rw [h2]
  have : setIM (ensM l k z) (idxM l k) v = putM l k v := by
    unfold putM
    cases hf : l.findIdx? fun e => e.1 == k with
    | none => rw [ens_none hf, ens_none hf]
    | some i =>
      have hs : hasM l k = true := by rw [has_idx, hf]; rfl
      simp only [ensM, hs, if_true]
  rw [this]
end
theorem footE_lok {G : Prg} {b : Nat} {σ : St} {kk : KK} {z : AV} {ok : Bool} {x y : Opd} : foot G b (.lok kk z ok x y) σ = some (rootsL [σ.get x, σ.get y]) := (rfl)
attribute [go_sem] ownmK_ownm wpI_lok lokK_mp lokE_E wpI_mup mupK_mp' mupE_E wpI_men menK_mp menE_E wpI_est estK_mp estE_E footE_lok
/-! #### what is there behind -/
theorem idx_none {l : List KV} {k : Int × Int} : (l.findIdx? fun e => e.1 == k) = none ↔ ∀ e ∈ l, e.1 ≠ k := by
  rw [List.findIdx?_eq_none_iff]; simp
theorem lookM_app {l : List KV} {k k' : Int × Int} {v z : AV} (h : ∀ e ∈ l, e.1 ≠ k) : lookM (l ++ [(k, v)]) k' z = if k' = k then v else lookM l k' z := by
  unfold lookM
  rw [List.find?_append]
  by_cases e : k' = k
  · subst e
    have h0 : (l.find? fun e => e.1 == k') = none := by rw [find_idx, idx_none.2 h]
    rw [h0]; simp
  · have : ([(k, v)].find? fun e => e.1 == k') = none := by simp; exact fun h => e h.symm
    rw [this, if_neg e]; simp
theorem lookM_put {l : List KV} {k k' : Int × Int} {v z : AV} : lookM (putM l k v) k' z = if k' = k then v else lookM l k' z := by
  unfold putM
  cases hf : l.findIdx? fun e => e.1 == k with
  | none => rw [ens_none hf, lookM_app (idx_none.1 hf)]
  | some i =>
    obtain ⟨hi, hk⟩ := idx_lt hf
    have hs : hasM l k = true := by rw [has_idx, hf]; rfl
    simp only [ensM, hs, if_true, idxM, hf, Option.getD_some]
    obtain ⟨h1, h2, h3⟩ := List.findIdx?_eq_some_iff_getElem.1 hf
    clear hf hs
    unfold lookM
    induction l generalizing i with
    | nil => simp at hi
    | cons e l ih =>
      cases i with
      | zero =>
        simp at hk
        simp only [setIM, List.find?_cons]
        by_cases e' : k' = k
        · subst e'; simp [hk]
        · have : ¬ e.1 = k' := fun h => e' (h.symm.trans hk)
          have hb : (e.1 == k') = false := by simpa using this
          simp [hb, e']
      | succ i =>
        simp only [setIM, List.find?_cons]
        have h0 := h3 0 (by omega)
        simp at h0
        by_cases e' : e.1 = k'
        · have : ¬ k' = k := fun h => h0 (e'.trans h)
          simp [e', this]
        · have hb : (e.1 == k') = false := by simpa using e'
          simp only [hb]
          exact ih i (by simpa using hi) (by simpa using hk) (by simpa using h1) (by simpa using h2) (fun j hj => by have := h3 (j + 1) (by omega); simpa using this)
end Go.Mw
