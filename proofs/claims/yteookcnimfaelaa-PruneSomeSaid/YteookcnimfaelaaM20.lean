/- Which systems satisfy a specification, as the reference tells. -/
import Derived.Test.YteookcnimfaelaaM19
set_option linter.unusedVariables false
set_option linter.unusedSimpArgs false
namespace Go.Mw
set_option maxRecDepth 100000
theorem inR_ok (l : List Int) (hl : l.length ≤ 1048576) (x : Int) : FnT G f_r01_In [.lst (l.map I), I x] (Bo (decide (x ∈ l))) := by
 refine FnP.mk' g_r01_In rfl rfl ?_
 simp only [go_sem, ↓reduceIte, ↓gA, ↓gB, ↓gC, ↓gD, ↓cA, ↓cB, c_r01_In]
 refine wp_loopQ (fun (i : Nat) σ => i ≤ l.length ∧ (∀ j < i, l[j]! ≠ x) ∧ σ = ⟨aT .undef 17 [(1, I x), (7, .lst (l.map I)), (8, I l.length), (9, I i)], [], []⟩) (fun i => l.length - i) ?_ 0 ?_
 ·rintro i σ ⟨hi, hall, rfl⟩ N Q hQ hN
  by_cases hlt : i < l.length
  ·simp only [go_sem, ↓reduceIte, ↓gA, ↓gB, ↓gC, ↓gD, ↓cA, ↓cB, Int.ofNat_lt, hlt, wrap_succ hlt (by omega)]
   refine ⟨fun h => ?_, fun h => ?_⟩
   ·subst hQ; simp only [go_sem, ↓reduceIte, ↓gA, ↓gB, ↓gC, ↓gD, ↓cA, ↓cB]
    rw [decide_eq_true]
    have e := eq_of_beq h
    rw [e, getElem!_pos l i hlt]; exact List.getElem_mem hlt
   ·refine hN (i + 1) _ (by omega) ⟨by omega, forall_lt_succ hall (fun e => ne_of_beq_false h e.symm), ?_⟩
    simp only [go_sem, ↓reduceIte, ↓gA, ↓gB, ↓gC, ↓gD, ↓cA, ↓cB]
  ·have hil : i = l.length := by omega
   subst hil hQ
   simp only [go_sem, ↓reduceIte, ↓gA, ↓gB, ↓gC, ↓gD, ↓cA, ↓cB, Int.ofNat_lt, hlt]
   rw [decide_eq_false]
   intro hm
   obtain ⟨j, hj, e⟩ := List.mem_iff_getElem.1 hm
   exact hall j hj (by rw [getElem!_pos l j hj]; exact e)
 ·exact ⟨by omega, by simp, by simp only [go_sem, ↓reduceIte, ↓gA, ↓gB, ↓gC, ↓gD, ↓cA, ↓cB]⟩
theorem inR_r {l : List Int} (hl : l.length ≤ 1048576) {x : Int} {fr : Bool} {roots : List Nat} {b : Nat} {ss : List Nat} {σ : St} {k : AV → St → Prop} :
 callT G f_r01_In [.lst (l.map I), I x] fr roots b ss σ k = k (Bo (decide (x ∈ l))) σ := (inR_ok l hl x).rule
theorem acceptsR_ok (s : Spc) (hs : SpSz s) (y : Nat) (hy : y < s.S.length) (x : Int) : FnT G f_r03_Accepts [eSp s, I y, I x] (Bo (decide (x ∈ s.S[y]!.A))) := by
 refine FnP.mk' g_r03_Accepts rfl rfl ?_
 have h := (hs.x y hy).1
 simp only [go_sem, ↓reduceIte, ↓gA, ↓gB, ↓gC, ↓gD, ↓cA, ↓cB, c_r03_Accepts, eSp, eSt, Int.ofNat_lt, hy, inR_r h]
theorem acceptsR_r {s : Spc} (hs : SpSz s) {y : Nat} (hy : y < s.S.length) {x : Int} {fr : Bool} {roots : List Nat} {b : Nat} {ss : List Nat} {σ : St} {k : AV → St → Prop} :
 callT G f_r03_Accepts [.agg [.lst (s.acts.map .str), .lst (s.S.map eSt)], I y, I x] fr roots b ss σ k = k (Bo (decide (x ∈ s.S[y]!.A))) σ := (acceptsR_ok s hs y hy x).rule
open Classical in
theorem goodR_ok (m : Sys) (hm : SySz m) (s : Spc) (hs : SpSz s) (x y : Nat) (hx : x < m.S.length) (ha : aOk m.S[x]!) (hy : y < s.S.length) : FnT G f_r03_good [eSys m, eSp s, .agg [I x, I y]] (Bo (decide (goodP m s x y))) := by
 refine FnP.mk' g_r03_good rfl rfl ?_
 simp only [go_sem, ↓reduceIte, ↓gA, ↓gB, ↓gC, ↓gD, ↓cA, ↓cB, c_r03_good, eSp, eSys, offerR_r hm hx ha, acceptsR_r hs hy]
 congr 1; exact decide_eq_decide.2 Iff.rfl
open Classical in
theorem goodR_r {m : Sys} (hm : SySz m) {s : Spc} (hs : SpSz s) {x y : Nat} (hx : x < m.S.length) (ha : aOk m.S[x]!) (hy : y < s.S.length) {fr : Bool} {roots : List Nat} {b : Nat} {ss : List Nat} {σ : St} {k : AV → St → Prop} :
 callT G f_r03_good [.agg [.lst (m.acts.map .str), .lst (m.S.map eEs)], .agg [.lst (s.acts.map .str), .lst (s.S.map eSt)], .agg [I x, I y]] fr roots b ss σ k = k (Bo (decide (goodP m s x y))) σ := (goodR_ok m hm s hs x y hx ha hy).rule
/-! #### a row that becomes data -/
def dropK (k : Nat) : List (Nat × AV) → List (Nat × AV)
 | [] => []
 | (j, v) :: l => if j = k then dropK k l else (j, v) :: dropK k l
theorem look_dropK {d : AV} {k j : Nat} (h : ¬ k = j) : ∀ (l : List (Nat × AV)), look d j (dropK k l) = look d j l := by
 intro l
 induction l with
 | nil => rfl
 | cons p l ih =>
   obtain ⟨q, v⟩ := p
   simp only [dropK]
   split
   ·rename_i e; subst e; rw [ih]; simp only [look, if_neg h]
   ·simp only [look, ih]
theorem frz1_eq {nt t : Nat} {d : AV} {l : List (Nat × AV)} {h : List Ob} {lp : List Lp} (ht : t < nt) : frz1 t ⟨aT d nt l, h, lp⟩ = ⟨aT d nt ((t, treeB 0 h (look d t l)) :: dropK t l), dropRoots h (rootsOf (look d t l)), lp⟩ := by
 simp only [frz1, aT_get ht, aT_set ht]
 congr 1
 apply List.ext_getElem?
 intro i
 by_cases hi : i < nt
 ·rw [aT_get hi, aT_get hi]
  simp only [look]
  split
  ·rfl
  ·rename_i e; rw [look_dropK e]
 ·rw [List.getElem?_eq_none (by rw [aT_len]; omega), List.getElem?_eq_none (by rw [aT_len]; omega)]
theorem dropK_nil {k : Nat} : dropK k [] = [] := (rfl)
theorem dropK_cons {k j : Nat} {v : AV} {l : List (Nat × AV)} : dropK k ((j, v) :: l) = if j = k then dropK k l else (j, v) :: dropK k l := (rfl)
def dropM (xs : List AV) (r : Nat) : Nat → List Ob → List Ob
 | _, [] => []
 | k, o :: h => (if k = r ∧ xs ≠ [] then { o with c := .gone } else o) :: dropM xs r (k + 1) h
theorem freeL_may {xs : List AV} {r : Nat} : ∀ (h : List Ob) (k : Nat), freeL (may xs r) k h = dropM xs r k h := by
 intro h
 induction h with
 | nil => intro k; rfl
 | cons o h ih =>
   intro k
   simp only [freeL, dropM, ih]
   unfold may
   by_cases hx : xs = []
   ·simp [hx]
   ·by_cases hk : k = r <;> simp [hx, hk]
theorem dropRoots_free {S : List Nat} {h : List Ob} : dropRoots h S = freeL S 0 h := by
 rw [← free_sites]; simp [freeSites]
theorem drop_may {xs : List AV} {r : Nat} {h : List Ob} : dropRoots h (may xs r) = dropM xs r 0 h := by rw [dropRoots_free, freeL_may]
theorem drop_nil {h : List Ob} : dropRoots h [] = h := (rfl)
theorem drop_one {r : Nat} {h : List Ob} : dropRoots h [r] = freeL [r] 0 h := dropRoots_free
theorem dropM_nil {xs : List AV} {r k : Nat} : dropM xs r k [] = [] := (rfl)
theorem dropM_hit {xs : List AV} {r es st ss : Nat} {h : List Ob} : dropM xs r r (⟨st, ss, rowo es xs⟩ :: h) = ⟨st, ss, .gone⟩ :: dropM xs r (r + 1) h := by
 simp only [dropM, rowo]
 by_cases hx : xs = [] <;> simp [hx]
theorem dropM_skip {xs : List AV} {r k : Nat} {o : Ob} {h : List Ob} (hk : ¬ k = r) : dropM xs r k (o :: h) = o :: dropM xs r (k + 1) h := by
 simp [dropM, hk]
attribute [go_sem] wp_frzt frz1_eq dropK_nil dropK_cons drop_may drop_nil drop_one dropM_nil dropM_hit dropM_skip
end Go.Mw
/- Which systems satisfy a specification: the pairs that are reached, as the reference finds them. -/
namespace Go.Mw
set_option maxRecDepth 100000
def Met (M : List (List Bool)) (x y : Nat) : Prop := M[x]![y]! = true
structure MSz (M : List (List Bool)) (a b : Nat) : Prop where
 l : M.length = a
 r : ∀ x < a, M[x]!.length = b
def μM (M : List (List Bool)) : Nat := (M.map outN).sum
def setM (M : List (List Bool)) (x y : Nat) : List (List Bool) := M.set x (M[x]!.set y true)
theorem sum_set {l : List Nat} {i v : Nat} (h : i < l.length) : (l.set i v).sum + l[i]! = l.sum + v := by
 induction l generalizing i with
 | nil => simp at h
 | cons a l ih =>
   cases i with
   | zero => simp; omega
   | succ i => have := ih (i := i) (by simpa using h); simp at this ⊢; omega
theorem μM_set {M : List (List Bool)} {a b x y : Nat} (h : MSz M a b) (hx : x < a) (hy : y < b) (hf : M[x]![y]! = false) : μM (setM M x y) + 1 = μM M := by
 unfold μM setM
 rw [List.map_set]
 have h1 := @sum_set (M.map outN) x (outN (M[x]!.set y true)) (by rw [List.length_map, h.l]; exact hx)
 have h2 := outN_set (l := M[x]!) (i := y) (by rw [h.r x hx]; exact hy) hf
 have h3 : (M.map outN)[x]! = outN M[x]! := by rw [getElem!_pos _ x (by rw [List.length_map, h.l]; exact hx), getElem!_pos M x (by rw [h.l]; exact hx), List.getElem_map]
 omega
theorem setM_sz {M : List (List Bool)} {a b x y : Nat} (h : MSz M a b) (hx : x < a) : MSz (setM M x y) a b := by
 refine ⟨by unfold setM; rw [List.length_set]; exact h.l, fun z hz => ?_⟩
 unfold setM
 rw [getS1 (by rw [h.l]; exact hx)]
 split
 ·rename_i e; subst e; rw [List.length_set]; exact h.r x hx
 ·exact h.r z hz
theorem setM_get {M : List (List Bool)} {a b x y : Nat} (h : MSz M a b) (hx : x < a) (hy : y < b) {x' y' : Nat} : Met (setM M x y) x' y' ↔ (x' = x ∧ y' = y) ∨ Met M x' y' := by
 unfold Met setM
 rw [getS1 (by rw [h.l]; exact hx)]
 by_cases e : x = x'
 ·subst e
  rw [if_pos rfl, getS1 (by rw [h.r x hx]; exact hy)]
  by_cases e2 : y = y'
  ·subst e2; simp
  ·rw [if_neg e2]; exact ⟨.inr, fun h => h.resolve_left (fun h => e2 h.2.symm)⟩
 ·rw [if_neg e]; exact ⟨.inr, fun h => h.resolve_left (fun h => e h.1.symm)⟩
theorem μM_le {M : List (List Bool)} {a b : Nat} (h : MSz M a b) : μM M ≤ a * b := by
 obtain ⟨rfl, hr⟩ := h
 unfold μM
 induction M with
 | nil => simp
 | cons r M ih =>
   have h0 := hr 0 (by simp)
   have h1 : outN r ≤ r.length := List.length_filter_le _ _
   have h2 := ih (fun x hx => by have := hr (x + 1) (by simpa using hx); simpa using this)
   simp at h0 ⊢
   rw [Nat.add_mul]; omega
structure RI (m : Sys) (s : Spc) (M : List (List Bool)) (W : List (Nat × Nat)) : Prop where
 sz : MSz M m.S.length s.S.length
 z : Met M 0 0
 r : ∀ x y, Met M x y → Rch m s x y
 w : ∀ p ∈ W, Met M p.1 p.2
 c : ∀ x y, Met M x y → (x, y) ∈ W ∨ (goodP m s x y ∧ ∀ i < m.S[x]!.length, Met M m.S[x]![i]!.t.toNat (nxt s y m.S[x]![i]!.a.toNat).toNat)
theorem RI.lt {m : Sys} {s : Spc} {M : List (List Bool)} {W : List (Nat × Nat)} (h : RI m s M W) (hm : SysOk m) (hs : SpcOk s) (he : m.acts.length = s.acts.length) {p : Nat × Nat} (hp : p ∈ W) : p.1 < m.S.length ∧ p.2 < s.S.length := (h.r _ _ (h.w p hp)).lt hm hs he
theorem RI.meet {m : Sys} {s : Spc} {M : List (List Bool)} {W : List (Nat × Nat)} (h : RI m s M W) {x y : Nat} (hx : x < m.S.length) (hy : y < s.S.length) (hr : Rch m s x y) : RI m s (setM M x y) (W ++ [(x, y)]) := by
 have g := fun {x' y'} => @setM_get M _ _ x y h.sz hx hy x' y'
 refine ⟨setM_sz h.sz hx, g.2 (.inr h.z), fun x' y' hm => ?_, fun p hp => ?_, fun x' y' hm => ?_⟩
 ·rcases g.1 hm with ⟨rfl, rfl⟩ | hm
  ·exact hr
  ·exact h.r _ _ hm
 ·rw [List.mem_append, List.mem_singleton] at hp
  rcases hp with hp | rfl
  ·exact g.2 (.inr (h.w p hp))
  ·exact g.2 (.inl ⟨rfl, rfl⟩)
 ·rcases g.1 hm with ⟨rfl, rfl⟩ | hm
  ·exact .inl (List.mem_append_right _ (List.mem_singleton_self _))
  ·rcases h.c _ _ hm with h1 | ⟨h1, h2⟩
   ·exact .inl (List.mem_append_left _ h1)
   ·exact .inr ⟨h1, fun i hi => g.2 (.inr (h2 i hi))⟩
theorem RI.done {m : Sys} {s : Spc} {M : List (List Bool)} {p : Nat × Nat} {W : List (Nat × Nat)} (h : RI m s M (p :: W)) (hg : goodP m s p.1 p.2) (hd : ∀ i < m.S[p.1]!.length, Met M m.S[p.1]![i]!.t.toNat (nxt s p.2 m.S[p.1]![i]!.a.toNat).toNat) : RI m s M W := by
 refine ⟨h.sz, h.z, h.r, fun q hq => h.w q (List.mem_cons_of_mem _ hq), fun x y hm => ?_⟩
 rcases h.c x y hm with h1 | h1
 ·rcases List.mem_cons.1 h1 with rfl | h1
  ·exact .inr ⟨hg, hd⟩
  ·exact .inl h1
 ·exact .inr h1
theorem RI.fin {m : Sys} {s : Spc} {M : List (List Bool)} (h : RI m s M []) : Sat m s := by
 refine sat_of (P := Met M) ⟨h.z, fun x y hm hg i hi => ?_⟩ (fun x y hm => ?_)
 ·rcases h.c x y hm with h1 | h1
  ·cases h1
  ·exact h1.2 i hi
 ·rcases h.c x y hm with h1 | h1
  ·cases h1
  ·exact h1.1
theorem frz_mapN2 {l : List (Nat × Nat)} : (l.map eN2).map frz = l.map eN2 := by rw [List.map_map]; rfl
def mcell (n i x : Nat) : AV := if x < i then .own 1 ((List.replicate n false).map Bo) else .nils
theorem mcell_self {n i : Nat} : mcell n i i = .nils := by simp [mcell]
theorem mcell_set {n k i : Nat} : ((List.range k).map (mcell n i)).set i (.own 1 (List.replicate n (.bool false))) = (List.range k).map (mcell n (i + 1)) := by
 apply List.ext_getElem?
 intro j
 rw [List.getElem?_set]
 by_cases h : i = j
 ·subst h
  by_cases hl : i < k <;> simp [hl, mcell]
 ·by_cases hl : j < k
  ·have e : (j < i) = (j < i + 1) := propext ⟨fun _ => by omega, fun _ => by omega⟩
   simp [h, hl, mcell, e]
  ·simp [h, hl]
theorem mcell_fin {n k : Nat} : (List.range k).map (mcell n k) = (List.replicate k (List.replicate n false)).map rowB := by
 apply List.ext_getElem (by simp)
 intro j h1 h2
 simp at h1
 simp [mcell, rowB, h1]
open Classical in
theorem reachR_ok (m : Sys) (hm : SysOk m) (hmz : SySz m) (s : Spc) (hs : SpcOk s) (hsz : SpSz s) (he : m.acts.length = s.acts.length) : ∃ v d, Fn G f_r03_Reach [eSys m, eSp s] (.tup [v, I d, Bo (decide (Sat m s))]) := by
 suffices hh : FnP G f_r03_Reach [eSys m, eSp s] (fun rs h => ∃ v d, packV (treeBL 0 h rs) = .tup [v, I d, Bo (decide (Sat m s))]) by
  obtain ⟨F, n, rs, σ1, e1, e2, e3, e4, e5, e6, v, d, h3⟩ := hh
  exact ⟨v, d, F, n, rs, σ1, e1, e2, e3, e4, e5, e6, h3⟩
 refine FnP.mk' g_r03_Reach rfl rfl ?_
 have hS := hmz.s
 have hs5 := hm.s2
 have hT := hs.s2
 simp only [go_sem, ↓reduceIte, ↓gA, ↓gB, ↓gC, ↓gD, ↓cA, ↓cB, c_r03_Reach, eSp, eSys]
 refine ⟨by omega, ?_⟩
 refine wp_loopQ (fun (i : Nat) σ => i ≤ m.S.length ∧ ∃ z2 a3 c3, σ = ⟨aT .undef 136 [(2, .ptr 0 1 [] 0 0 0), (3, .ptr 1 1 [] 0 0 0), (7, .sl 2 1 [] 0 0 m.S.length), (26, I m.S.length), (27, I i)],
  [⟨1, 0, .own 2 [.agg [.lst (m.acts.map .str), .lst (m.S.map eEs)]]⟩, ⟨1, 0, .own 2 [.agg [.lst (s.acts.map .str), .lst (s.S.map eSt)]]⟩, ⟨1, z2, .own 1 ((List.range m.S.length).map (mcell s.S.length i))⟩, ⟨a3, c3, .gone⟩, ⟨0, 0, .gone⟩, ⟨0, 0, .gone⟩, ⟨0, 0, .gone⟩, ⟨0, 0, .gone⟩, ⟨0, 0, .gone⟩, ⟨0, 0, .gone⟩, ⟨0, 0, .gone⟩, ⟨0, 0, .gone⟩], []⟩) (fun i => m.S.length - i) ?_ 0 ?_
 ·rintro i σ ⟨hi, z2, a3, c3, rfl⟩ N Q hQ hN
  by_cases hlt : i < m.S.length
  ·simp only [go_sem, ↓reduceIte, ↓gA, ↓gB, ↓gC, ↓gD, ↓cA, ↓cB, wrap_succ hlt (by omega), Int.ofNat_lt, hlt, List.length_range, rng_get hlt, mcell_self, mcell_set]
   refine ⟨by omega, hN (i + 1) _ (by omega) ⟨by omega, ?_⟩⟩
   simp only [go_sem, ↓reduceIte, ↓gA, ↓gB, ↓gC, ↓gD, ↓cA, ↓cB]
   repeat apply Exists.intro
   rfl
  ·have hil : i = m.S.length := by omega
   subst hil hQ
   have h0 : 0 < m.S.length := by have := hm.s1; omega
   have h1 : 0 < s.S.length := by have := hs.s1; omega
   simp only [go_sem, ↓reduceIte, ↓gA, ↓gB, ↓gC, ↓gD, ↓cA, ↓cB, Int.ofNat_lt, hlt, mcell_fin]
   have hM0 : MSz (List.replicate m.S.length (List.replicate s.S.length false)) m.S.length s.S.length := ⟨by simp, fun x hx => by rw [getElem!_pos _ x (by simpa using hx)]; simp⟩
   have hM1 : ∀ x y, ¬ Met (List.replicate m.S.length (List.replicate s.S.length false)) x y := by
    intro x y h
    unfold Met at h
    by_cases hx : x < m.S.length
    ·rw [getElem!_pos _ x (by simpa using hx)] at h
     simp only [List.getElem_replicate, List.getElem!_eq_getElem?_getD, List.getElem?_replicate] at h
     split at h <;> simp at h
    ·have e1 : (List.replicate m.S.length (List.replicate s.S.length false))[x]! = [] := by
      rw [List.getElem!_eq_getElem?_getD, List.getElem?_eq_none (by simpa using hx)]; rfl
     rw [e1] at h; simp at h
   generalize List.replicate m.S.length (List.replicate s.S.length false) = M0 at *
   have hRI : RI m s (setM M0 0 0) [(0, 0)] := by
    refine ⟨setM_sz hM0 h0, (setM_get hM0 h0 h1).2 (.inl ⟨rfl, rfl⟩), fun x y hm' => ?_, fun p hp => ?_, fun x y hm' => ?_⟩
    ·rcases (setM_get hM0 h0 h1).1 hm' with ⟨rfl, rfl⟩ | h
     ·exact (Rch.closed m s).z
     ·exact absurd h (hM1 x y)
    ·rw [List.mem_singleton] at hp; subst hp; exact (setM_get hM0 h0 h1).2 (.inl ⟨rfl, rfl⟩)
    ·rcases (setM_get hM0 h0 h1).1 hm' with ⟨rfl, rfl⟩ | h
     ·exact .inl (List.mem_singleton_self _)
     ·exact absurd h (hM1 x y)
   have g0 := hM0.l
   have g1 := hM0.r 0 h0
   simp only [go_sem, ↓reduceIte, ↓gA, ↓gB, ↓gC, ↓gD, ↓cA, ↓cB, Int.ofNat_lt, h0, h1, g0, g1, rowB, map_setB, map_setR]
   refine ⟨by omega, by omega, ?_⟩
   refine wp_loopQ (fun (g : List (List Bool) × List (Nat × Nat)) σ => RI m s g.1 g.2 ∧ g.2.length ≤ 2500000 ∧ ∃ d z2 o3 o4 a5 c5 a6 c6 a7 c7 a8 c8 a9 c9, frz1 9 σ = ⟨aT .undef 136 [(9, .lst (g.2.map eN2)), (2, .ptr 0 1 [] 0 0 0), (3, .ptr 1 1 [] 0 0 0), (7, .sl 2 1 [] 0 0 m.S.length), (10, I d)],
    [⟨1, 0, .own 2 [.agg [.lst (m.acts.map .str), .lst (m.S.map eEs)]]⟩, ⟨1, 0, .own 2 [.agg [.lst (s.acts.map .str), .lst (s.S.map eSt)]]⟩, ⟨1, z2, .own 1 (g.1.map rowB)⟩, o3, o4, ⟨a5, c5, .gone⟩, ⟨a6, c6, .gone⟩, ⟨a7, c7, .gone⟩, ⟨a8, c8, .gone⟩, ⟨a9, c9, .gone⟩, ⟨0, 0, .gone⟩, ⟨0, 0, .gone⟩], []⟩) (fun g => 2 * μM g.1 + if g.2 = [] then 0 else 1) ?_ (setM M0 0 0, [(0, 0)]) ?_
   ·rintro ⟨M, W⟩ σ ⟨hI, hWl, d, z2, o3, o4, a5, c5, a6, c6, a7, c7, a8, c8, a9, c9, hσ⟩ N Q hQ hN
    simp only at hI hσ hWl
    have hMl := hI.sz.l
    by_cases hW : W = []
    ·subst hW
     have hsat := hI.fin
     subst hQ
     simp only [go_sem, ↓reduceIte, ↓gA, ↓gB, ↓gC, ↓gD, ↓cA, ↓cB, hσ, hMl]
     refine wp_loopQ (fun (i : Nat) σ => i ≤ m.S.length ∧ ∃ P : List (Nat × Nat), P.length ≤ i * 500 ∧ ∃ o0 o1 z2 o3 o4 o5 o6 o7 o8 o9 a10 c10 a11 c11, σ = ⟨aT .undef 136 [(7, .sl 2 1 [] 0 0 m.S.length), (17, rowv .nils 2 11 a11 (P.map eN2)), (112, I m.S.length), (113, I i)],
      [o0, o1, ⟨1, z2, .own 1 (M.map rowB)⟩, o3, o4, o5, o6, o7, o8, o9, ⟨a10, c10, .gone⟩, ⟨a11, c11, rowo 2 (P.map eN2)⟩], []⟩) (fun i => m.S.length - i) ?_ 0 ?_
     ·rintro i σ ⟨hi, P, hP, o0, o1, z2, o3, o4, o5, o6, o7, o8, o9, a10, c10, a11, c11, rfl⟩ N Q hQ hN
      by_cases hlt : i < m.S.length
      ·have hiM : i < M.length := by omega
       have hr := hI.sz.r i hlt
       simp only [go_sem, ↓reduceIte, ↓gA, ↓gB, ↓gC, ↓gD, ↓cA, ↓cB, Int.ofNat_lt, hlt, hiM, rowB, hr, hMl]
       refine wp_loopQ (fun (j : Nat) σ => j ≤ s.S.length ∧ ∃ P : List (Nat × Nat), P.length ≤ i * 500 + j ∧ ∃ o0 o1 o3 o4 o5 o6 o7 o8 o9 a10 c10 a11 c11, σ = ⟨aT .undef 136 [(7, .sl 2 1 [] 0 0 m.S.length), (17, rowv .nils 2 11 a11 (P.map eN2)), (18, I i), (112, I m.S.length), (113, I i), (119, .sl 2 1 [(i, 0)] z2 0 s.S.length), (120, I s.S.length), (121, I j)],
        [o0, o1, ⟨1, z2, .own 1 (M.map rowB)⟩, o3, o4, o5, o6, o7, o8, o9, ⟨a10, c10, .gone⟩, ⟨a11, c11, rowo 2 (P.map eN2)⟩], []⟩) (fun j => s.S.length - j) ?_ 0 ?_
       ·rintro j σ ⟨hj, P, hP, o0, o1, o3, o4, o5, o6, o7, o8, o9, a10, c10, a11, c11, rfl⟩ N2 Q2 hQ2 hN2
        by_cases hlt2 : j < s.S.length
        ·have hjr : j < M[i]!.length := by omega
         simp only [go_sem, ↓reduceIte, ↓gA, ↓gB, ↓gC, ↓gD, ↓cA, ↓cB, Int.ofNat_lt, hlt2, hiM, rowB, hr, hjr, wrap_succ hlt2 (by omega)]
         refine ⟨fun hb => ⟨by omega, ?_⟩, fun hb => ?_⟩
         ·refine hN2 (j + 1) _ (by omega) ⟨by omega, P ++ [(i, j)], by rw [List.length_append, List.length_singleton]; omega, ?_⟩
          simp only [go_sem, ↓reduceIte, ↓gA, ↓gB, ↓gC, ↓gD, ↓cA, ↓cB, List.map_append, eN2, eN]
          repeat apply Exists.intro
          rfl
         ·refine hN2 (j + 1) _ (by omega) ⟨by omega, P, by omega, ?_⟩
          simp only [go_sem, ↓reduceIte, ↓gA, ↓gB, ↓gC, ↓gD, ↓cA, ↓cB]
          repeat apply Exists.intro
          rfl
        ·have hjl : j = s.S.length := by omega
         subst hQ2
         simp only [go_sem, ↓reduceIte, ↓gA, ↓gB, ↓gC, ↓gD, ↓cA, ↓cB, Int.ofNat_lt, hlt2, wrap_succ hlt (show m.S.length ≤ 1000000000 by omega)]
         refine hN (i + 1) _ (by omega) ⟨by omega, P, by omega, ?_⟩
         simp only [go_sem, ↓reduceIte, ↓gA, ↓gB, ↓gC, ↓gD, ↓cA, ↓cB]
         repeat apply Exists.intro
         rfl
       ·refine ⟨by omega, P, by omega, ?_⟩
        simp only [go_sem, ↓reduceIte, ↓gA, ↓gB, ↓gC, ↓gD, ↓cA, ↓cB, rowB]
        repeat apply Exists.intro
        rfl
      ·have hil : i = m.S.length := by omega
       subst hQ
       simp only [go_sem, ↓reduceIte, ↓gA, ↓gB, ↓gC, ↓gD, ↓cA, ↓cB, Int.ofNat_lt, hlt]
       rw [decide_eq_true hsat]
       exact ⟨_, _, rfl⟩
     ·refine ⟨by omega, [], by simp, ?_⟩
      simp only [go_sem, ↓reduceIte, ↓gA, ↓gB, ↓gC, ↓gD, ↓cA, ↓cB]
      repeat apply Exists.intro
      rfl
    ·have hW0 : 0 < W.length := List.length_pos_iff.2 hW
     have hWp : (0 : Int) < (W.length : Int) := by omega
     have hμ := μM_le hI.sz
     have hμ2 : m.S.length * s.S.length ≤ 5000 * 500 := Nat.mul_le_mul (by omega) (by omega)
     simp only [go_sem, ↓reduceIte, ↓gA, ↓gB, ↓gC, ↓gD, ↓cA, ↓cB, hσ, hWp]
     refine wp_loopQ (fun (g : Nat × List (List Bool) × List (Nat × Nat)) σ => g.1 ≤ W.length ∧ RI m s g.2.1 (W.drop g.1 ++ g.2.2) ∧ μM g.2.1 + g.2.2.length = μM M ∧ ∃ z2 o3 o4 a5 c5 a6 c6 a7 c7 a8 c8 a9 c9, σ = ⟨aT .undef 136 [(2, .ptr 0 1 [] 0 0 0), (3, .ptr 1 1 [] 0 0 0), (7, .sl 2 1 [] 0 0 m.S.length), (10, I d), (11, rowv .nils 2 9 a9 (g.2.2.map eN2)), (49, .lst (W.map eN2)), (50, I W.length), (51, I g.1)],
      [⟨1, 0, .own 2 [.agg [.lst (m.acts.map .str), .lst (m.S.map eEs)]]⟩, ⟨1, 0, .own 2 [.agg [.lst (s.acts.map .str), .lst (s.S.map eSt)]]⟩, ⟨1, z2, .own 1 (g.2.1.map rowB)⟩, o3, o4, ⟨a5, c5, .gone⟩, ⟨a6, c6, .gone⟩, ⟨a7, c7, .gone⟩, ⟨a8, c8, .gone⟩, ⟨a9, c9, rowo 2 (g.2.2.map eN2)⟩, ⟨0, 0, .gone⟩, ⟨0, 0, .gone⟩], []⟩) (fun g => W.length - g.1) ?_ (0, M, []) ?_
     ·rintro ⟨j, M1, W2⟩ σ ⟨hj, hI1, hcnt, z2, o3, o4, a5, c5, a6, c6, a7, c7, a8, c8, a9, c9, rfl⟩ N2 Q2 hQ2 hN2
      simp only at hj hI1 hcnt
      by_cases hlt : j < W.length
      ·have hcons : W.drop j = W[j]! :: W.drop (j + 1) := by rw [List.drop_eq_getElem_cons hlt, getElem!_pos W j hlt]
       rw [hcons, List.cons_append] at hI1
       have hpl := hI1.lt hm hs he (List.mem_cons_self ..)
       generalize hp : W[j]! = p at *
       obtain ⟨x, y⟩ := p
       simp only at hpl
       have hpr := hI1.r _ _ (hI1.w _ (List.mem_cons_self ..))
       simp only at hpr
       have haO := hm.aOk hpl.1
       simp only [go_sem, ↓reduceIte, ↓gA, ↓gB, ↓gC, ↓gD, ↓cA, ↓cB, Int.ofNat_lt, hlt, hp, eN2, eN, goodR_r hmz hsz hpl.1 haO hpl.2, wrap_succ hlt (by omega), hpl.1, eEs]
       refine ⟨fun hg => ?_, fun hg => ?_⟩
       ·subst hQ2; simp only [go_sem, ↓reduceIte, ↓gA, ↓gB, ↓gC, ↓gD, ↓cA, ↓cB]; subst hQ; simp only [go_sem, ↓reduceIte, ↓gA, ↓gB, ↓gC, ↓gD, ↓cA, ↓cB]
        rw [decide_eq_false (fun hsat : Sat m s => hg (hsat x y hpr))]
        exact ⟨_, _, rfl⟩
       ·have hel := hmz.e x hpl.1
        refine wp_loopQ (fun (g : Nat × List (List Bool) × List (Nat × Nat)) σ => g.1 ≤ m.S[x]!.length ∧ RI m s g.2.1 ((x, y) :: (W.drop (j + 1) ++ g.2.2)) ∧ (∀ i < g.1, Met g.2.1 m.S[x]![i]!.t.toNat (nxt s y m.S[x]![i]!.a.toNat).toNat) ∧ μM g.2.1 + g.2.2.length = μM M ∧ ∃ z2 o3 o4 a6 c6 a7 c7 a8 c8 a9 c9, σ = ⟨aT .undef 136 [(2, .ptr 0 1 [] 0 0 0), (3, .ptr 1 1 [] 0 0 0), (7, .sl 2 1 [] 0 0 m.S.length), (10, I d), (11, rowv .nils 2 9 a9 (g.2.2.map eN2)), (13, .ptr 5 (a5 + 1) [] 0 0 0), (49, .lst (W.map eN2)), (50, I W.length), (51, I j), (66, .lst (m.S[x]!.map eE)), (67, I m.S[x]!.length), (68, I g.1)],
         [⟨1, 0, .own 2 [.agg [.lst (m.acts.map .str), .lst (m.S.map eEs)]]⟩, ⟨1, 0, .own 2 [.agg [.lst (s.acts.map .str), .lst (s.S.map eSt)]]⟩, ⟨1, z2, .own 1 (g.2.1.map rowB)⟩, o3, o4, ⟨a5 + 1, 0, .own 2 [.agg [I x, I y]]⟩, ⟨a6, c6, .gone⟩, ⟨a7, c7, .gone⟩, ⟨a8, c8, .gone⟩, ⟨a9, c9, rowo 2 (g.2.2.map eN2)⟩, ⟨0, 0, .gone⟩, ⟨0, 0, .gone⟩], []⟩) (fun g => m.S[x]!.length - g.1) ?_ (0, M1, W2) ?_
        ·rintro ⟨k, M2, W3⟩ σ ⟨hk, hI2, hdn, hcnt2, z2, o3, o4, a6, c6, a7, c7, a8, c8, a9, c9, rfl⟩ N3 Q3 hQ3 hN3
         simp only at hk hI2 hdn hcnt2
         by_cases hlt2 : k < m.S[x]!.length
         ·obtain ⟨g1, g2, g3, g4, g5, g6⟩ := good_nxt hm hs he hpl.1 hpl.2 hg hlt2
          have hsr := (Rch.closed m s).n x y hpr hg k hlt2
          unfold nxt at g5 g6 hsr
          have hdn' := hdn
          unfold nxt at hdn
          have hXl : s.S[y]!.X.length = s.acts.length := (hs.st y hpl.2).len
          obtain ⟨tx, htx⟩ : ∃ n : Nat, m.S[x]![k]!.t = n := ⟨m.S[x]![k]!.t.toNat, by omega⟩
          obtain ⟨ac, hac⟩ : ∃ n : Nat, m.S[x]![k]!.a = n := ⟨m.S[x]![k]!.a.toNat, by omega⟩
          rw [hac, Int.toNat_natCast] at g5 g6 hsr
          obtain ⟨ty, hty⟩ : ∃ n : Nat, s.S[y]!.X[ac]! = n := ⟨s.S[y]!.X[ac]!.toNat, by omega⟩
          rw [htx, hty, Int.toNat_natCast, Int.toNat_natCast] at hsr
          have hacl : ac < s.S[y]!.X.length := by omega
          have htx2 : tx < m.S.length := by omega
          have hty2 : ty < s.S.length := by omega
          have htM : tx < M2.length := by rw [hI2.sz.l]; exact htx2
          have htR : ty < M2[tx]!.length := by rw [hI2.sz.r tx htx2]; exact hty2
          simp only [go_sem, ↓reduceIte, ↓gA, ↓gB, ↓gC, ↓gD, ↓cA, ↓cB, Int.ofNat_lt, hlt2, eE, eSt, htx, hac, hty, hpl.2, hacl, htx2, hty2, htM, htR, rowB, wrap_succ hlt2 (by omega), hI2.sz.l]
          have hμ3 := μM_le hI2.sz
          have htk : ∀ i < k + 1, i = k ∨ i < k := fun i hi => by omega
          have hnx : (nxt s y m.S[x]![k]!.a.toNat).toNat = ty := by unfold nxt; rw [hac, Int.toNat_natCast, hty, Int.toNat_natCast]
          have htx3 : m.S[x]![k]!.t.toNat = tx := by rw [htx, Int.toNat_natCast]
          refine ⟨fun hf => ⟨by omega, ?_⟩, fun hf => ?_⟩
          ·have hg2 := fun {x' y'} => @setM_get M2 _ _ tx ty hI2.sz htx2 hty2 x' y'
           have hms := μM_set hI2.sz htx2 hty2 hf
           have hmt := hI2.meet htx2 hty2 hsr
           rw [List.cons_append, List.append_assoc] at hmt
           refine hN3 (k + 1, setM M2 tx ty, W3 ++ [(tx, ty)]) _ (by simp only; omega) ⟨by simp only; omega, hmt, fun i hi => ?_, by simp only [List.length_append, List.length_singleton]; omega, ?_⟩
           ·rcases htk i hi with rfl | hi
            ·rw [htx3, hnx]; exact hg2.2 (.inl ⟨rfl, rfl⟩)
            ·exact hg2.2 (.inr (hdn' i hi))
           ·simp only [go_sem, ↓reduceIte, ↓gA, ↓gB, ↓gC, ↓gD, ↓cA, ↓cB, setM, List.map_append, eN2, eN, map_setB, map_setR]
            repeat apply Exists.intro
            rfl
          ·refine hN3 (k + 1, M2, W3) _ (by simp only; omega) ⟨by simp only; omega, hI2, fun i hi => ?_, hcnt2, ?_⟩
           ·rcases htk i hi with rfl | hi
            ·rw [htx3, hnx]; exact hf
            ·exact hdn' i hi
           ·simp only [go_sem, ↓reduceIte, ↓gA, ↓gB, ↓gC, ↓gD, ↓cA, ↓cB]
            repeat apply Exists.intro
            rfl
         ·have hkl : k = m.S[x]!.length := by omega
          subst hQ3
          simp only [go_sem, ↓reduceIte, ↓gA, ↓gB, ↓gC, ↓gD, ↓cA, ↓cB, Int.ofNat_lt, hlt2, wrap_succ hlt (show W.length ≤ 1000000000 by omega)]
          refine hN2 (j + 1, M2, W3) _ (by simp only; omega) ⟨by simp only; omega, hI2.done hg (fun i hi => hdn i (by rw [hkl]; exact hi)), hcnt2, ?_⟩
          simp only [go_sem, ↓reduceIte, ↓gA, ↓gB, ↓gC, ↓gD, ↓cA, ↓cB]
          repeat apply Exists.intro
          rfl
        ·refine ⟨by simp, hI1, fun i hi => absurd hi (by simp), hcnt, ?_⟩
         simp only [go_sem, ↓reduceIte, ↓gA, ↓gB, ↓gC, ↓gD, ↓cA, ↓cB]
         repeat apply Exists.intro
         rfl
      ·have hjl : j = W.length := by omega
       subst hQ2
       simp only [go_sem, ↓reduceIte, ↓gA, ↓gB, ↓gC, ↓gD, ↓cA, ↓cB, Int.ofNat_lt, hlt]
       subst hjl
       rw [List.drop_length, List.nil_append] at hI1
       refine hN (M1, W2) _ ?_ ⟨hI1, by simp only; omega, ?_⟩
       ·simp only [hW, if_false]
        by_cases hW2 : W2 = []
        ·subst hW2; simp at hcnt ⊢; omega
        ·have := List.length_pos_iff.2 hW2; simp only [hW2, if_false]; omega
       ·simp only [go_sem, ↓reduceIte, ↓gA, ↓gB, ↓gC, ↓gD, ↓cA, ↓cB, frz_mapN2]
        repeat apply Exists.intro
        rfl
     ·refine ⟨by simp, by simpa using hI, by simp, ?_⟩
      simp only [go_sem, ↓reduceIte, ↓gA, ↓gB, ↓gC, ↓gD, ↓cA, ↓cB]
      repeat apply Exists.intro
      rfl
   ·refine ⟨hRI, by simp, ?_⟩
    simp only [go_sem, ↓reduceIte, ↓gA, ↓gB, ↓gC, ↓gD, ↓cA, ↓cB, setM, eN2, eN]
    repeat apply Exists.intro
    rfl
 ·refine ⟨by omega, ?_⟩
  have e1 : (List.range m.S.length).map (mcell s.S.length 0) = List.replicate m.S.length AV.nils := by
   apply List.ext_getElem (by simp); intro j h1 h2; simp [mcell]
  simp only [go_sem, ↓reduceIte, ↓gA, ↓gB, ↓gC, ↓gD, ↓cA, ↓cB, e1]
  repeat apply Exists.intro
  rfl
open Classical in
theorem satR_ok (m : Sys) (hm : SysOk m) (hmz : SySz m) (s : Spc) (hs : SpcOk s) (hsz : SpSz s) (he : m.acts.length = s.acts.length) : FnT G f_r03_Satisfies [eSys m, eSp s] (Bo (decide (Sat m s))) := by
 obtain ⟨v, d, h⟩ := reachR_ok m hm hmz s hs hsz he
 have hcall : ∀ {roots : List Nat} {b : Nat} {ss : List Nat} {σ : St} {k : AV → St → Prop}, callT G f_r03_Reach [.agg [.lst (m.acts.map .str), .lst (m.S.map eEs)], .agg [.lst (s.acts.map .str), .lst (s.S.map eSt)]] true roots b ss σ k = k (.tup [v, I d, Bo (decide (Sat m s))]) σ := h.rule
 refine FnP.mk' g_r03_Satisfies rfl rfl ?_
 simp only [go_sem, ↓reduceIte, ↓gA, ↓gB, ↓gC, ↓gD, ↓cA, ↓cB, c_r03_Satisfies, eSys, eSp, hcall]
end Go.Mw
/- Numbers below one, as a set. -/
namespace Go.Mw
set_option maxRecDepth 100000
def bitsN (p : Nat → Bool) : Nat → Nat
 | 0 => 0
 | j + 1 => if p j then bitsN p j ||| 2 ^ j else bitsN p j
theorem bitsN_succ {p : Nat → Bool} {j : Nat} : bitsN p (j + 1) = if p j then bitsN p j ||| 2 ^ j else bitsN p j := (rfl)
theorem bitsN_test {p : Nat → Bool} {n a : Nat} : (bitsN p n).testBit a = (decide (a < n) && p a) := by
 induction n with
 | zero => simp [bitsN]
 | succ n ih =>
   rw [bitsN_succ]
   split
   ·rename_i h
    rw [Nat.testBit_or, ih, Nat.testBit_two_pow]
    by_cases e : n = a
    ·subst e; simp [h]
    ·have h1 : decide (a < n + 1) = decide (a < n) := by apply decide_eq_decide.2; omega
     simp [e, h1]
   ·rename_i h
    rw [ih]
    by_cases e : n = a
    ·subst e; simp [h]
    ·have h1 : decide (a < n + 1) = decide (a < n) := by apply decide_eq_decide.2; omega
     rw [h1]
theorem bitsN_lt {p : Nat → Bool} {n : Nat} : bitsN p n < 2 ^ n := by
 apply Nat.lt_pow_two_of_testBit
 intro i hi
 rw [bitsN_test]; simp; omega
theorem bitsN_63 {p : Nat → Bool} {n : Nat} (hn : n ≤ 32) : bitsN p n < 2 ^ 63 := Nat.lt_of_lt_of_le bitsN_lt (Nat.pow_le_pow_right (by omega) (by omega))
theorem bitsN_bor {p : Nat → Bool} {n : Nat} (hn : n ≤ 32) : bor .i64 (bitsN p n : Int) ((2 ^ n : Nat) : Int) = ((bitsN p n ||| 2 ^ n : Nat) : Int) := bor_nat (bitsN_63 hn) (Nat.pow_lt_pow_right (by omega) (by omega))
end Go.Mw
/- The products for which something holds. -/
namespace Go.Mw
set_option maxRecDepth 100000
end Go.Mw
/- The products of a valid family are valid; which of them a system satisfies, which are not hollow: as the reference tells. -/
namespace Go.Mw
set_option maxRecDepth 100000
theorem pw_last {l : List Int} (h : l.Pairwise (· < ·)) {i : Nat} (hi : i < l.length) (h0 : 0 < i) : l[i-1]! < l[i]! := by
 rw [getElem!_pos l (i-1) (by omega), getElem!_pos l i hi]
 exact (List.pairwise_iff_getElem.1 h) (i-1) i (by omega) hi (by omega)
theorem getMem {α : Type} [Inhabited α] {l : List α} {i : Nat} (h : i < l.length) : l[i]! ∈ l := by rw [getElem!_pos l i h]; exact List.getElem_mem h
theorem PlanOk.disj {x : Plan} {n st pr : Nat} (h : PlanOk x n st pr) (hpr : pr ≤ 32) {a : Nat} (ha : a < x.X.length) : x.X[a]!.Pairwise Apart := by
 obtain ⟨h1, h2⟩ := h.nxt a ha
 exact (disj_iff (choOk_W hpr h1).m).1 h2
theorem SpcOk.b {s : Spc} (h : SpcOk s) (hz : SpSz s) : SpB s := by
 have h8 := actsOk_len h.acts
 refine ⟨hz.s, fun i hi => ⟨fun j hj => ?_, fun j hj => ?_, (hz.x i hi).1, (hz.x i hi).2⟩⟩
 ·have := (h.st i hi).a j hj
  have h28 : 2 ^ s.acts.length ≤ 2 ^ 8 := Nat.pow_le_pow_right (by omega) h8
  omega
 ·exact ((h.st i hi).x j (by rw [← (h.st i hi).len]; exact hj)).2
theorem SpcOk.x8 {s : Spc} (h : SpcOk s) : ∀ i < s.S.length, s.S[i]!.X.length ≤ 8 := fun i hi => by
 rw [(h.st i hi).len]; exact actsOk_len h.acts
open Classical in
noncomputable def satP (m : Sys) (f : Fam) (p : Nat) : Bool := decide (Sat m (prodOf f p))
end Go.Mw
/- Maps: rules for walks. -/
namespace Go.Mw
set_option maxRecDepth 100000
abbrev KV := (Int × Int) × AV
def eKV (e : KV) : AV × AV := (.agg [I e.1.1, I e.1.2], e.2)
def entsE (l : List KV) : List (AV × AV) := l.map eKV
def hasM (l : List KV) (k : Int × Int) : Bool := l.any fun e => e.1 == k
def idxM (l : List KV) (k : Int × Int) : Nat := (l.findIdx? fun e => e.1 == k).getD l.length
def lookM (l : List KV) (k : Int × Int) (z : AV) : AV := match l.find? fun e => e.1 == k with | some e => e.2 | none => z
def ensM (l : List KV) (k : Int × Int) (z : AV) : List KV := if hasM l k then l else l ++ [(k, z)]
def setIM : List KV → Nat → AV → List KV
 | [], _, _ => []
 | e :: l, 0, v => (e.1, v) :: l
 | e :: l, i + 1, v => e :: setIM l i v
def putM (l : List KV) (k : Int × Int) (v : AV) : List KV := setIM (ensM l k v) (idxM l k) v
theorem findK_E {l : List KV} {a b : Int} : findK (true, [1, 1]) (.agg [I a, I b]) (entsE l) = some (l.findIdx? fun e => e.1 == (a, b)) := by
 have hk : (keyEq (true, [1, 1]) (.agg [I a, I b]) (.agg [I a, I b])).isSome = true ∧ (AV.agg [I a, I b]).k64 = true := by
  simp [keyEq, eqCells, eqCell, AV.k64, AV.c64]
 have key : ∀ (l : List KV) (n : Nat), findKey (true, [1, 1]) (.agg [I a, I b]) (entsE l) n = some ((l.findIdx? fun e => e.1 == (a, b)).map (· + n)) := by
  intro l
  induction l with
  | nil => intro n; rfl
  | cons e l ih =>
    intro n
    obtain ⟨⟨c, d⟩, v⟩ := e
    simp only [entsE, List.map_cons, eKV, findKey]
    have he : keyEq (true, [1, 1]) (.agg [I a, I b]) (.agg [I c, I d]) = some ((c, d) == (a, b)) := by
     simp only [keyEq, eqCells, eqCell, if_true]
     have e1 : (a == c) = (c == a) := Bool.beq_comm
     have e2 : (b == d) = (d == b) := Bool.beq_comm
     have e3 : ((c, d) == (a, b)) = ((c == a) && (d == b)) := rfl
     rw [e1, e2, e3]
     cases (c == a) <;> cases (d == b) <;> rfl
    rw [he, List.findIdx?_cons]
    cases hb : ((c, d) == (a, b)) with
    | true => simp
    | false =>
      simp only [Bool.false_eq_true, if_false]
      have := ih (n + 1)
      unfold entsE at this
      rw [this, Option.map_map]
      congr 2
      funext i
      simp; omega
 rw [findK, if_pos hk, key l 0]
 simp
theorem idx_lt {l : List KV} {k : Int × Int} {i : Nat} (h : (l.findIdx? fun e => e.1 == k) = some i) : ∃ hi : i < l.length, l[i].1 = k := by
 obtain ⟨h1, h2, _⟩ := List.findIdx?_eq_some_iff_getElem.1 h
 exact ⟨h1, by simpa using h2⟩
theorem find_idx {l : List KV} {k : Int × Int} : (l.find? fun e => e.1 == k) = match l.findIdx? fun e => e.1 == k with | some i => l[i]? | none => none := by
 induction l with
 | nil => rfl
 | cons e l ih =>
   rw [List.find?_cons, List.findIdx?_cons]
   cases hb : (e.1 == k) with
   | true => simp
   | false =>
     simp only [Bool.false_eq_true, if_false, ih]
     cases l.findIdx? fun e => e.1 == k <;> simp
theorem has_idx {l : List KV} {k : Int × Int} : hasM l k = (l.findIdx? fun e => e.1 == k).isSome := by
 unfold hasM
 rw [List.findIdx?_isSome]
section
variable {G : Prg} {b : Nat} {σ : St} {k : AV → St → Prop}
def ownmK (x : AV) (k : List (AV × AV) → Prop) (u : Tg k := tg) : Prop := match x with | .ownm es => k es | _ => False
theorem ownmK_congr {k : List (AV × AV) → Prop} {x x' : AV} (h0 : x = x') : ownmK x k = ownmK x' k := by cases h0; rfl
theorem ownmK_ownm {es : List (AV × AV)} {q : List (AV × AV) → Prop} : ownmK (.ownm es) q = q es := (rfl)
def lokK (kk : KK) (z : AV) (ok : Bool) (m x : AV) (h : List Ob) (k : AV → Prop) (u : Tg k := tg) : Prop :=
 match (match m with | .nilm => some [] | .mp r st p ss => (match node h r st p ss with | some (.ownm es) => some es | _ => none) | _ => none : Option (List (AV × AV))) with
 | some es => (match findK kk x es with
   | some (some i) => (match es[i]? with | some (_, v) => k (if ok then .tup [v, .bool true] else v) | none => False)
   | some none => k (if ok then .tup [z, .bool false] else z)
   | none => False)
 | none => False
theorem lokK_congr {kk : KK} {z : AV} {ok : Bool} {m m' x x' : AV} {h h' : List Ob} {k : AV → Prop} (h0 : m = m') (h1 : x = x') (h2 : h = h') : lokK kk z ok m x h k = lokK kk z ok m' x' h' k := by cases h0; cases h1; cases h2; rfl
attribute [congr] ownmK_congr lokK_congr
theorem wpI_lok {kk : KK} {z : AV} {ok : Bool} {m x : Opd} : wpI G (.lok kk z ok m x) b σ k = lokK kk z ok (σ.get m) (σ.get x) σ.h (fun v => k v σ) := by
 have key : ∀ es : Option (List (AV × AV)), (stepK (match es with
  | some es => match findK kk (σ.get x) es with
    | some (some i) => match es[i]? with
      | some (_, v) => some (if ok then .tup [v, .bool true] else v, σ.h)
      | none => none
    | some none => some (if ok then .tup [z, .bool false] else z, σ.h)
    | none => none
  | none => none) (fun v h => k v { σ with h })) = (match es with
  | some es => (match findK kk (σ.get x) es with
    | some (some i) => (match es[i]? with | some (_, v) => k (if ok then .tup [v, .bool true] else v) σ | none => False)
    | some none => k (if ok then .tup [z, .bool false] else z) σ
    | none => False)
  | none => False) := by
  intro es
  cases es with
  | none => rfl
  | some es =>
    simp only
    cases findK kk (σ.get x) es with
    | none => rfl
    | some o =>
      cases o with
      | none => rfl
      | some i =>
        simp only
        cases es[i]? with
        | none => rfl
        | some e => obtain ⟨a, v⟩ := e; rfl
 simp only [wpI, ax, lokK]
 cases σ.get m <;> first | exact key none | exact key (some []) | skip
 rename_i r st p ss
 simp only
 cases node σ.h r st p ss with
 | none => exact key none
 | some nd => cases nd <;> first | exact key none | exact key (some _)
def lokE (kk : KK) (z : AV) (ok : Bool) (x : AV) (es : List (AV × AV)) (k : AV → Prop) (u : Tg k := tg) : Prop :=
 match findK kk x es with
 | some (some i) => (match es[i]? with | some (_, v) => k (if ok then .tup [v, .bool true] else v) | none => False)
 | some none => k (if ok then .tup [z, .bool false] else z)
 | none => False
theorem lokE_congr {kk : KK} {z : AV} {ok : Bool} {x x' : AV} {es es' : List (AV × AV)} {k : AV → Prop} (h0 : x = x') (h1 : es = es') : lokE kk z ok x es k = lokE kk z ok x' es' k := by cases h0; cases h1; rfl
attribute [congr] lokE_congr
theorem lokK_mp {kk : KK} {z : AV} {ok : Bool} {x : AV} {h : List Ob} {r st ss : Nat} {q : AV → Prop} : lokK kk z ok (.mp r st [] ss) x h q = nodeK h r st [] ss (fun nd => ownmK nd (fun es => lokE kk z ok x es q)) := by
 simp only [lokK, nodeK, ownmK, lokE]
 cases node h r st [] ss with
 | none => rfl
 | some nd => cases nd <;> rfl
theorem lokE_E {z : AV} {ok : Bool} {a c : Int} {l : List KV} {q : AV → Prop} : lokE (true, [1, 1]) z ok (.agg [I a, I c]) (entsE l) q = q (if ok then .tup [lookM l (a, c) z, Bo (hasM l (a, c))] else lookM l (a, c) z) := by
 simp only [lokE, findK_E, lookM, find_idx, has_idx]
 cases h : l.findIdx? fun e => e.1 == (a, c) with
 | none => rfl
 | some i =>
   obtain ⟨hi, _⟩ := idx_lt h
   simp only [entsE, List.getElem?_map, List.getElem?_eq_getElem hi, Option.map_some, eKV, Option.isSome_some]
def mupK (kk : KK) (m x v : AV) (h : List Ob) (k : List Ob → Prop) (u : Tg k := tg) : Prop :=
 match m with
 | .mp r st p ss => (match node h r st p ss with
   | some (.ownm es) => if v.free = true ∧ x.free = true then (match findK kk x es with
     | some (some i) => (match es[i]? with
       | some (k', _) => (match setOb h r p (.ownm (es.set i (k', v))) false with | some h' => k h' | none => False)
       | none => False)
     | some none => (match setOb h r p (.ownm (es ++ [(x, v)])) false with | some h' => k h' | none => False)
     | none => False) else False
   | _ => False)
 | _ => False
theorem mupK_congr {kk : KK} {m m' x x' v v' : AV} {h h' : List Ob} {k : List Ob → Prop} (h0 : m = m') (h1 : x = x') (h2 : h = h') (h3 : v = v') : mupK kk m x v h k = mupK kk m' x' v' h' k := by cases h0; cases h1; cases h2; cases h3; rfl
attribute [congr] mupK_congr
theorem wpI_mup {kk : KK} {m x v : Opd} : wpI G (.mup kk m x v) b σ k = mupK kk (σ.get m) (σ.get x) (σ.get v) σ.h (fun h => k .undef { σ with h }) := by
 simp only [wpI, ax, mupK]
 cases σ.get m <;> first | rfl | skip
 rename_i r st p ss
 simp only
 cases node σ.h r st p ss with
 | none => rfl
 | some nd =>
   cases nd <;> first | rfl | skip
   rename_i es
   simp only
   split
   ·cases findK kk (σ.get x) es with
    | none => rfl
    | some o =>
      cases o with
      | none => simp only; cases setOb σ.h r p (.ownm (es ++ [(σ.get x, σ.get v)])) false <;> rfl
      | some i =>
        simp only
        cases es[i]? with
        | none => rfl
        | some e => obtain ⟨a, w⟩ := e; simp only; cases setOb σ.h r p (.ownm (es.set i (a, σ.get v))) false <;> rfl
   ·rfl
theorem setIM_E {l : List KV} {i : Nat} {v : AV} {kv : AV × AV} (h : (entsE l)[i]? = some kv) : (entsE l).set i (kv.1, v) = entsE (setIM l i v) := by
 induction l generalizing i with
 | nil => simp [entsE] at h
 | cons e l ih =>
   cases i with
   | zero => simp [entsE] at h; subst h; rfl
   | succ i =>
     have := ih (i := i) (by simpa [entsE] using h)
     simp only [entsE, setIM, List.map_cons, List.set_cons_succ] at this ⊢
     rw [this]
theorem mupK_mp {x v : AV} {a c : Int} {h : List Ob} {r st ss : Nat} {q : List Ob → Prop} : mupK (true, [1, 1]) (.mp r st [] ss) (.agg [I a, I c]) v h q =
 nodeK h r st [] ss (fun nd => ownmK nd (fun es => v.free = true ∧ obK h[r]? (fun o => (match findK (true, [1, 1]) (.agg [I a, I c]) es with
  | some (some i) => (match es[i]? with | some (k', _) => q (h.set r ⟨o.st, o.ss, .ownm (es.set i (k', v))⟩) | none => False)
  | some none => q (h.set r ⟨o.st, o.ss, .ownm (es ++ [(.agg [I a, I c], v)])⟩)
  | none => False)))) := by
 simp only [mupK, nodeK, ownmK]
 have hf : (AV.agg [I a, I c]).free = true := rfl
 cases hn : node h r st [] ss with
 | none => rfl
 | some nd =>
   cases nd <;> first | rfl | skip
   rename_i es
   simp only [hf, and_true]
   by_cases hv : v.free = true
   ·simp only [hv, if_true, true_and]
    cases hr : h[r]? with
    | none => simp [node, hr] at hn
    | some o =>
      have hs : ∀ w, setOb h r [] w false = some (h.set r ⟨o.st, o.ss, w⟩) := fun w => by simp [setOb, hr, upd]
      simp only [hs, obK]
   ·simp [hv]
def mupE (a c : Int) (v : AV) (h : List Ob) (r st ss : Nat) (es : List (AV × AV)) (k : List Ob → Prop) (u : Tg k := tg) : Prop :=
 match findK (true, [1, 1]) (.agg [I a, I c]) es with
 | some (some i) => (match es[i]? with | some (k', _) => k (h.set r ⟨st, ss, .ownm (es.set i (k', v))⟩) | none => False)
 | some none => k (h.set r ⟨st, ss, .ownm (es ++ [(.agg [I a, I c], v)])⟩)
 | none => False
theorem mupE_congr {a c : Int} {v v' : AV} {h h' : List Ob} {r st ss : Nat} {es es' : List (AV × AV)} {k : List Ob → Prop} (h0 : v = v') (h1 : h = h') (h2 : es = es') : mupE a c v h r st ss es k = mupE a c v' h' r st ss es' k := by cases h0; cases h1; cases h2; rfl
attribute [congr] mupE_congr
theorem mupK_mp' {v : AV} {a c : Int} {h : List Ob} {r st ss : Nat} {q : List Ob → Prop} : mupK (true, [1, 1]) (.mp r st [] ss) (.agg [I a, I c]) v h q =
 nodeK h r st [] ss (fun nd => ownmK nd (fun es => v.free = true ∧ obK h[r]? (fun o => mupE a c v h r o.st o.ss es q))) := mupK_mp (x := v)
theorem setIM_app {l : List KV} {e : KV} {v : AV} : setIM (l ++ [e]) l.length v = l ++ [(e.1, v)] := by
 induction l with
 | nil => rfl
 | cons x l ih => simp only [List.cons_append, List.length_cons, setIM, ih]
theorem ens_none {l : List KV} {k : Int × Int} {z v : AV} (h : (l.findIdx? fun e => e.1 == k) = none) : setIM (ensM l k z) (idxM l k) v = l ++ [(k, v)] := by
 have h1 : hasM l k = false := by rw [has_idx, h]; rfl
 simp only [ensM, h1, Bool.false_eq_true, if_false, idxM, h, Option.getD_none]
 exact setIM_app
theorem mupE_E {a c : Int} {v : AV} {h : List Ob} {r st ss : Nat} {l : List KV} {q : List Ob → Prop} : mupE a c v h r st ss (entsE l) q = q (h.set r ⟨st, ss, .ownm (entsE (putM l (a, c) v))⟩) := by
 simp only [mupE, findK_E]
 cases hf : l.findIdx? fun e => e.1 == (a, c) with
 | none =>
   have := @ens_none l (a, c) v v hf
   simp only [putM, this]
   simp [entsE, eKV]
 | some i =>
   obtain ⟨hi, _⟩ := idx_lt hf
   have hs : hasM l (a, c) = true := by rw [has_idx, hf]; rfl
   have hg : (entsE l)[i]? = some (eKV l[i]) := by simp [entsE, hi]
   simp only [hg]
   simp only [putM, ensM, hs, if_true, idxM, hf, Option.getD_some]
   rw [← setIM_E hg]
def menE (a c : Int) (z : AV) (h : List Ob) (r st ss ss0 : Nat) (es : List (AV × AV)) (k : AV → List Ob → Prop) (u : Tg k := tg) : Prop :=
 match findK (true, [1, 1]) (.agg [I a, I c]) es with
 | some (some i) => (match es[i]? with | some (_, v) => k (.tup [v, .ent r st [] ss0 i]) (h.set r ⟨st, ss, .ownm es⟩) | none => False)
 | some none => k (.tup [z, .ent r st [] ss0 es.length]) (h.set r ⟨st, ss, .ownm (es ++ [(.agg [I a, I c], z)])⟩)
 | none => False
theorem menE_congr {a c : Int} {z : AV} {h h' : List Ob} {r st ss ss0 : Nat} {es es' : List (AV × AV)} {k : AV → List Ob → Prop} (h1 : h = h') (h2 : es = es') : menE a c z h r st ss ss0 es k = menE a c z h' r st ss ss0 es' k := by cases h1; cases h2; rfl
def menK (kk : KK) (z m x : AV) (h : List Ob) (k : AV → List Ob → Prop) (u : Tg k := tg) : Prop :=
 match m with
 | .mp r st p ss => (match node h r st p ss with
   | some (.ownm es) => if x.free = true ∧ z.free = true then (match findK kk x es with
     | some (some i) => (match es[i]? with | some (_, v) => k (.tup [v, .ent r st p ss i]) h | none => False)
     | some none => (match setOb h r p (.ownm (es ++ [(x, z)])) false with | some h' => k (.tup [z, .ent r st p ss es.length]) h' | none => False)
     | none => False) else False
   | _ => False)
 | _ => False
theorem menK_congr {kk : KK} {z m m' x x' : AV} {h h' : List Ob} {k : AV → List Ob → Prop} (h0 : m = m') (h1 : x = x') (h2 : h = h') : menK kk z m x h k = menK kk z m' x' h' k := by cases h0; cases h1; cases h2; rfl
attribute [congr] menE_congr menK_congr
theorem wpI_men {kk : KK} {z : AV} {m x : Opd} : wpI G (.men kk z m x) b σ k = menK kk z (σ.get m) (σ.get x) σ.h (fun v h => k v { σ with h }) := by
 simp only [wpI, ax, menK]
 cases σ.get m <;> first | rfl | skip
 rename_i r st p ss
 simp only
 ·cases node σ.h r st p ss with
  | none => rfl
  | some nd =>
    cases nd <;> first | rfl | skip
    rename_i es
    simp only
    split
    ·cases findK kk (σ.get x) es with
     | none => rfl
     | some o =>
       cases o with
       | none => simp only; cases setOb σ.h r p (.ownm (es ++ [(σ.get x, z)])) false <;> rfl
       | some i =>
         simp only
         cases es[i]? with
         | none => rfl
         | some e => obtain ⟨a, w⟩ := e; rfl
    ·rfl
theorem menK_mp {z : AV} {a c : Int} {h : List Ob} {r st ss : Nat} {q : AV → List Ob → Prop} : menK (true, [1, 1]) z (.mp r st [] ss) (.agg [I a, I c]) h q =
 nodeK h r st [] ss (fun nd => ownmK nd (fun es => z.free = true ∧ obK h[r]? (fun o => menE a c z h r o.st o.ss ss es q))) := by
 simp only [menK, nodeK, ownmK, menE]
 have hf : (AV.agg [I a, I c]).free = true := rfl
 cases hn : node h r st [] ss with
 | none => rfl
 | some nd =>
   cases nd <;> first | rfl | skip
   rename_i es
   simp only [hf, true_and]
   by_cases hv : z.free = true
   ·simp only [hv, if_true, true_and]
    cases hr : h[r]? with
    | none => simp [node, hr] at hn
    | some o =>
      have hst : o.st = st ∧ o.c = .ownm es := by
       simp only [node, hr] at hn
       split at hn
       ·rename_i hc; simp only [nav, Option.some.injEq] at hn; exact ⟨hc.1, hn⟩
       ·cases hn
      have hset : h.set r ⟨st, o.ss, .ownm es⟩ = h := by
       apply List.ext_getElem?
       intro j
       rw [List.getElem?_set]
       split
       ·rename_i e; subst e; rw [hr]; simp only [(List.getElem?_eq_some_iff.1 hr).1, if_true, Option.some.injEq]
        obtain ⟨a, b, c⟩ := o; simp only at hst; obtain ⟨rfl, rfl⟩ := hst; rfl
       ·rfl
      have hs : ∀ w, setOb h r [] w false = some (h.set r ⟨o.st, o.ss, w⟩) := fun w => by simp [setOb, hr, upd]
      simp only [hs, obK, hst.1, hset]
   ·simp [hv]
theorem menE_E {a c : Int} {z : AV} {h : List Ob} {r st ss ss0 : Nat} {l : List KV} {q : AV → List Ob → Prop} : menE a c z h r st ss ss0 (entsE l) q = q (.tup [lookM l (a, c) z, .ent r st [] ss0 (idxM l (a, c))]) (h.set r ⟨st, ss, .ownm (entsE (ensM l (a, c) z))⟩) := by
 simp only [menE, findK_E, lookM, find_idx, ensM, has_idx, idxM]
 cases hf : l.findIdx? fun e => e.1 == (a, c) with
 | none => simp [entsE, eKV]
 | some i =>
   obtain ⟨hi, _⟩ := idx_lt hf
   have hg : (entsE l)[i]? = some (eKV l[i]) := by simp [entsE, hi]
   simp only [hg, eKV, Option.isSome_some, if_true, Option.getD_some, List.getElem?_eq_getElem hi]
def estK (m s v : AV) (h : List Ob) (k : List Ob → Prop) (u : Tg k := tg) : Prop :=
 match m, s with
 | .mp r st p ss, .ent r' st' p' ss' i => if r' = r ∧ st' = st ∧ p' = p ∧ ss' = ss ∧ v.free = true then (match node h r st p ss with
   | some (.ownm es) => (match es[i]? with
     | some (k', _) => (match setOb h r p (.ownm (es.set i (k', v))) false with | some h' => k h' | none => False)
     | none => False)
   | _ => False) else False
 | _, _ => False
theorem estK_congr {m m' s s' v v' : AV} {h h' : List Ob} {k : List Ob → Prop} (h0 : m = m') (h1 : s = s') (h2 : h = h') (h3 : v = v') : estK m s v h k = estK m' s' v' h' k := by cases h0; cases h1; cases h2; cases h3; rfl
attribute [congr] estK_congr
theorem wpI_est {m s v : Opd} : wpI G (.est m s v) b σ k = estK (σ.get m) (σ.get s) (σ.get v) σ.h (fun h => k .undef { σ with h }) := by
 simp only [wpI, ax, estK]
 cases σ.get m <;> cases σ.get s <;> first | rfl | skip
 rename_i r st p ss r' st' p' ss' i
 simp only
 split
 ·cases node σ.h r st p ss with
  | none => rfl
  | some nd =>
    cases nd <;> first | rfl | skip
    rename_i es
    simp only
    cases es[i]? with
    | none => rfl
    | some e => obtain ⟨a, w⟩ := e; simp only; cases setOb σ.h r p (.ownm (es.set i (a, σ.get v))) false <;> rfl
 ·rfl
def estE (i : Nat) (v : AV) (h : List Ob) (r st ss : Nat) (es : List (AV × AV)) (k : List Ob → Prop) (u : Tg k := tg) : Prop :=
 match es[i]? with
 | some (k', _) => k (h.set r ⟨st, ss, .ownm (es.set i (k', v))⟩)
 | none => False
theorem estE_congr {i : Nat} {v v' : AV} {h h' : List Ob} {r st ss : Nat} {es es' : List (AV × AV)} {k : List Ob → Prop} (h0 : v = v') (h1 : h = h') (h2 : es = es') : estE i v h r st ss es k = estE i v' h' r st ss es' k := by cases h0; cases h1; cases h2; rfl
attribute [congr] estE_congr
theorem estK_mp {v : AV} {h : List Ob} {r st ss r' st' ss' i : Nat} {q : List Ob → Prop} : estK (.mp r st [] ss) (.ent r' st' [] ss' i) v h q =
 ((r' = r ∧ st' = st ∧ ss' = ss ∧ v.free = true) ∧ nodeK h r st [] ss (fun nd => ownmK nd (fun es => obK h[r]? (fun o => estE i v h r o.st o.ss es q)))) := by
 simp only [estK, nodeK, ownmK, estE]
 by_cases hc : r' = r ∧ st' = st ∧ ss' = ss ∧ v.free = true
 ·obtain ⟨rfl, rfl, rfl, hv⟩ := hc
  simp only [hv, and_self, if_true, true_and]
  cases hn : node h r' st' [] ss' with
  | none => rfl
  | some nd =>
    cases nd <;> first | rfl | skip
    rename_i es
    simp only
    cases hr : h[r']? with
    | none => simp [node, hr] at hn
    | some o =>
      have hs : ∀ w, setOb h r' [] w false = some (h.set r' ⟨o.st, o.ss, w⟩) := fun w => by simp [setOb, hr, upd]
      simp only [hs, obK]
 ·have : ¬ (r' = r ∧ st' = st ∧ ([] : Path) = [] ∧ ss' = ss ∧ v.free = true) := fun ⟨a, b, _, c, d⟩ => hc ⟨a, b, c, d⟩
  simp [hc, this]
theorem ens_idx {l : List KV} {k : Int × Int} {z : AV} : idxM l k < (ensM l k z).length := by
 unfold idxM ensM
 rw [has_idx]
 cases hf : l.findIdx? fun e => e.1 == k with
 | none => simp
 | some i => obtain ⟨hi, _⟩ := idx_lt hf; simpa using hi
theorem estE_E {v : AV} {h : List Ob} {r st ss : Nat} {l : List KV} {k : Int × Int} {z : AV} {q : List Ob → Prop} : estE (idxM l k) v h r st ss (entsE (ensM l k z)) q = q (h.set r ⟨st, ss, .ownm (entsE (putM l k v))⟩) := by
 have hi := @ens_idx l k z
 have hg : (entsE (ensM l k z))[idxM l k]? = some (eKV (ensM l k z)[idxM l k]) := by simp [entsE, hi]
 simp only [estE, hg]
 have h2 := @setIM_E (ensM l k z) (idxM l k) v _ hg
 simp only [eKV] at h2 ⊢
 rw [h2]
 have : setIM (ensM l k z) (idxM l k) v = putM l k v := by
  unfold putM
  cases hf : l.findIdx? fun e => e.1 == k with
  | none => rw [ens_none hf, ens_none hf]
  | some i =>
    have hs : hasM l k = true := by rw [has_idx, hf]; rfl
    simp only [ensM, hs, if_true]
 rw [this]
end
theorem footE_lok {G : Prg} {b : Nat} {σ : St} {kk : KK} {z : AV} {ok : Bool} {x y : Opd} : foot G b (.lok kk z ok x y) σ = some (rootsL [σ.get x, σ.get y]) := (rfl)
attribute [go_sem] ownmK_ownm wpI_lok lokK_mp lokE_E wpI_mup mupK_mp' mupE_E wpI_men menK_mp menE_E wpI_est estK_mp estE_E footE_lok
end Go.Mw
/- Pairs that are met for sets of products at once, plainly. -/
namespace Go.Mw
set_option maxRecDepth 100000
def andn (m n : Nat) : Nat := m ^^^ (m &&& n)
theorem andn_test {m n a : Nat} : (andn m n).testBit a = (m.testBit a && !n.testBit a) := by
 unfold andn; rw [Nat.testBit_xor, Nat.testBit_and]; cases m.testBit a <;> cases n.testBit a <;> rfl
theorem testBit_eq {m n : Nat} (h : ∀ a, m.testBit a = n.testBit a) : m = n := Nat.eq_of_testBit_eq h
theorem bandn_nat {m n : Nat} (hm : m < 2 ^ 63) (hn : n < 2 ^ 63) : bandn .i64 (m : Int) (n : Int) = ((andn m n : Nat) : Int) := by
 unfold bandn
 have hb : IntKind.i64.bits = 64 := rfl
 rw [hb, BitVec.ofInt_natCast, BitVec.ofInt_natCast]
 have hle : (BitVec.ofNat 64 m &&& ~~~ BitVec.ofNat 64 n).toNat < 2 ^ 63 := by
  rw [BitVec.toNat_and, BitVec.toNat_ofNat]
  exact Nat.lt_of_le_of_lt (Nat.and_le_left) (by rw [Nat.mod_eq_of_lt (by omega)]; exact hm)
 rw [wrapN hle]
 congr 1
 apply testBit_eq
 intro a
 rw [andn_test, BitVec.testBit_toNat, BitVec.getLsbD_and, BitVec.getLsbD_not, BitVec.getLsbD_ofNat, BitVec.getLsbD_ofNat]
 by_cases h64 : a < 64
 ·simp [h64]
 ·have : m.testBit a = false := Nat.testBit_lt_two_pow (Nat.lt_of_lt_of_le hm (Nat.pow_le_pow_right (by omega) (by omega)))
  simp [h64, this]
theorem testBit_lt {n P a : Nat} (h : n < 2 ^ P) (ha : n.testBit a = true) : a < P := by
 rcases Nat.lt_or_ge a P with h1 | h1
 ·exact h1
 ·rw [testBit_big h h1] at ha; cases ha
theorem lt_of_bits {n P : Nat} (h : ∀ a, n.testBit a = true → a < P) : n < 2 ^ P := by
 apply Nat.lt_pow_two_of_testBit
 intro i hi
 cases hb : n.testBit i with
 | false => rfl
 | true => have := h i hb; omega
def updR (R : Nat → Nat → Nat) (x y v : Nat) : Nat → Nat → Nat := fun x' y' => if x' = x ∧ y' = y then v else R x' y'
open Classical in
structure SI (m : Sys) (f : Fam) (P : Nat) (good : Nat) (R : Nat → Nat → Nat) (Q : List (Nat × Nat)) (I : Option (Nat × Nat × Nat)) : Prop where
 gl : good < 2 ^ P
 q : ∀ p ∈ Q, p.1 < m.S.length ∧ p.2 < f.S.length
 a : ∀ p x y, (R x y).testBit p = true → p < P ∧ Rch m (prodOf f p) x y
 z : ∀ p < P, (R 0 0).testBit p = true
 g : ∀ p < P, good.testBit p = false → ¬ Sat m (prodOf f p)
 c : ∀ p, good.testBit p = true → ∀ x y, (R x y).testBit p = true → (x, y) ∈ Q ∨ (∃ H, I = some (x, y, H) ∧ H.testBit p = true) ∨ (goodP m (prodOf f p) x y ∧ ∀ i < m.S[x]!.length, (R m.S[x]![i]!.t.toNat (nxt (prodOf f p) y m.S[x]![i]!.a.toNat).toNat).testBit p = true)
theorem SI.rl {m : Sys} {f : Fam} {P good : Nat} {R : Nat → Nat → Nat} {Q : List (Nat × Nat)} {I : Option (Nat × Nat × Nat)} (h : SI m f P good R Q I) (x y : Nat) : R x y < 2 ^ P := lt_of_bits fun a ha => (h.a a x y ha).1
theorem SI.fin {m : Sys} {f : Fam} {P good : Nat} {R : Nat → Nat → Nat} (h : SI m f P good R [] none) : good = bitsN (satP m f) P := by
 apply testBit_eq
 intro p
 rw [bitsN_test]
 by_cases hp : p < P
 ·cases hg : good.testBit p with
  | true =>
    have : Sat m (prodOf f p) := by
     refine sat_of (P := fun x y => (R x y).testBit p = true) ⟨h.z p hp, fun x y hr _ i hi => ?_⟩ (fun x y hr => ?_)
     ·rcases h.c p hg x y hr with h1 | ⟨H, h1, _⟩ | h1
      ·cases h1
      ·cases h1
      ·exact h1.2 i hi
     ·rcases h.c p hg x y hr with h1 | ⟨H, h1, _⟩ | h1
      ·cases h1
      ·cases h1
      ·exact h1.1
    simp [hp, satP, this]
  | false => simp [hp, satP, h.g p hp hg]
 ·have hg : good.testBit p = false := by
   cases hg : good.testBit p with
   | false => rfl
   | true => have := testBit_lt h.gl hg; omega
  simp [hp, hg]
theorem SI.take {m : Sys} {f : Fam} {P good : Nat} {R : Nat → Nat → Nat} {Q : List (Nat × Nat)} {x y acc : Nat} (h : SI m f P good R ((x, y) :: Q) none) (hacc : ∀ p < P, acc.testBit p = true ↔ goodP m (prodOf f p) x y) :
 SI m f P (andn good (andn (R x y &&& good) acc)) R Q (some (x, y, R x y &&& good &&& acc)) := by
 have hgb : ∀ p, (andn good (andn (R x y &&& good) acc)).testBit p = (good.testBit p && !((R x y).testBit p && !acc.testBit p)) := by
  intro p; rw [andn_test, andn_test, Nat.testBit_and]
  cases good.testBit p <;> cases (R x y).testBit p <;> cases acc.testBit p <;> rfl
 refine ⟨lt_of_bits fun p hp => ?_, fun p hp => h.q p (List.mem_cons_of_mem _ hp), h.a, h.z, fun p hp hg => ?_, fun p hp x' y' hr => ?_⟩
 ·rw [hgb] at hp; exact testBit_lt h.gl (by simp at hp; exact hp.1)
 ·rw [hgb] at hg
  cases hgo : good.testBit p with
  | false => exact h.g p hp hgo
  | true =>
    rw [hgo] at hg
    simp at hg
    obtain ⟨h1, h2⟩ := hg
    intro hs
    have := (hacc p hp).2 (hs x y (h.a p x y h1).2)
    rw [h2] at this; cases this
 ·rw [hgb] at hp
  simp only [Bool.and_eq_true, Bool.not_eq_true'] at hp
  rcases h.c p hp.1 x' y' hr with h1 | ⟨H, h1, _⟩ | h1
  ·rcases List.mem_cons.1 h1 with h1 | h1
   ·simp only [Prod.mk.injEq] at h1
    obtain ⟨rfl, rfl⟩ := h1
    right; left
    refine ⟨_, rfl, ?_⟩
    rw [Nat.testBit_and, Nat.testBit_and, hr, hp.1]
    have := hp.2
    rw [hr] at this
    simpa using this
   ·exact .inl h1
  ·cases h1
  ·exact .inr (.inr h1)
theorem SI.more {m : Sys} {f : Fam} {P good : Nat} {R : Nat → Nat → Nat} {Q : List (Nat × Nat)} {x y H tx ty mo : Nat} (h : SI m f P good R Q (some (x, y, H))) (htx : tx < m.S.length) (hty : ty < f.S.length)
 (hm : ∀ p, mo.testBit p = true → p < P ∧ Rch m (prodOf f p) tx ty) : SI m f P good (updR R tx ty (R tx ty ||| mo)) (Q ++ [(tx, ty)]) (some (x, y, H)) := by
 have hu : ∀ p x' y', (updR R tx ty (R tx ty ||| mo) x' y').testBit p = true ↔ (R x' y').testBit p = true ∨ (x' = tx ∧ y' = ty ∧ mo.testBit p = true) := by
  intro p x' y'
  unfold updR
  split
  ·rename_i e; obtain ⟨rfl, rfl⟩ := e; rw [Nat.testBit_or, Bool.or_eq_true]; simp
  ·rename_i e; exact ⟨.inl, fun h => h.resolve_right (fun h => e ⟨h.1, h.2.1⟩)⟩
 refine ⟨h.gl, fun p hp => ?_, fun p x' y' hr => ?_, fun p hp => (hu p 0 0).2 (.inl (h.z p hp)), h.g, fun p hp x' y' hr => ?_⟩
 ·rw [List.mem_append, List.mem_singleton] at hp
  rcases hp with hp | rfl
  ·exact h.q p hp
  ·exact ⟨htx, hty⟩
 ·rcases (hu p x' y').1 hr with hr' | ⟨e1, e2, hr'⟩
  ·exact h.a p x' y' hr'
  ·rw [e1, e2]; exact hm p hr'
 ·rcases (hu p x' y').1 hr with hr | ⟨rfl, rfl, _⟩
  ·rcases h.c p hp x' y' hr with h1 | h1 | ⟨h1, h2⟩
   ·exact .inl (List.mem_append_left _ h1)
   ·exact .inr (.inl h1)
   ·exact .inr (.inr ⟨h1, fun i hi => (hu p _ _).2 (.inl (h2 i hi))⟩)
  ·exact .inl (List.mem_append_right _ (List.mem_singleton_self _))
theorem SI.done {m : Sys} {f : Fam} {P good : Nat} {R : Nat → Nat → Nat} {Q : List (Nat × Nat)} {x y H : Nat} (h : SI m f P good R Q (some (x, y, H))) (hg : ∀ p, H.testBit p = true → goodP m (prodOf f p) x y)
 (hd : ∀ p, H.testBit p = true → ∀ i < m.S[x]!.length, (R m.S[x]![i]!.t.toNat (nxt (prodOf f p) y m.S[x]![i]!.a.toNat).toNat).testBit p = true) : SI m f P good R Q none := by
 refine ⟨h.gl, h.q, h.a, h.z, h.g, fun p hp x' y' hr => ?_⟩
 rcases h.c p hp x' y' hr with h1 | ⟨H', h1, h2⟩ | h1
 ·exact .inl h1
 ·simp only [Option.some.injEq, Prod.mk.injEq] at h1
  obtain ⟨rfl, rfl, rfl⟩ := h1
  exact .inr (.inr ⟨hg p h2, hd p h2⟩)
 ·exact .inr (.inr h1)
end Go.Mw
/- Which products a system satisfies, as the program finds them. -/
namespace Go.Mw
set_option maxRecDepth 100000
attribute [go_sem] wp_mvt
section
variable {fr : Bool} {roots : List Nat} {b : Nat} {ss : List Nat} {σ : St} {q : AV → St → Prop}
end
end Go.Mw
