/- All hollow states, as the program finds them. -/
import Derived.Test.YtlkjckdddfckeaaM19
set_option linter.unusedVariables false
set_option linter.unusedSimpArgs false
namespace Go.Mw
set_option maxRecDepth 100000
def eN2 (p : Nat × Nat) : AV := .agg [eN p.1, eN p.2]
def rowP2 (l : List (Nat × Nat)) : AV := cellv .nils 2 (l.map eN2)
def dcell (s : Spc) (i x : Nat) : AV := if x < i then .own 1 ((List.replicate s.S[x]!.A.length false).map Bo) else .nils
def lcell (s : Spc) (i x : Nat) : AV := eN (if x < i then s.S[x]!.A.length else 0)
theorem rng_get {n k : Nat} (h : k < n) : (List.range n)[k]! = k := by rw [getElem!_pos (List.range n) k (by simpa using h)]; simp
theorem dcell_self {s : Spc} {i : Nat} : dcell s i i = .nils := by simp [dcell]
theorem lcell_self {s : Spc} {i : Nat} : lcell s i i = .int .i64 0 := by simp [lcell, eN]
theorem lcell_next {s : Spc} {i : Nat} : lcell s (i + 1) i = I s.S[i]!.A.length := by simp [lcell, eN]
theorem dcell_set {s : Spc} {n i : Nat} : ((List.range n).map (dcell s i)).set i (.own 1 (List.replicate s.S[i]!.A.length (.bool false))) = (List.range n).map (dcell s (i + 1)) := by
 apply List.ext_getElem?
 intro j
 rw [List.getElem?_set]
 by_cases h : i = j
 ·subst h
  by_cases hl : i < n <;> simp [hl, dcell]
 ·by_cases hl : j < n
  ·have e : (j < i) = (j < i + 1) := propext ⟨fun _ => by omega, fun _ => by omega⟩
   simp [h, hl, dcell, e]
  ·simp [h, hl]
theorem lcell_set {s : Spc} {n i : Nat} : ((List.range n).map (lcell s i)).set i (.int .i64 s.S[i]!.A.length) = (List.range n).map (lcell s (i + 1)) := by
 apply List.ext_getElem?
 intro j
 rw [List.getElem?_set]
 by_cases h : i = j
 ·subst h
  by_cases hl : i < n <;> simp [hl, lcell, eN]
 ·by_cases hl : j < n
  ·have e : (j < i) = (j < i + 1) := propext ⟨fun _ => by omega, fun _ => by omega⟩
   simp [h, hl, lcell, e]
  ·simp [h, hl]
def out1 (s : Spc) (i : Nat) : List Nat := (List.range i).filter fun x => s.S[x]!.A.length == 0
theorem out1_succ {s : Spc} {i : Nat} : out1 s (i + 1) = if s.S[i]!.A.length = 0 then out1 s i ++ [i] else out1 s i := by
 unfold out1; rw [List.range_succ, List.filter_append]
 by_cases h : s.S[i]!.A.length = 0
 ·rw [if_pos h]; congr 1; rw [List.filter_cons, if_pos (by rw [h]; rfl)]; rfl
 ·rw [if_neg h, List.filter_cons, if_neg (by simpa using h)]; simp
theorem out1_len {s : Spc} {i : Nat} : (out1 s i).length ≤ i := by unfold out1; exact Nat.le_trans (List.length_filter_le _ _) (by simp)
theorem elK_set {xs : List AV} {i : Nat} {v : AV} {q : AV → Prop} : elK (xs.set i v) i q = (i < xs.length ∧ q v) := by
 unfold elK
 rw [List.getElem?_set]
 by_cases h : i < xs.length <;> simp [h]
theorem take_map1 {α : Type} {f : α → AV} {l : List α} {x : AV} : List.take (l.length + 1) (l.map f ++ [x]) = l.map f ++ [x] := List.take_of_length_le (by simp)
attribute [go_sem] elK_set take_map1 List.set_set
theorem map_setP {l : List (List (Nat × Nat))} {i : Nat} {v : List (Nat × Nat)} : (l.map rowP2).set i (cellv .nils 2 (v.map eN2)) = (l.set i v).map rowP2 := by rw [List.map_set]; rfl
structure Into (s : Spc) (into : List (List (Nat × Nat))) (i j : Nat) : Prop where
 l : into.length = s.S.length
 m : ∀ y < s.S.length, ∀ x a, (x, a) ∈ into[y]! ↔ (x < i ∨ (x = i ∧ a < j)) ∧ x < s.S.length ∧ a < s.S[x]!.X.length ∧ 0 ≤ s.S[x]!.X[a]! ∧ s.S[x]!.X[a]!.toNat = y
 c : ∀ y < s.S.length, into[y]!.length ≤ i * 8 + j
theorem Into.step {s : Spc} {into : List (List (Nat × Nat))} {i j y : Nat} (h : Into s into i j) (hi : i < s.S.length) (hj : j < s.S[i]!.X.length) (hy : s.S[i]!.X[j]! = y) (hyn : y < s.S.length) : Into s (into.set y (into[y]! ++ [(i, j)])) i (j + 1) := by
 have hl := h.l
 have g : ∀ z, (into.set y (into[y]! ++ [(i, j)]))[z]! = if y = z then into[y]! ++ [(i, j)] else into[z]! := fun z => getS1 (by omega)
 refine ⟨by rw [List.length_set]; exact hl, fun z hz x a => ?_, fun z hz => ?_⟩
 ·rw [g]
  by_cases e : y = z
  ·subst e
   rw [if_pos rfl, List.mem_append, h.m y hz, List.mem_singleton, Prod.mk.injEq]
   constructor
   ·rintro (⟨h1, h2⟩ | ⟨rfl, rfl⟩)
    ·exact ⟨by omega, h2⟩
    ·exact ⟨by omega, hi, hj, by omega, by omega⟩
   ·rintro ⟨h1, h2, h3, h4, h5⟩
    rcases h1 with h1 | ⟨rfl, h1⟩
    ·exact .inl ⟨.inl h1, h2, h3, h4, h5⟩
    ·rcases Nat.lt_or_eq_of_le (Nat.le_of_lt_succ h1) with h6 | rfl
     ·exact .inl ⟨.inr ⟨rfl, h6⟩, h2, h3, h4, h5⟩
     ·exact .inr ⟨rfl, rfl⟩
  ·rw [if_neg e, h.m z hz]
   constructor
   ·rintro ⟨h1, h2⟩; exact ⟨by omega, h2⟩
   ·rintro ⟨h1, h2, h3, h4, h5⟩
    refine ⟨?_, h2, h3, h4, h5⟩
    rcases h1 with h1 | ⟨rfl, h1⟩
    ·exact .inl h1
    ·rcases Nat.lt_or_eq_of_le (Nat.le_of_lt_succ h1) with h6 | rfl
     ·exact .inr ⟨rfl, h6⟩
     ·omega
 ·rw [g]
  split
  ·rename_i e; subst e
   have := h.c y hz
   simp only [List.length_append, List.length_singleton]; omega
  ·have := h.c z hz; omega
theorem Into.skip {s : Spc} {into : List (List (Nat × Nat))} {i j : Nat} (h : Into s into i j) (hy : ¬ 0 ≤ s.S[i]!.X[j]!) : Into s into i (j + 1) := by
 refine ⟨h.l, fun z hz x a => ?_, fun z hz => by have := h.c z hz; omega⟩
 rw [h.m z hz]
 constructor
 ·rintro ⟨h1, h2⟩; exact ⟨by omega, h2⟩
 ·rintro ⟨h1, h2, h3, h4, h5⟩
  refine ⟨?_, h2, h3, h4, h5⟩
  rcases h1 with h1 | ⟨rfl, h1⟩
  ·exact .inl h1
  ·rcases Nat.lt_or_eq_of_le (Nat.le_of_lt_succ h1) with h6 | rfl
   ·exact .inr ⟨rfl, h6⟩
   ·exact absurd h4 hy
theorem Into.next {s : Spc} {into : List (List (Nat × Nat))} {i : Nat} (h : Into s into i s.S[i]!.X.length) (h8 : s.S[i]!.X.length ≤ 8) : Into s into (i + 1) 0 := by
 refine ⟨h.l, fun z hz x a => ?_, fun z hz => by have := h.c z hz; omega⟩
 rw [h.m z hz]
 constructor
 ·rintro ⟨h1, h2⟩; exact ⟨by omega, h2⟩
 ·rintro ⟨h1, h2, h3, h4, h5⟩
  refine ⟨?_, h2, h3, h4, h5⟩
  rcases h1 with h1 | ⟨_, h1⟩
  ·rcases Nat.lt_or_eq_of_le (Nat.le_of_lt_succ h1) with h6 | rfl
   ·exact .inl h6
   ·exact .inr ⟨rfl, h3⟩
  ·omega
def deadF (s : Spc) : List (List Bool) := (List.range s.S.length).map fun x => List.replicate s.S[x]!.A.length false
def leftF (s : Spc) : List Nat := (List.range s.S.length).map fun x => s.S[x]!.A.length
theorem dcell_fin {s : Spc} : (List.range s.S.length).map (dcell s s.S.length) = (deadF s).map rowB := by
 unfold deadF; rw [List.map_map]
 apply List.map_congr_left
 intro x hx
 simp only [List.mem_range] at hx
 simp only [dcell, hx, if_true, Function.comp, rowB]
theorem lcell_fin {s : Spc} : (List.range s.S.length).map (lcell s s.S.length) = (leftF s).map eN := by
 unfold leftF; rw [List.map_map]
 apply List.map_congr_left
 intro x hx
 simp only [List.mem_range] at hx
 simp only [lcell, hx, if_true, Function.comp]
theorem mapR_get {α : Type} [Inhabited α] {f : Nat → α} {n x : Nat} (h : x < n) : ((List.range n).map f)[x]! = f x := by
 rw [getElem!_pos _ x (by simpa using h)]; simp
theorem rung0 (s : Spc) : RungI s (leftF s) (deadF s) (out1 s s.S.length) 0 (fun _ _ => False) := by
 have hd : ∀ x < s.S.length, (deadF s)[x]! = List.replicate s.S[x]!.A.length false := fun x hx => mapR_get hx
 have hl : ∀ x < s.S.length, (leftF s)[x]! = s.S[x]!.A.length := fun x hx => mapR_get hx
 refine ⟨by simp [leftF], by simp [deadF], fun x hx => by rw [hd x hx]; simp, fun x hx => by rw [hd x hx, hl x hx, outN_rep], fun x hx => ?_, Nat.zero_le _, ⟨fun x hx => ?_, ?_, fun j hj => ?_⟩, fun x hx m hm hh => ?_, fun _ _ _ h => h.elim⟩
 ·rw [hl x hx]; unfold out1; rw [List.mem_filter, List.mem_range, beq_iff_eq]; exact ⟨fun h => h.2, fun h => ⟨hx, h⟩⟩
 ·unfold out1 at hx; rw [List.mem_filter, List.mem_range] at hx; exact hx.1
 ·exact List.nodup_range.filter _
 ·intro m hm
  have h1 : (out1 s s.S.length)[j]! ∈ out1 s s.S.length := by rw [getElem!_pos _ j hj]; exact List.getElem_mem hj
  have h2 : s.S[(out1 s s.S.length)[j]!]!.A.length = 0 := by
   generalize (out1 s s.S.length)[j]! = x at h1
   unfold out1 at h1; rw [List.mem_filter, beq_iff_eq] at h1; exact h1.2
  omega
 ·rw [hd x hx] at hh
  simp only [List.getElem!_eq_getElem?_getD, List.getElem?_replicate] at hh
  split at hh <;> simp at hh
theorem rungs_ok (s : Spc) (h : SpB s) (h8 : ∀ i < s.S.length, s.S[i]!.X.length ≤ 8) : ∃ l : List Nat, IsLad s l ∧ (∀ x < s.S.length, x ∈ l ↔ Hol s x) ∧ Fn G f_prune_rungs [eSp s] (.lst (l.map eN)) := by
 suffices hs : FnP G f_prune_rungs [eSp s] (fun rs h => ∃ l : List Nat, IsLad s l ∧ (∀ x < s.S.length, x ∈ l ↔ Hol s x) ∧ packV (treeBL 0 h rs) = .lst (l.map eN)) by
  obtain ⟨F, n, rs, σ1, e1, e2, e3, e4, e5, e6, l, h1, h2, h3⟩ := hs
  exact ⟨l, h1, h2, F, n, rs, σ1, e1, e2, e3, e4, e5, e6, h3⟩
 refine FnP.mk' g_prune_rungs rfl rfl ?_
 have hS := h.sz
 simp only [go_sem, ↓reduceIte, ↓gA, ↓gB, ↓gC, ↓gD, ↓cA, ↓cB, c_prune_rungs, eSp]
 refine ⟨by omega, by omega, by omega, ?_⟩
 refine wp_loopQ (fun (i : Nat) σ => i ≤ s.S.length ∧ ∃ into, Into s into i 0 ∧ ∃ z2 z4 z5 z6 a1 c1 a3 c3 a7 c7 a8 c8 a9 c9 a10 c10 a11 c11 a12 c12, σ = ⟨aT .undef 106 [(1, .ptr 0 1 [] 0 0 0), (4, .ptr 2 1 [] 0 0 0), (5, .ptr 4 1 [] 0 0 0), (6, .sl 5 1 [] 0 0 s.S.length), (7, .ptr 6 1 [] 0 0 0), (26, .lst (s.S.map eSt)), (27, I s.S.length), (28, I i)],
  [⟨1, 0, .own 2 [.agg [.lst (s.acts.map .str), .lst (s.S.map eSt)]]⟩, ⟨a1, c1, .gone⟩, ⟨1, z2, .own 1 [.own 1 ((List.range s.S.length).map (lcell s i))]⟩, ⟨a3, c3, .gone⟩, ⟨1, z4, .own 1 [.own 1 ((List.range s.S.length).map (dcell s i))]⟩, ⟨1, z5, .own 1 (into.map rowP2)⟩, ⟨1, z6, .own 1 [cellv .nils 1 ((out1 s i).map eN)]⟩, ⟨a7, c7, .gone⟩, ⟨a8, c8, .gone⟩, ⟨a9, c9, .gone⟩, ⟨a10, c10, .gone⟩, ⟨a11, c11, .gone⟩, ⟨a12, c12, .gone⟩, ⟨0, 0, .gone⟩], []⟩) (fun i => s.S.length - i) ?_ 0 ?_
 ·rintro i σ ⟨hi, into, hin, z2, z4, z5, z6, a1, c1, a3, c3, a7, c7, a8, c8, a9, c9, a10, c10, a11, c11, a12, c12, rfl⟩ N Q hQ hN
  by_cases hlt : i < s.S.length
  ·have hst := h.st i hlt
   have hA := hst.la
   have hX := hst.lx
   have hol := @out1_len s i
   simp only [go_sem, ↓reduceIte, ↓gA, ↓gB, ↓gC, ↓gD, ↓cA, ↓cB, eSt, wrap_succ hlt (by omega), Int.ofNat_lt, hlt, List.length_range, rng_get hlt, dcell_self, lcell_self, lcell_next, dcell_set, lcell_set]
   refine ⟨by omega, ?_⟩
   have ho1 := @out1_succ s i
   refine ⟨fun h0 => ⟨by omega, ?_⟩, fun h0 => ?_⟩
   all_goals
    first
     | (have h1 := eq_of_beq h0; rw [if_pos (show s.S[i]!.A.length = 0 by omega)] at ho1)
     | (have h1 := ne_of_beq_false h0; rw [if_neg (show ¬ s.S[i]!.A.length = 0 by omega)] at ho1)
    refine wp_loopQ (fun (j : Nat) σ => j ≤ s.S[i]!.X.length ∧ ∃ into, Into s into i j ∧ ∃ z2 z4 z5 z6 a1 c1 a3 c3 a7 c7 o8 o9 o10 a11 c11 a12 c12, σ = ⟨aT .undef 106 [(1, .ptr 0 1 [] 0 0 0), (4, .ptr 2 1 [] 0 0 0), (5, .ptr 4 1 [] 0 0 0), (6, .sl 5 1 [] 0 0 s.S.length), (7, .ptr 6 1 [] 0 0 0), (8, I i), (26, .lst (s.S.map eSt)), (27, I s.S.length), (28, I i), (56, .lst (s.S[i]!.X.map I)), (57, I s.S[i]!.X.length), (58, I j)],
     [⟨1, 0, .own 2 [.agg [.lst (s.acts.map .str), .lst (s.S.map eSt)]]⟩, ⟨a1, c1, .gone⟩, ⟨1, z2, .own 1 [.own 1 ((List.range s.S.length).map (lcell s (i + 1)))]⟩, ⟨a3, c3, .gone⟩, ⟨1, z4, .own 1 [.own 1 ((List.range s.S.length).map (dcell s (i + 1)))]⟩, ⟨1, z5, .own 1 (into.map rowP2)⟩, ⟨1, z6, .own 1 [cellv .nils 1 ((out1 s (i + 1)).map eN)]⟩, ⟨a7, c7, .own 2 [.agg [.lst (s.S[i]!.A.map I), .lst (s.S[i]!.X.map I)]]⟩, o8, o9, o10, ⟨a11, c11, .gone⟩, ⟨a12, c12, .gone⟩, ⟨0, 0, .gone⟩], []⟩) (fun j => s.S[i]!.X.length - j) ?_ 0 ?_
    ·rintro j σ ⟨hj, into, hin, z2, z4, z5, z6, a1, c1, a3, c3, a7, c7, o8, o9, o10, a11, c11, a12, c12, rfl⟩ N2 Q2 hQ2 hN2
     by_cases hlt2 : j < s.S[i]!.X.length
     ·have hb := hst.x j hlt2
      have hil := hin.l
      by_cases h0 : 0 ≤ s.S[i]!.X[j]!
      ·obtain ⟨y, hy⟩ : ∃ y : Nat, s.S[i]!.X[j]! = y := ⟨s.S[i]!.X[j]!.toNat, by omega⟩
       have hyn : y < s.S.length := by omega
       have hyi : y < into.length := by omega
       have hcl := hin.c y hyn
       simp only [go_sem, ↓reduceIte, ↓gA, ↓gB, ↓gC, ↓gD, ↓cA, ↓cB, wrap_succ hlt2 (by omega), Int.ofNat_lt, hlt2, hy, hyn, hyi, rowP2, eN2, eN]
       refine ⟨by omega, hN2 (j + 1) _ (by omega) ⟨by omega, _, hin.step hlt hlt2 hy hyn, ?_⟩⟩
       simp only [go_sem, ↓reduceIte, ↓gA, ↓gB, ↓gC, ↓gD, ↓cA, ↓cB, ← map_setP, List.map_append, eN2, eN]
       repeat apply Exists.intro
       rfl
      ·simp only [go_sem, ↓reduceIte, ↓gA, ↓gB, ↓gC, ↓gD, ↓cA, ↓cB, wrap_succ hlt2 (by omega), Int.ofNat_lt, hlt2, h0]
       refine hN2 (j + 1) _ (by omega) ⟨by omega, _, hin.skip h0, ?_⟩
       simp only [go_sem, ↓reduceIte, ↓gA, ↓gB, ↓gC, ↓gD, ↓cA, ↓cB]
       repeat apply Exists.intro
       rfl
     ·have hjl : j = s.S[i]!.X.length := by omega
      subst hjl hQ2
      simp only [go_sem, ↓reduceIte, ↓gA, ↓gB, ↓gC, ↓gD, ↓cA, ↓cB, Int.ofNat_lt, hlt2, wrap_succ hlt (show s.S.length ≤ 1000000000 by omega)]
      refine hN (i + 1) _ (by omega) ⟨by omega, into, hin.next (h8 i hlt), ?_⟩
      simp only [go_sem, ↓reduceIte, ↓gA, ↓gB, ↓gC, ↓gD, ↓cA, ↓cB]
      repeat apply Exists.intro
      rfl
    ·refine ⟨by omega, into, hin, ?_⟩
     simp only [go_sem, ↓reduceIte, ↓gA, ↓gB, ↓gC, ↓gD, ↓cA, ↓cB, ho1, List.map_append, eN]
     repeat apply Exists.intro
     rfl
  ·have hil : i = s.S.length := by omega
   subst hil hQ
   simp only [go_sem, ↓reduceIte, ↓gA, ↓gB, ↓gC, ↓gD, ↓cA, ↓cB, Int.ofNat_lt, hlt, dcell_fin, lcell_fin]
   refine wp_loopQ (fun (i : Nat) σ => ∃ left dead out, RungI s left dead out i (fun x a => x < s.S.length ∧ a < s.S[x]!.X.length ∧ 0 ≤ s.S[x]!.X[a]! ∧ s.S[x]!.X[a]!.toNat ∈ out.take i) ∧ ∃ z2 z4 z6 o1 o3 o7 o8 o9 o10 o11 o12 a13 c13, σ = ⟨aT .undef 106 [(6, .sl 5 1 [] 0 0 s.S.length), (7, .ptr 6 1 [] 0 0 0), (12, .fn f_prune_rungs_1 [.ptr 0 1 [] 0 0 0, .ptr 4 1 [] 0 0 0, .ptr 2 1 [] 0 0 0, .ptr 6 1 [] 0 0 0]), (13, I i)],
    lowH ⟨1, 0, .own 2 [.agg [.lst (s.acts.map .str), .lst (s.S.map eSt)]]⟩ o1 z2 left o3 z4 dead ⟨1, z5, .own 1 (into.map rowP2)⟩ z6 out o7 o8 o9 o10 o11 o12 ⟨a13, c13, .gone⟩, []⟩) (fun i => s.S.length + 1 - i) ?_ 0 ?_
   ·rintro i σ ⟨left, dead, out, hI, z2, z4, z6, o1, o3, o7, o8, o9, o10, o11, o12, a13, c13, rfl⟩ N Q hQ hN
    have hol := nodup_len hI.lad.nd hI.lad.lt
    have hcase : (i : Int) < ((out.map eN).length : Int) ↔ i < out.length := by rw [List.length_map]; omega
    by_cases hlt : i < out.length
    ·have hne : ¬ out.map eN = [] := by intro h; rw [List.map_eq_nil_iff] at h; subst h; simp at hlt
     have hmem : out[i]! ∈ out := by rw [getElem!_pos out i hlt]; exact List.getElem_mem hlt
     have hyn := hI.lad.lt _ hmem
     have hyi : out[i]! < into.length := by rw [hin.l]; exact hyn
     have hcl := hin.c _ hyn
     simp only [go_sem, ↓reduceIte, ↓gA, ↓gB, ↓gC, ↓gD, ↓cA, ↓cB, lowH, Int.ofNat_lt, hlt, hne, eN, hyi, hyn, rowP2]
     refine wp_loopQ (fun (k : Nat) σ => k ≤ into[out[i]!]!.length ∧ ∃ left' dead' out', out <+: out' ∧ RungI s left' dead' out' (i + 1) (fun x a => (x < s.S.length ∧ a < s.S[x]!.X.length ∧ 0 ≤ s.S[x]!.X[a]! ∧ s.S[x]!.X[a]!.toNat ∈ out.take i) ∨ (x, a) ∈ (into[out[i]!]!).take k) ∧ ∃ z2 z4 z6 o1 o3 o7 o8 o9 o10 o11 o12 a13 c13, σ = ⟨aT .undef 106 [(6, .sl 5 1 [] 0 0 s.S.length), (7, .ptr 6 1 [] 0 0 0), (12, .fn f_prune_rungs_1 [.ptr 0 1 [] 0 0 0, .ptr 4 1 [] 0 0 0, .ptr 2 1 [] 0 0 0, .ptr 6 1 [] 0 0 0]), (13, I i), (92, rowc .nils 2 5 1 [(out[i]!, 0)] z5 (into[out[i]!]!.map eN2)), (93, I into[out[i]!]!.length), (94, I k)],
      lowH ⟨1, 0, .own 2 [.agg [.lst (s.acts.map .str), .lst (s.S.map eSt)]]⟩ o1 z2 left' o3 z4 dead' ⟨1, z5, .own 1 (into.map rowP2)⟩ z6 out' o7 o8 o9 o10 o11 o12 ⟨a13, c13, .gone⟩, []⟩) (fun k => into[out[i]!]!.length - k) ?_ 0 ?_
     ·rintro k σ ⟨hk, left', dead', out', hpre, hI', z2, z4, z6, o1, o3, o7, o8, o9, o10, o11, o12, a13, c13, rfl⟩ N2 Q2 hQ2 hN2
      by_cases hlt2 : k < into[out[i]!]!.length
      ·have hne2 : ¬ into[out[i]!]!.map eN2 = [] := by intro h; rw [List.map_eq_nil_iff] at h; rw [h] at hlt2; simp at hlt2
       simp only [go_sem, ↓reduceIte, ↓gA, ↓gB, ↓gC, ↓gD, ↓cA, ↓cB, lowH, Int.ofNat_lt, hlt2, wrap_succ hlt2 (by omega), hne2, hyi, rowP2, eN2, eN]
       have hpm : (into[out[i]!]![k]!.1, into[out[i]!]![k]!.2) ∈ into[out[i]!]! := by rw [getElem!_pos into[out[i]!]! k hlt2]; exact List.getElem_mem hlt2
       obtain ⟨_, p2, p3, p4, p5⟩ := (hin.m _ hyn _ _).1 hpm
       have hout : out[i]! ∈ out'.take (i + 1) := by
        obtain ⟨r, rfl⟩ := hpre
        rw [List.take_append_of_le_length (by omega), List.take_succ_eq_append_getElem hlt, getElem!_pos out i hlt]
        exact List.mem_append_right _ (List.mem_singleton_self _)
       refine lower_ok s h _ _ p2 p3 left' dead' out' (i + 1) _ hI' p4 (by rw [p5]; exact hout) z2 z4 z6 o1 o3 _ o7 o8 o9 o10 o11 o12 _ _ _ ?_
       intro left2 dead2 out2 z2 z4 z6 hI2 hpre2
       simp only [go_sem, ↓reduceIte, ↓gA, ↓gB, ↓gC, ↓gD, ↓cA, ↓cB, lowH, wrap_succ hlt2 (by omega)]
       refine hN2 (k + 1) _ (by omega) ⟨by omega, left2, dead2, out2, hpre.trans hpre2, hI2.take (Nat.le_refl _) hI2.tl (fun x a hxa => ?_), ?_⟩
       ·rcases hxa with hxa | hxa
        ·exact .inl (.inl hxa)
        ·rw [List.take_succ_eq_append_getElem hlt2, List.mem_append, List.mem_singleton] at hxa
         rcases hxa with hxa | hxa
         ·exact .inl (.inr hxa)
         ·rw [getElem!_pos into[out[i]!]! k hlt2]; right; rw [← hxa]; exact ⟨rfl, rfl⟩
       ·simp only [go_sem, ↓reduceIte, ↓gA, ↓gB, ↓gC, ↓gD, ↓cA, ↓cB, lowH]
        repeat apply Exists.intro
        rfl
      ·have hkl : k = into[out[i]!]!.length := by omega
       have hol2 := nodup_len hI'.lad.nd hI'.lad.lt
       have hpl := hpre.length_le
       subst hQ2
       simp only [go_sem, ↓reduceIte, ↓gA, ↓gB, ↓gC, ↓gD, ↓cA, ↓cB, lowH, Int.ofNat_lt, hlt2, wrap_succ (show i < s.S.length by omega) (show s.S.length ≤ 1000000000 by omega)]
       refine hN (i + 1) _ (by omega) ⟨left', dead', out', hI'.take (Nat.le_refl _) (by omega) (fun x a hxa => ?_), ?_⟩
       ·obtain ⟨h0, h1, h2, h3⟩ := hxa
        obtain ⟨r, rfl⟩ := hpre
        rw [List.take_append_of_le_length (by omega), List.take_succ_eq_append_getElem hlt, List.mem_append, List.mem_singleton] at h3
        rcases h3 with h3 | h3
        ·exact .inl ⟨h0, h1, h2, h3⟩
        ·right
         rw [hkl, List.take_length, hin.m _ hyn]
         exact ⟨.inl h0, h0, h1, h2, by rw [h3, getElem!_pos out i hlt]⟩
       ·simp only [go_sem, ↓reduceIte, ↓gA, ↓gB, ↓gC, ↓gD, ↓cA, ↓cB, lowH]
        repeat apply Exists.intro
        rfl
     ·refine ⟨by omega, left, dead, out, List.prefix_refl _, hI.take (by omega) (by omega) (fun x a hxa => ?_), ?_⟩
      ·rcases hxa with hxa | hxa
       ·exact hxa
       ·simp at hxa
      ·simp only [go_sem, ↓reduceIte, ↓gA, ↓gB, ↓gC, ↓gD, ↓cA, ↓cB, lowH, rowP2]
       repeat apply Exists.intro
       rfl
    ·simp only [go_sem, ↓reduceIte, ↓gA, ↓gB, ↓gC, ↓gD, ↓cA, ↓cB, lowH, Int.ofNat_lt, hlt]
     subst hQ
     simp only [go_sem, ↓reduceIte, ↓gA, ↓gB, ↓gC, ↓gD, ↓cA, ↓cB]
     have hio : i = out.length := by have := hI.tl; omega
     subst hio
     obtain ⟨g1, g2⟩ := hI.fin (fun x hx a ha h0 hm => ⟨hx, ha, h0, by rw [List.take_length]; exact hm⟩)
     exact ⟨out, g1, g2, by rw [List.map_map]; rfl⟩
   ·refine ⟨leftF s, deadF s, out1 s s.S.length, (rung0 s).take (Nat.le_refl _) (Nat.zero_le _) (by rintro x a ⟨_, _, _, h⟩; simp at h), ?_⟩
    simp only [go_sem, ↓reduceIte, ↓gA, ↓gB, ↓gC, ↓gD, ↓cA, ↓cB, lowH]
    repeat apply Exists.intro
    rfl
 ·refine ⟨by omega, List.replicate s.S.length [], ⟨by simp, fun y hy x a => ?_, fun y hy => ?_⟩, 1, 1, 0, 0, 1, 0, 1, 0, 0, 0, 0, 0, 0, 0, 0, 0, 0, 0, 0, 0, ?_⟩
  ·rw [getElem!_pos _ y (by simpa using hy)]; simp
  ·rw [getElem!_pos _ y (by simpa using hy)]; simp
  ·have e1 : (List.range s.S.length).map (lcell s 0) = List.replicate s.S.length (AV.int .i64 0) := by
    apply List.ext_getElem (by simp); intro j h1 h2; simp [lcell, eN]
   have e2 : (List.range s.S.length).map (dcell s 0) = List.replicate s.S.length AV.nils := by
    apply List.ext_getElem (by simp); intro j h1 h2; simp [dcell]
   have e3 : (List.replicate s.S.length ([] : List (Nat × Nat))).map rowP2 = List.replicate s.S.length AV.nils := by
    apply List.ext_getElem (by simp); intro j h1 h2; simp [rowP2, cellv]
   simp only [go_sem, ↓reduceIte, ↓gA, ↓gB, ↓gC, ↓gD, ↓cA, ↓cB, e1, e2, e3, out1, List.range_zero, List.filter_nil]
open Classical in
theorem hollows_ok (s : Spc) (h : SpB s) (h8 : ∀ i < s.S.length, s.S[i]!.X.length ≤ 8) : Fn G f_prune_Hollows [eSp s] (.lst ((holL s).map Bo)) := by
 obtain ⟨l, hl, hm, hr⟩ := rungs_ok s h h8
 have hcall : ∀ {roots : List Nat} {b : Nat} {ss : List Nat} {σ : St} {k : AV → St → Prop}, callT G f_prune_rungs [.agg [.lst (s.acts.map .str), .lst (s.S.map eSt)]] true roots b ss σ k = k (.lst (l.map eN)) σ := hr.rule
 have hS := h.sz
 have hll := nodup_len hl.nd hl.lt
 refine FnP.mk' g_prune_Hollows rfl rfl ?_
 simp only [go_sem, ↓reduceIte, ↓gA, ↓gB, ↓gC, ↓gD, ↓cA, ↓cB, c_prune_Hollows, eSp, hcall]
 refine ⟨by omega, ?_⟩
 refine wp_loopQ (fun (i : Nat) σ => i ≤ l.length ∧ ∃ q : List Bool, q.length = s.S.length ∧ (∀ x < s.S.length, q[x]! = true ↔ x ∈ l.take i) ∧ σ = ⟨aT .undef 22 [(3, .sl 1 1 [] 0 0 s.S.length), (11, .lst (l.map eN)), (12, I l.length), (13, I i)], [⟨1, 0, .own 2 [.agg [.lst (s.acts.map .str), .lst (s.S.map eSt)]]⟩, ⟨1, 0, .own 1 (q.map Bo)⟩], []⟩) (fun i => l.length - i) ?_ 0 ?_
 ·rintro i σ ⟨hi, q, hq, hqm, rfl⟩ N Q hQ hN
  by_cases hlt : i < l.length
  ·have hx : l[i]! < s.S.length := hl.lt _ (by rw [getElem!_pos l i hlt]; exact List.getElem_mem hlt)
   simp only [go_sem, ↓reduceIte, ↓gA, ↓gB, ↓gC, ↓gD, ↓cA, ↓cB, Int.ofNat_lt, hlt, wrap_succ hlt (by omega), eN, hq, hx, map_setB]
   refine hN (i + 1) _ (by omega) ⟨by omega, q.set l[i]! true, by rw [List.length_set]; exact hq, fun x hxn => ?_, ?_⟩
   ·rw [getS1 (by omega), List.take_succ_eq_append_getElem hlt, List.mem_append, List.mem_singleton, ← hqm x hxn, getElem!_pos l i hlt]
    split
    ·rename_i e; simp [e]
    ·rename_i e; exact ⟨.inl, fun h => h.resolve_right (fun h => e h.symm)⟩
   ·simp only [go_sem, ↓reduceIte, ↓gA, ↓gB, ↓gC, ↓gD, ↓cA, ↓cB]
  ·have hil : i = l.length := by omega
   subst hil hQ
   simp only [go_sem, ↓reduceIte, ↓gA, ↓gB, ↓gC, ↓gD, ↓cA, ↓cB, Int.ofNat_lt, hlt]
   have e : q = holL s := by
    apply List.ext_getElem (by simp [holL, hq])
    intro x hx hx2
    have hx3 : x < s.S.length := by omega
    have := hqm x hx3
    rw [List.take_length, hm x hx3, getElem!_pos q x hx] at this
    simp only [holL, List.getElem_map, List.getElem_range]
    cases hb : q[x] <;> simp_all
   rw [if_pos (by omega), ← hq, ← List.length_map (f := Bo), List.take_length, e]
   simp only [go_sem, ↓reduceIte, ↓gA, ↓gB, ↓gC, ↓gD, ↓cA, ↓cB, List.map_map]
   rfl
 ·refine ⟨by omega, List.replicate s.S.length false, by simp, fun x hx => ?_, ?_⟩
  ·simp [List.getElem!_eq_getElem?_getD, hx]
  ·simp only [go_sem, ↓reduceIte, ↓gA, ↓gB, ↓gC, ↓gD, ↓cA, ↓cB, List.map_replicate]
open Classical in
theorem hollows_r {s : Spc} (h : SpB s) (h8 : ∀ i < s.S.length, s.S[i]!.X.length ≤ 8) {roots : List Nat} {b : Nat} {ss : List Nat} {σ : St} {k : AV → St → Prop} :
 callT G f_prune_Hollows [.agg [.lst (s.acts.map .str), .lst (s.S.map eSt)]] true roots b ss σ k = k (.lst ((holL s).map Bo)) σ := (hollows_ok s h h8).rule
end Go.Mw
/- Systems: are they valid?, what is offered? -/
namespace Go.Mw
set_option maxRecDepth 100000
structure Ed where
 a : Int
 t : Int
 deriving Inhabited
structure Sys where
 acts : List ByteArray
 S : List (List Ed)
 deriving Inhabited
structure SySz (m : Sys) : Prop where
 a : m.acts.length ≤ 1048576
 s : m.S.length ≤ 1048576
 e : ∀ i < m.S.length, m.S[i]!.length ≤ 1048576
def befE (d e : Ed) : Bool := decide (d.a < e.a ∨ d.a = e.a ∧ d.t < e.t)
def edOk (l : List Ed) (n st : Nat) : Prop := ∀ i < l.length, 0 ≤ l[i]!.a ∧ l[i]!.a < (n : Int) ∧ 0 ≤ l[i]!.t ∧ l[i]!.t < (st : Int) ∧ (0 < i → befE l[i-1]! l[i]! = true)
def sumE (m : Sys) (i : Nat) : Nat := ((m.S.take i).map List.length).sum
structure SysOk (m : Sys) : Prop where
 acts : actsOk m.acts = true
 s1 : 1 ≤ m.S.length
 s2 : m.S.length ≤ 5000
 ed : ∀ i < m.S.length, edOk m.S[i]! m.acts.length m.S.length
 sum : sumE m m.S.length ≤ 400000
section
variable {fr : Bool} {roots : List Nat} {b : Nat} {ss : List Nat} {σ : St} {k : AV → St → Prop}
end
def offN (l : List Ed) : Nat := l.foldl (fun s e => s ||| 2 ^ e.a.toNat) 0
theorem offN_succ {l : List Ed} {i : Nat} (h : i < l.length) : offN (l.take (i + 1)) = offN (l.take i) ||| 2 ^ l[i]!.a.toNat := by
 unfold offN; rw [List.take_succ_eq_append_getElem h, List.foldl_append, getElem!_pos l i h]; rfl
def aOk (l : List Ed) : Prop := ∀ i < l.length, 0 ≤ l[i]!.a ∧ l[i]!.a < 62
section
variable {fr : Bool} {roots : List Nat} {b : Nat} {ss : List Nat} {σ : St} {k : AV → St → Prop}
end
end Go.Mw
/- Which systems satisfy a specification, plainly. -/
namespace Go.Mw
set_option maxRecDepth 100000
structure SttOk (z : Stt) (st n : Nat) : Prop where
 len : z.X.length = n
 a : ∀ i < z.A.length, 0 ≤ z.A[i]! ∧ z.A[i]! < ((2 ^ n : Nat) : Int)
 ris : ∀ i < z.A.length, 0 < i → z.A[i-1]! < z.A[i]!
 x : ∀ i < n, -1 ≤ z.X[i]! ∧ z.X[i]! < (st : Int)
 has : ∀ i < z.A.length, ∀ a < n, hasA z.A[i]! a = true → 0 ≤ z.X[a]!
structure SpcOk (s : Spc) : Prop where
 acts : actsOk s.acts = true
 s1 : 1 ≤ s.S.length
 s2 : s.S.length ≤ 500
 st : ∀ i < s.S.length, SttOk s.S[i]! s.S.length s.acts.length
def goodP (m : Sys) (s : Spc) (x y : Nat) : Prop := ((offN m.S[x]! : Nat) : Int) ∈ s.S[y]!.A
def nxt (s : Spc) (y a : Nat) : Int := s.S[y]!.X[a]!
structure ClosedR (m : Sys) (s : Spc) (P : Nat → Nat → Prop) : Prop where
 z : P 0 0
 n : ∀ x y, P x y → goodP m s x y → ∀ i < m.S[x]!.length, P m.S[x]![i]!.t.toNat (nxt s y m.S[x]![i]!.a.toNat).toNat
def Rch (m : Sys) (s : Spc) (x y : Nat) : Prop := ∀ P, ClosedR m s P → P x y
def Sat (m : Sys) (s : Spc) : Prop := ∀ x y, Rch m s x y → goodP m s x y
theorem Rch.closed (m : Sys) (s : Spc) : ClosedR m s (Rch m s) :=
 ⟨fun P h => h.z, fun x y h hg i hi P hP => hP.n x y (h P hP) hg i hi⟩
theorem sat_of {m : Sys} {s : Spc} {P : Nat → Nat → Prop} (h : ClosedR m s P) (hg : ∀ x y, P x y → goodP m s x y) : Sat m s := fun x y hr => hg x y (hr P h)
theorem actsOk_len {l : List ByteArray} (h : actsOk l = true) : l.length ≤ 8 := by unfold actsOk at h; rw [decide_eq_true_eq] at h; exact h.1
theorem SysOk.aOk {m : Sys} (h : SysOk m) {x : Nat} (hx : x < m.S.length) : aOk m.S[x]! := fun i hi => by
 have := h.ed x hx i hi; have := actsOk_len h.acts; omega
theorem offN_bit {l : List Ed} (h : aOk l) {a : Nat} : (offN l).testBit a = true ↔ ∃ i < l.length, l[i]!.a = a := by
 have key : ∀ i, i ≤ l.length → ((offN (l.take i)).testBit a = true ↔ ∃ j < i, l[j]!.a = a) := by
  intro i
  induction i with
  | zero => intro _; simp [offN]
  | succ i ih =>
    intro hi
    rw [offN_succ (by omega), Nat.testBit_or, Bool.or_eq_true, ih (by omega), Nat.testBit_two_pow, decide_eq_true_eq]
    have hb := h i (by omega)
    constructor
    ·rintro (⟨j, hj, e⟩ | e)
     ·exact ⟨j, by omega, e⟩
     ·exact ⟨i, by omega, by omega⟩
    ·rintro ⟨j, hj, e⟩
     rcases Nat.lt_or_eq_of_le (Nat.le_of_lt_succ hj) with h1 | rfl
     ·exact .inl ⟨j, h1, e⟩
     ·right; omega
 have := key l.length (Nat.le_refl _)
 rwa [List.take_length] at this
theorem good_nxt {m : Sys} {s : Spc} (hm : SysOk m) (hs : SpcOk s) (he : m.acts.length = s.acts.length) {x y : Nat} (hx : x < m.S.length) (hy : y < s.S.length) (hg : goodP m s x y) {i : Nat} (hi : i < m.S[x]!.length) :
 0 ≤ m.S[x]![i]!.t ∧ m.S[x]![i]!.t < (m.S.length : Int) ∧ 0 ≤ m.S[x]![i]!.a ∧ m.S[x]![i]!.a < (s.acts.length : Int) ∧ 0 ≤ nxt s y m.S[x]![i]!.a.toNat ∧ nxt s y m.S[x]![i]!.a.toNat < (s.S.length : Int) := by
 obtain ⟨e1, e2, e3, e4, _⟩ := hm.ed x hx i hi
 have h8 := actsOk_len hm.acts
 refine ⟨e3, e4, e1, by omega, ?_, ?_⟩
 ·obtain ⟨j, hj, e⟩ := List.mem_iff_getElem.1 hg
  have h1 := (hs.st y hy).has j hj m.S[x]![i]!.a.toNat (by omega)
  refine h1 ?_
  rw [getElem!_pos _ j hj, e]
  unfold hasA
  rw [Int.toNat_natCast, offN_bit (hm.aOk hx)]
  exact ⟨i, hi, by omega⟩
 ·have := (hs.st y hy).x m.S[x]![i]!.a.toNat (by omega)
  exact this.2
theorem Rch.lt {m : Sys} {s : Spc} (hm : SysOk m) (hs : SpcOk s) (he : m.acts.length = s.acts.length) {x y : Nat} (h : Rch m s x y) : x < m.S.length ∧ y < s.S.length := by
 refine h (fun x y => x < m.S.length ∧ y < s.S.length) ⟨⟨by have := hm.s1; omega, by have := hs.s1; omega⟩, ?_⟩
 rintro x y ⟨hx, hy⟩ hg i hi
 have := good_nxt hm hs he hx hy hg hi
 omega
end Go.Mw
/- Which systems satisfy a specification, as the reference tells. -/
namespace Go.Mw
set_option maxRecDepth 100000
theorem inR_ok (l : List Int) (hl : l.length ≤ 1048576) (x : Int) : FnT G f_r01_In [.lst (l.map I), I x] (Bo (decide (x ∈ l))) := by
 refine FnP.mk' g_r01_In rfl rfl ?_
 simp only [go_sem, ↓reduceIte, ↓gA, ↓gB, ↓gC, ↓gD, ↓cA, ↓cB, c_r01_In]
 refine wp_loopQ (fun (i : Nat) σ => i ≤ l.length ∧ (∀ j < i, l[j]! ≠ x) ∧ σ = ⟨aT .undef 17 [(1, I x), (7, .lst (l.map I)), (8, I l.length), (9, I i)], [], []⟩) (fun i => l.length - i) ?_ 0 ?_
 ·rintro i σ ⟨hi, hall, rfl⟩ N Q hQ hN
  by_cases hlt : i < l.length
  ·simp only [go_sem, ↓reduceIte, ↓gA, ↓gB, ↓gC, ↓gD, ↓cA, ↓cB, Int.ofNat_lt, hlt, wrap_succ hlt (by omega)]
   refine ⟨fun h => ?_, fun h => ?_⟩
   ·subst hQ; simp only [go_sem, ↓reduceIte, ↓gA, ↓gB, ↓gC, ↓gD, ↓cA, ↓cB]
    rw [decide_eq_true]
    have e := eq_of_beq h
    rw [e, getElem!_pos l i hlt]; exact List.getElem_mem hlt
   ·refine hN (i + 1) _ (by omega) ⟨by omega, forall_lt_succ hall (fun e => ne_of_beq_false h e.symm), ?_⟩
    simp only [go_sem, ↓reduceIte, ↓gA, ↓gB, ↓gC, ↓gD, ↓cA, ↓cB]
  ·have hil : i = l.length := by omega
   subst hil hQ
   simp only [go_sem, ↓reduceIte, ↓gA, ↓gB, ↓gC, ↓gD, ↓cA, ↓cB, Int.ofNat_lt, hlt]
   rw [decide_eq_false]
   intro hm
   obtain ⟨j, hj, e⟩ := List.mem_iff_getElem.1 hm
   exact hall j hj (by rw [getElem!_pos l j hj]; exact e)
 ·exact ⟨by omega, by simp, by simp only [go_sem, ↓reduceIte, ↓gA, ↓gB, ↓gC, ↓gD, ↓cA, ↓cB]⟩
theorem inR_r {l : List Int} (hl : l.length ≤ 1048576) {x : Int} {fr : Bool} {roots : List Nat} {b : Nat} {ss : List Nat} {σ : St} {k : AV → St → Prop} :
 callT G f_r01_In [.lst (l.map I), I x] fr roots b ss σ k = k (Bo (decide (x ∈ l))) σ := (inR_ok l hl x).rule
/-! #### a row that becomes data -/
def dropK (k : Nat) : List (Nat × AV) → List (Nat × AV)
 | [] => []
 | (j, v) :: l => if j = k then dropK k l else (j, v) :: dropK k l
theorem look_dropK {d : AV} {k j : Nat} (h : ¬ k = j) : ∀ (l : List (Nat × AV)), look d j (dropK k l) = look d j l := by
 intro l
 induction l with
 | nil => rfl
 | cons p l ih =>
   obtain ⟨q, v⟩ := p
   simp only [dropK]
   split
   ·rename_i e; subst e; rw [ih]; simp only [look, if_neg h]
   ·simp only [look, ih]
theorem frz1_eq {nt t : Nat} {d : AV} {l : List (Nat × AV)} {h : List Ob} {lp : List Lp} (ht : t < nt) : frz1 t ⟨aT d nt l, h, lp⟩ = ⟨aT d nt ((t, treeB 0 h (look d t l)) :: dropK t l), dropRoots h (rootsOf (look d t l)), lp⟩ := by
 simp only [frz1, aT_get ht, aT_set ht]
 congr 1
 apply List.ext_getElem?
 intro i
 by_cases hi : i < nt
 ·rw [aT_get hi, aT_get hi]
  simp only [look]
  split
  ·rfl
  ·rename_i e; rw [look_dropK e]
 ·rw [List.getElem?_eq_none (by rw [aT_len]; omega), List.getElem?_eq_none (by rw [aT_len]; omega)]
theorem dropK_nil {k : Nat} : dropK k [] = [] := (rfl)
theorem dropK_cons {k j : Nat} {v : AV} {l : List (Nat × AV)} : dropK k ((j, v) :: l) = if j = k then dropK k l else (j, v) :: dropK k l := (rfl)
def dropM (xs : List AV) (r : Nat) : Nat → List Ob → List Ob
 | _, [] => []
 | k, o :: h => (if k = r ∧ xs ≠ [] then { o with c := .gone } else o) :: dropM xs r (k + 1) h
theorem freeL_may {xs : List AV} {r : Nat} : ∀ (h : List Ob) (k : Nat), freeL (may xs r) k h = dropM xs r k h := by
 intro h
 induction h with
 | nil => intro k; rfl
 | cons o h ih =>
   intro k
   simp only [freeL, dropM, ih]
   unfold may
   by_cases hx : xs = []
   ·simp [hx]
   ·by_cases hk : k = r <;> simp [hx, hk]
theorem dropRoots_free {S : List Nat} {h : List Ob} : dropRoots h S = freeL S 0 h := by
 rw [← free_sites]; simp [freeSites]
theorem drop_may {xs : List AV} {r : Nat} {h : List Ob} : dropRoots h (may xs r) = dropM xs r 0 h := by rw [dropRoots_free, freeL_may]
theorem drop_nil {h : List Ob} : dropRoots h [] = h := (rfl)
theorem drop_one {r : Nat} {h : List Ob} : dropRoots h [r] = freeL [r] 0 h := dropRoots_free
theorem dropM_nil {xs : List AV} {r k : Nat} : dropM xs r k [] = [] := (rfl)
theorem dropM_hit {xs : List AV} {r es st ss : Nat} {h : List Ob} : dropM xs r r (⟨st, ss, rowo es xs⟩ :: h) = ⟨st, ss, .gone⟩ :: dropM xs r (r + 1) h := by
 simp only [dropM, rowo]
 by_cases hx : xs = [] <;> simp [hx]
theorem dropM_skip {xs : List AV} {r k : Nat} {o : Ob} {h : List Ob} (hk : ¬ k = r) : dropM xs r k (o :: h) = o :: dropM xs r (k + 1) h := by
 simp [dropM, hk]
attribute [go_sem] wp_frzt frz1_eq dropK_nil dropK_cons drop_may drop_nil drop_one dropM_nil dropM_hit dropM_skip
end Go.Mw
/- Which systems satisfy a specification: the pairs that are reached, as the reference finds them. -/
namespace Go.Mw
set_option maxRecDepth 100000
def Met (M : List (List Bool)) (x y : Nat) : Prop := M[x]![y]! = true
structure MSz (M : List (List Bool)) (a b : Nat) : Prop where
 l : M.length = a
 r : ∀ x < a, M[x]!.length = b
def μM (M : List (List Bool)) : Nat := (M.map outN).sum
def setM (M : List (List Bool)) (x y : Nat) : List (List Bool) := M.set x (M[x]!.set y true)
theorem sum_set {l : List Nat} {i v : Nat} (h : i < l.length) : (l.set i v).sum + l[i]! = l.sum + v := by
 induction l generalizing i with
 | nil => simp at h
 | cons a l ih =>
   cases i with
   | zero => simp; omega
   | succ i => have := ih (i := i) (by simpa using h); simp at this ⊢; omega
theorem μM_set {M : List (List Bool)} {a b x y : Nat} (h : MSz M a b) (hx : x < a) (hy : y < b) (hf : M[x]![y]! = false) : μM (setM M x y) + 1 = μM M := by
 unfold μM setM
 rw [List.map_set]
 have h1 := @sum_set (M.map outN) x (outN (M[x]!.set y true)) (by rw [List.length_map, h.l]; exact hx)
 have h2 := outN_set (l := M[x]!) (i := y) (by rw [h.r x hx]; exact hy) hf
 have h3 : (M.map outN)[x]! = outN M[x]! := by rw [getElem!_pos _ x (by rw [List.length_map, h.l]; exact hx), getElem!_pos M x (by rw [h.l]; exact hx), List.getElem_map]
 omega
theorem setM_sz {M : List (List Bool)} {a b x y : Nat} (h : MSz M a b) (hx : x < a) : MSz (setM M x y) a b := by
 refine ⟨by unfold setM; rw [List.length_set]; exact h.l, fun z hz => ?_⟩
 unfold setM
 rw [getS1 (by rw [h.l]; exact hx)]
 split
 ·rename_i e; subst e; rw [List.length_set]; exact h.r x hx
 ·exact h.r z hz
theorem setM_get {M : List (List Bool)} {a b x y : Nat} (h : MSz M a b) (hx : x < a) (hy : y < b) {x' y' : Nat} : Met (setM M x y) x' y' ↔ (x' = x ∧ y' = y) ∨ Met M x' y' := by
 unfold Met setM
 rw [getS1 (by rw [h.l]; exact hx)]
 by_cases e : x = x'
 ·subst e
  rw [if_pos rfl, getS1 (by rw [h.r x hx]; exact hy)]
  by_cases e2 : y = y'
  ·subst e2; simp
  ·rw [if_neg e2]; exact ⟨.inr, fun h => h.resolve_left (fun h => e2 h.2.symm)⟩
 ·rw [if_neg e]; exact ⟨.inr, fun h => h.resolve_left (fun h => e h.1.symm)⟩
theorem μM_le {M : List (List Bool)} {a b : Nat} (h : MSz M a b) : μM M ≤ a * b := by
 obtain ⟨rfl, hr⟩ := h
 unfold μM
 induction M with
 | nil => simp
 | cons r M ih =>
   have h0 := hr 0 (by simp)
   have h1 : outN r ≤ r.length := List.length_filter_le _ _
   have h2 := ih (fun x hx => by have := hr (x + 1) (by simpa using hx); simpa using this)
   simp at h0 ⊢
   rw [Nat.add_mul]; omega
structure RI (m : Sys) (s : Spc) (M : List (List Bool)) (W : List (Nat × Nat)) : Prop where
 sz : MSz M m.S.length s.S.length
 z : Met M 0 0
 r : ∀ x y, Met M x y → Rch m s x y
 w : ∀ p ∈ W, Met M p.1 p.2
 c : ∀ x y, Met M x y → (x, y) ∈ W ∨ (goodP m s x y ∧ ∀ i < m.S[x]!.length, Met M m.S[x]![i]!.t.toNat (nxt s y m.S[x]![i]!.a.toNat).toNat)
theorem RI.lt {m : Sys} {s : Spc} {M : List (List Bool)} {W : List (Nat × Nat)} (h : RI m s M W) (hm : SysOk m) (hs : SpcOk s) (he : m.acts.length = s.acts.length) {p : Nat × Nat} (hp : p ∈ W) : p.1 < m.S.length ∧ p.2 < s.S.length := (h.r _ _ (h.w p hp)).lt hm hs he
theorem RI.meet {m : Sys} {s : Spc} {M : List (List Bool)} {W : List (Nat × Nat)} (h : RI m s M W) {x y : Nat} (hx : x < m.S.length) (hy : y < s.S.length) (hr : Rch m s x y) : RI m s (setM M x y) (W ++ [(x, y)]) := by
 have g := fun {x' y'} => @setM_get M _ _ x y h.sz hx hy x' y'
 refine ⟨setM_sz h.sz hx, g.2 (.inr h.z), fun x' y' hm => ?_, fun p hp => ?_, fun x' y' hm => ?_⟩
 ·rcases g.1 hm with ⟨rfl, rfl⟩ | hm
  ·exact hr
  ·exact h.r _ _ hm
 ·rw [List.mem_append, List.mem_singleton] at hp
  rcases hp with hp | rfl
  ·exact g.2 (.inr (h.w p hp))
  ·exact g.2 (.inl ⟨rfl, rfl⟩)
 ·rcases g.1 hm with ⟨rfl, rfl⟩ | hm
  ·exact .inl (List.mem_append_right _ (List.mem_singleton_self _))
  ·rcases h.c _ _ hm with h1 | ⟨h1, h2⟩
   ·exact .inl (List.mem_append_left _ h1)
   ·exact .inr ⟨h1, fun i hi => g.2 (.inr (h2 i hi))⟩
theorem RI.done {m : Sys} {s : Spc} {M : List (List Bool)} {p : Nat × Nat} {W : List (Nat × Nat)} (h : RI m s M (p :: W)) (hg : goodP m s p.1 p.2) (hd : ∀ i < m.S[p.1]!.length, Met M m.S[p.1]![i]!.t.toNat (nxt s p.2 m.S[p.1]![i]!.a.toNat).toNat) : RI m s M W := by
 refine ⟨h.sz, h.z, h.r, fun q hq => h.w q (List.mem_cons_of_mem _ hq), fun x y hm => ?_⟩
 rcases h.c x y hm with h1 | h1
 ·rcases List.mem_cons.1 h1 with rfl | h1
  ·exact .inr ⟨hg, hd⟩
  ·exact .inl h1
 ·exact .inr h1
theorem RI.fin {m : Sys} {s : Spc} {M : List (List Bool)} (h : RI m s M []) : Sat m s := by
 refine sat_of (P := Met M) ⟨h.z, fun x y hm hg i hi => ?_⟩ (fun x y hm => ?_)
 ·rcases h.c x y hm with h1 | h1
  ·cases h1
  ·exact h1.2 i hi
 ·rcases h.c x y hm with h1 | h1
  ·cases h1
  ·exact h1.1
theorem frz_mapN2 {l : List (Nat × Nat)} : (l.map eN2).map frz = l.map eN2 := by rw [List.map_map]; rfl
def mcell (n i x : Nat) : AV := if x < i then .own 1 ((List.replicate n false).map Bo) else .nils
theorem mcell_self {n i : Nat} : mcell n i i = .nils := by simp [mcell]
theorem mcell_set {n k i : Nat} : ((List.range k).map (mcell n i)).set i (.own 1 (List.replicate n (.bool false))) = (List.range k).map (mcell n (i + 1)) := by
 apply List.ext_getElem?
 intro j
 rw [List.getElem?_set]
 by_cases h : i = j
 ·subst h
  by_cases hl : i < k <;> simp [hl, mcell]
 ·by_cases hl : j < k
  ·have e : (j < i) = (j < i + 1) := propext ⟨fun _ => by omega, fun _ => by omega⟩
   simp [h, hl, mcell, e]
  ·simp [h, hl]
theorem mcell_fin {n k : Nat} : (List.range k).map (mcell n k) = (List.replicate k (List.replicate n false)).map rowB := by
 apply List.ext_getElem (by simp)
 intro j h1 h2
 simp at h1
 simp [mcell, rowB, h1]
end Go.Mw
/- What is restricted is a family again: plain facts. -/
namespace Go.Mw
set_option maxRecDepth 100000
theorem nat_zero_bits {n : Nat} : n = 0 ↔ ∀ a, n.testBit a = false := by
 constructor
 ·rintro rfl a; exact Nat.zero_testBit a
 ·intro h; exact Nat.eq_of_testBit_eq (fun a => by rw [h a, Nat.zero_testBit])
theorem band_zero {m n : Nat} (hm : m < 2 ^ 63) (hn : n < 2 ^ 63) : band .i64 (m : Int) (n : Int) = 0 ↔ ∀ a, ¬ (m.testBit a = true ∧ n.testBit a = true) := by
 rw [band_nat hm hn]
 have e : ((m &&& n : Nat) : Int) = 0 ↔ m &&& n = 0 := by omega
 rw [e, nat_zero_bits]
 refine forall_congr' (fun a => ?_)
 rw [Nat.testBit_and]
 cases m.testBit a <;> cases n.testBit a <;> simp
theorem bandn_zero {m n : Nat} (hm : m < 2 ^ 63) (hn : n < 2 ^ 63) : bandn .i64 (m : Int) (n : Int) = 0 ↔ ∀ a, m.testBit a = true → n.testBit a = true := by
 unfold bandn
 have hb : IntKind.i64.bits = 64 := rfl
 rw [hb, BitVec.ofInt_natCast, BitVec.ofInt_natCast]
 have hle : (BitVec.ofNat 64 m &&& ~~~ BitVec.ofNat 64 n).toNat < 2 ^ 63 := by
  rw [BitVec.toNat_and, BitVec.toNat_ofNat]
  exact Nat.lt_of_le_of_lt (Nat.and_le_left) (by rw [Nat.mod_eq_of_lt (by omega)]; exact hm)
 rw [wrapN hle]
 have e : (((BitVec.ofNat 64 m &&& ~~~ BitVec.ofNat 64 n).toNat : Nat) : Int) = 0 ↔ (BitVec.ofNat 64 m &&& ~~~ BitVec.ofNat 64 n).toNat = 0 := by omega
 rw [e, nat_zero_bits]
 constructor
 ·intro h a ha
  have hlt : a < 63 := by
   rcases Nat.lt_or_ge a 63 with h1 | h1
   ·exact h1
   ·rw [Nat.testBit_lt_two_pow (Nat.lt_of_lt_of_le hm (Nat.pow_le_pow_right (by omega) h1))] at ha; cases ha
  have := h a
  rw [BitVec.testBit_toNat, BitVec.getLsbD_and, BitVec.getLsbD_not, BitVec.getLsbD_ofNat, BitVec.getLsbD_ofNat] at this
  have h64 : a < 64 := by omega
  simp [h64, ha] at this
  exact this
 ·intro h a
  rw [BitVec.testBit_toNat, BitVec.getLsbD_and, BitVec.getLsbD_not, BitVec.getLsbD_ofNat, BitVec.getLsbD_ofNat]
  have := h a
  cases hm' : m.testBit a
  ·simp
  ·rw [hm'] at this; simp [this rfl]
def WM (l : List Ch) : Prop := ∀ c ∈ l, ∃ w : Nat, c.W = w ∧ w < 2 ^ 62
theorem WOk.m {l : List Ch} (h : WOk l) : WM l := by
 intro c hc
 obtain ⟨i, hi, rfl⟩ := List.mem_iff_getElem.1 hc
 have := h i hi
 rwa [getElem!_pos l i hi] at this
def orN (l : List Ch) : Nat := l.foldl (fun s c => s ||| c.W.toNat) 0
theorem orAll_nat {l : List Ch} (h : WM l) : orAll l = (orN l : Int) ∧ orN l < 2 ^ 62 := by
 have key : ∀ (l : List Ch) (s : Nat), WM l → s < 2 ^ 62 → l.foldl (fun s c => bor .i64 s c.W) (s : Int) = ((l.foldl (fun s c => s ||| c.W.toNat) s : Nat) : Int) ∧ l.foldl (fun s c => s ||| c.W.toNat) s < 2 ^ 62 := by
  intro l
  induction l with
  | nil => intro s _ hs; exact ⟨rfl, hs⟩
  | cons c l ih =>
    intro s hl hs
    obtain ⟨w, hw, hw2⟩ := hl c (List.mem_cons_self ..)
    simp only [List.foldl_cons, hw, Int.toNat_natCast]
    rw [bor_nat (by omega) (by omega)]
    exact ih _ (fun d hd => hl d (List.mem_cons_of_mem _ hd)) (Nat.or_lt_two_pow hs hw2)
 exact key l 0 h (by omega)
theorem orN_test {l : List Ch} {a : Nat} : (orN l).testBit a = true ↔ ∃ c ∈ l, c.W.toNat.testBit a = true := by
 have key : ∀ (l : List Ch) (s : Nat), (l.foldl (fun s c => s ||| c.W.toNat) s).testBit a = true ↔ s.testBit a = true ∨ ∃ c ∈ l, c.W.toNat.testBit a = true := by
  intro l
  induction l with
  | nil => intro s; simp
  | cons c l ih =>
    intro s
    rw [List.foldl_cons, ih, Nat.testBit_or]
    simp [or_assoc]
 unfold orN
 rw [key l 0]; simp
theorem choOk_iff {l : List Ch} {most : Int} {p : Int → Bool} : choOk l most p = true ↔ (∀ c ∈ l, p c.N = true ∧ 1 ≤ c.W ∧ c.W < most) ∧ l.Pairwise (fun c d => c.N < d.N) := by
 constructor
 ·intro h
  have h1 := choOk_at h
  refine ⟨fun c hc => ?_, ?_⟩
  ·obtain ⟨i, hi, rfl⟩ := List.mem_iff_getElem.1 hc
   have := h1 i hi
   rw [getElem!_pos l i hi] at this
   exact ⟨this.1, this.2.1, this.2.2.1⟩
  ·rw [List.pairwise_iff_getElem]
   intro i j hi hj hij
   have key : ∀ d, i + d + 1 < l.length → l[i]!.N < l[i + d + 1]!.N := by
    intro d
    induction d with
    | zero => intro hd; have := (h1 (i + 0 + 1) hd).2.2.2 (by omega); simpa using this
    | succ d ih => intro hd; have h2 := ih (by omega); have h3 := (h1 (i + (d + 1) + 1) hd).2.2.2 (by omega); simp only [Nat.add_sub_cancel] at h3; have e : i + (d + 1) = i + d + 1 := by omega
                   rw [e] at h3 ⊢; omega
   have := key (j - i - 1) (by omega)
   have e : i + (j - i - 1) + 1 = j := by omega
   rw [e, getElem!_pos l i hi, getElem!_pos l j hj] at this
   exact this
 ·rintro ⟨h1, h2⟩
  rw [List.pairwise_iff_getElem] at h2
  unfold choOk
  rw [decide_eq_true_eq]
  intro i hi
  have := h1 l[i] (List.getElem_mem hi)
  rw [getElem!_pos l i hi]
  refine ⟨this.1, this.2.1, this.2.2, fun h0 => ?_⟩
  rw [getElem!_pos l (i - 1) (by omega)]
  exact h2 (i - 1) i (by omega) hi (by omega)
def Apart (c d : Ch) : Prop := ∀ a, ¬ (c.W.toNat.testBit a = true ∧ d.W.toNat.testBit a = true)
theorem disj_iff {l : List Ch} (h : WM l) : disj l = true ↔ l.Pairwise Apart := by
 unfold disj
 rw [decide_eq_true_eq, List.pairwise_iff_getElem]
 have step : ∀ k (hk : k < l.length), band .i64 (orAll (l.take k)) l[k]!.W = 0 ↔ ∀ c ∈ l.take k, Apart c l[k] := by
  intro k hk
  obtain ⟨w, hw, hw2⟩ := h l[k] (List.getElem_mem hk)
  obtain ⟨e, e2⟩ := orAll_nat (l := l.take k) (fun c hc => h c (List.mem_of_mem_take hc))
  rw [getElem!_pos l k hk, e, hw, band_zero (by omega) (by omega)]
  constructor
  ·intro g c hc a hca
   rw [hw, Int.toNat_natCast] at hca
   exact g a ⟨orN_test.2 ⟨c, hc, hca.1⟩, hca.2⟩
  ·intro g a ⟨h1, h2⟩
   obtain ⟨c, hc, hca⟩ := orN_test.1 h1
   exact g c hc a ⟨hca, by rw [hw, Int.toNat_natCast]; exact h2⟩
 constructor
 ·intro g i j hi hj hij
  refine (step j hj).1 (g j hj) l[i] ?_
  exact List.mem_take_iff_getElem.2 ⟨i, by omega, rfl⟩
 ·intro g k hk
  refine (step k hk).2 (fun c hc => ?_)
  obtain ⟨i, hi, rfl⟩ := List.mem_take_iff_getElem.1 hc
  exact g i k (by omega) hk (by omega)
end Go.Mw
/- The products of a valid family are valid; which of them a system satisfies, which are not hollow: as the reference tells. -/
namespace Go.Mw
set_option maxRecDepth 100000
theorem mem_chosen {l : List Ch} {p : Nat} {n : Int} : n ∈ chosenL l p ↔ ∃ c ∈ l, c.W.toNat.testBit p = true ∧ c.N = n := by
 unfold chosenL; simp only [List.mem_map, List.mem_filter]
 exact ⟨fun ⟨c, ⟨h1, h2⟩, h3⟩ => ⟨c, h1, h2, h3⟩, fun ⟨c, h1, h2, h3⟩ => ⟨c, ⟨h1, h2⟩, h3⟩⟩
theorem pw_last {l : List Int} (h : l.Pairwise (· < ·)) {i : Nat} (hi : i < l.length) (h0 : 0 < i) : l[i-1]! < l[i]! := by
 rw [getElem!_pos l (i-1) (by omega), getElem!_pos l i hi]
 exact (List.pairwise_iff_getElem.1 h) (i-1) i (by omega) hi (by omega)
theorem chosen_pw {l : List Ch} {p : Nat} (h : l.Pairwise (fun c d => c.N < d.N)) : (chosenL l p).Pairwise (· < ·) := by
 unfold chosenL
 rw [List.pairwise_map]
 exact h.filter _
theorem next_mem {l : List Ch} {p : Nat} : nextOf l p = -1 ∧ chosenL l p = [] ∨ nextOf l p ∈ chosenL l p := by
 unfold nextOf
 cases h : chosenL l p with
 | nil => exact .inl ⟨rfl, rfl⟩
 | cons a r => right; simp
theorem next_of {l : List Ch} {p : Nat} (hd : l.Pairwise Apart) {c : Ch} (hc : c ∈ l) (hb : c.W.toNat.testBit p = true) : nextOf l p = c.N := by
 unfold nextOf chosenL
 induction l with
 | nil => cases hc
 | cons d l ih =>
   rw [List.pairwise_cons] at hd
   rcases List.mem_cons.1 hc with rfl | hc
   ·rw [List.filter_cons, if_pos hb]; rfl
   ·have hnd : ¬ d.W.toNat.testBit p = true := fun h => hd.1 c hc p ⟨h, hb⟩
    rw [List.filter_cons, if_neg hnd]
    exact ih hd.2 hc
theorem getMem {α : Type} [Inhabited α] {l : List α} {i : Nat} (h : i < l.length) : l[i]! ∈ l := by rw [getElem!_pos l i h]; exact List.getElem_mem h
theorem prod_st {f : Fam} {p i : Nat} (hi : i < f.S.length) : (prodOf f p).S[i]! = sttOf f.S[i]! p := by
 simp only [prodOf]
 rw [getElem!_pos (f.S.map fun x => sttOf x p) i (by simpa using hi), getElem!_pos f.S i hi, List.getElem_map]
theorem stt_X {x : Plan} {p a : Nat} (h : a < x.X.length) : (sttOf x p).X[a]! = nextOf x.X[a]! p := by
 simp only [sttOf]
 rw [getElem!_pos (x.X.map fun l => nextOf l p) a (by simpa using h), getElem!_pos x.X a h, List.getElem_map]
theorem PlanOk.disj {x : Plan} {n st pr : Nat} (h : PlanOk x n st pr) (hpr : pr ≤ 32) {a : Nat} (ha : a < x.X.length) : x.X[a]!.Pairwise Apart := by
 obtain ⟨h1, h2⟩ := h.nxt a ha
 exact (disj_iff (choOk_W hpr h1).m).1 h2
theorem stt_ok {x : Plan} {n st pr p : Nat} (h : PlanOk x n st pr) (hn : n ≤ 8) (hpr : pr ≤ 32) : SttOk (sttOf x p) st n := by
 obtain ⟨hA, hAp⟩ := choOk_iff.1 h.acc
 have hAN : ∀ i < (sttOf x p).A.length, ∃ c ∈ x.A, c.W.toNat.testBit p = true ∧ c.N = (sttOf x p).A[i]! := fun i hi => mem_chosen.1 (getMem hi)
 refine ⟨by simp only [sttOf, List.length_map]; exact h.len, fun i hi => ?_, fun i hi h0 => pw_last (chosen_pw hAp) hi h0, fun a ha => ?_, fun i hi a ha hb => ?_⟩
 ·obtain ⟨c, hc, _, e⟩ := hAN i hi
  have := (hA c hc).1
  rw [decide_eq_true_eq] at this
  rw [← e]; exact this
 ·have hax : a < x.X.length := by rw [h.len]; exact ha
  rw [stt_X hax]
  rcases @next_mem x.X[a]! p with ⟨e, _⟩ | e
  ·omega
  ·obtain ⟨c, hc, _, e2⟩ := mem_chosen.1 e
   have := ((choOk_iff.1 (h.nxt a hax).1).1 c hc).1
   rw [decide_eq_true_eq] at this
   omega
 ·have hax : a < x.X.length := by rw [h.len]; exact ha
  obtain ⟨c, hc, hcb, e⟩ := hAN i hi
  obtain ⟨j, hj, ej⟩ := List.mem_iff_getElem.1 hc
  have h1 := h.has j hj a ha (by rw [getElem!_pos x.A j hj, ej, e]; exact hb)
  rw [getElem!_pos x.A j hj, ej] at h1
  have hw := (choOk_W hpr (h.nxt a hax).1).m
  obtain ⟨w, hw1, hw2⟩ := (choOk_W hpr h.acc).m c hc
  obtain ⟨o1, o2⟩ := orAll_nat hw
  rw [hw1, o1] at h1
  have h2 := (bandn_zero (show w < 2 ^ 63 by omega) (show orN x.X[a]! < 2 ^ 63 by omega)).1 h1 p (by rw [hw1, Int.toNat_natCast] at hcb; exact hcb)
  obtain ⟨d, hd, hdb⟩ := orN_test.1 h2
  rw [stt_X hax, next_of (h.disj hpr hax) hd hdb]
  have := ((choOk_iff.1 (h.nxt a hax).1).1 d hd).1
  rw [decide_eq_true_eq] at this
  exact this.1
theorem prod_ok {f : Fam} (h : FamOk f) (p : Nat) : SpcOk (prodOf f p) := by
 have h8 := actsOk_len h.acts
 refine ⟨h.acts, by simp only [prodOf, List.length_map]; exact h.s1, by simp only [prodOf, List.length_map]; exact h.s2, fun i hi => ?_⟩
 simp only [prodOf, List.length_map] at hi
 rw [prod_st hi]
 have := stt_ok (p := p) (h.plan i hi) h8 (by have := h.p2; omega)
 simpa only [prodOf, List.length_map] using this
theorem SpcOk.b {s : Spc} (h : SpcOk s) (hz : SpSz s) : SpB s := by
 have h8 := actsOk_len h.acts
 refine ⟨hz.s, fun i hi => ⟨fun j hj => ?_, fun j hj => ?_, (hz.x i hi).1, (hz.x i hi).2⟩⟩
 ·have := (h.st i hi).a j hj
  have h28 : 2 ^ s.acts.length ≤ 2 ^ 8 := Nat.pow_le_pow_right (by omega) h8
  omega
 ·exact ((h.st i hi).x j (by rw [← (h.st i hi).len]; exact hj)).2
theorem SpcOk.x8 {s : Spc} (h : SpcOk s) : ∀ i < s.S.length, s.S[i]!.X.length ≤ 8 := fun i hi => by
 rw [(h.st i hi).len]; exact actsOk_len h.acts
open Classical in
noncomputable def satP (m : Sys) (f : Fam) (p : Nat) : Bool := decide (Sat m (prodOf f p))
end Go.Mw
