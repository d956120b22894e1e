/- Specifications: are they valid? -/
import Derived.Test.YteookcnimfaelaaM20
set_option linter.unusedVariables false
set_option linter.unusedSimpArgs false
namespace Go.Mw
set_option maxRecDepth 100000
theorem rising_ok (l : List Int) (hl : l.length ≤ 1048576) : FnT G f_r01_Rising [.lst (l.map I)] (Bo (decide (∀ i < l.length, 0 < i → l[i-1]! < l[i]!))) := by
 refine FnP.mk' g_r01_Rising rfl rfl ?_
 simp only [go_sem, ↓reduceIte, ↓gA, ↓gB, ↓gC, ↓gD, ↓cA, ↓cB, c_r01_Rising]
 refine wp_loopQ (fun (i : Nat) σ => (1 ≤ i ∧ (i ≤ l.length ∨ i = 1)) ∧ (∀ j < i, 0 < j → l[j-1]! < l[j]!) ∧ σ = ⟨aT .undef 20 [(0, .lst (l.map I)), (3, I i)], [], []⟩) (fun i => l.length - i) ?_ 1 ?_
 ·rintro i σ ⟨⟨hi1, hi⟩, hall, rfl⟩ N Q hQ hN
  by_cases hlt : i < l.length
  ·have hsub : IntKind.i64.wrap ((i : Int) - 1) = (i : Int) - 1 := by rw [wrapI] <;> omega
   have ht1 : ((i : Int) - 1).toNat = i - 1 := by omega
   simp only [go_sem, ↓reduceIte, ↓gA, ↓gB, ↓gC, ↓gD, ↓cA, ↓cB, Int.ofNat_lt, hlt, wrap_succ hlt (by omega), hsub, ht1]
   refine ⟨by omega, by omega, fun h => ?_, fun h => ?_⟩
   ·subst hQ; simp only [go_sem, ↓reduceIte, ↓gA, ↓gB, ↓gC, ↓gD, ↓cA, ↓cB]
    rw [decide_eq_false]
    intro hp; have := hp i hlt (by omega); omega
   ·refine hN (i + 1) _ (by omega) ⟨by omega, forall_lt_succ hall (fun _ => by omega), ?_⟩
    simp only [go_sem, ↓reduceIte, ↓gA, ↓gB, ↓gC, ↓gD, ↓cA, ↓cB]
  ·subst hQ
   simp only [go_sem, ↓reduceIte, ↓gA, ↓gB, ↓gC, ↓gD, ↓cA, ↓cB, Int.ofNat_lt, hlt]
   rw [decide_eq_true]
   intro j hj h0; exact hall j (by omega) h0
 ·exact ⟨by omega, fun j hj h0 => by omega, by simp only [go_sem, ↓reduceIte, ↓gA, ↓gB, ↓gC, ↓gD, ↓cA, ↓cB]⟩
theorem set_ok (n : Nat) (hn : n ≤ 62) (s : Int) : FnT G f_r01_Set [I n, I s] (Bo (decide (0 ≤ s ∧ s < ((2 ^ n : Nat) : Int)))) := by
 refine FnP.mk' g_r01_Set rfl rfl ?_
 simp only [go_sem, ↓reduceIte, ↓gA, ↓gB, ↓gC, ↓gD, ↓cA, ↓cB, c_r01_Set, bshl_one hn]
 generalize ((2 ^ n : Nat) : Int) = most
 grind
section
variable {fr : Bool} {roots : List Nat} {b : Nat} {ss : List Nat} {σ : St} {k : AV → St → Prop}
theorem rising_r {l : List Int} (hl : l.length ≤ 1048576) : callT G f_r01_Rising [.lst (l.map I)] fr roots b ss σ k = k (Bo (decide (∀ i < l.length, 0 < i → l[i-1]! < l[i]!))) σ := (rising_ok l hl).rule
theorem set_r {n : Nat} {s : Int} (hn : n ≤ 62) : callT G f_r01_Set [I n, I s] fr roots b ss σ k = k (Bo (decide (0 ≤ s ∧ s < ((2 ^ n : Nat) : Int)))) σ := (set_ok n hn s).rule
end
open Classical in
theorem sttR_ok (x : Stt) (st n : Nat) (hn : n ≤ 8) (hA : x.A.length ≤ 1048576) (hX : x.X.length ≤ 1048576) : FnT G f_r03_state [eSt x, I st, I n] (Bo (decide (SttOk x st n))) := by
 have hno : (SttOk x st n → False) → AV.bool false = Bo (decide (SttOk x st n)) := fun h => by rw [decide_eq_false (fun hp => h hp)]
 refine FnP.mk' g_r03_state rfl rfl ?_
 simp only [go_sem, ↓reduceIte, ↓gA, ↓gB, ↓gC, ↓gD, ↓cA, ↓cB, c_r03_state, eSt, rising_r hA]
 refine ⟨fun h1 => ⟨fun h2 => hno (fun hp => h2 hp.ris), fun h2 => ?_⟩, fun h1 => hno (fun hp => by have := hp.len; simp at h1; omega)⟩
 have hXn : x.X.length = n := by simp at h1; omega
 have hris : ∀ i < x.A.length, 0 < i → x.A[i-1]! < x.A[i]! := by simpa using h2
 refine wp_loopQ (fun (i : Nat) σ => i ≤ x.X.length ∧ (∀ j < i, -1 ≤ x.X[j]! ∧ x.X[j]! < (st : Int)) ∧ σ = ⟨aT .undef 66 [(1, I st), (2, I n), (3, .ptr 0 1 [] 0 0 0), (25, .lst (x.X.map I)), (26, I x.X.length), (27, I i)],
  [⟨1, 0, .own 2 [.agg [.lst (x.A.map I), .lst (x.X.map I)]]⟩], []⟩) (fun i => x.X.length - i) ?_ 0 ?_
 ·rintro i σ ⟨hi, hall, rfl⟩ N Q hQ hN
  by_cases hlt : i < x.X.length
  ·simp only [go_sem, ↓reduceIte, ↓gA, ↓gB, ↓gC, ↓gD, ↓cA, ↓cB, wrap_succ hlt (by omega), Int.ofNat_lt, hlt]
   (repeat' (first | intro _ | refine And.intro ?_ ?_)) <;> first
     | (subst hQ; simp only [go_sem, ↓reduceIte, ↓gA, ↓gB, ↓gC, ↓gD, ↓cA, ↓cB]; exact hno (fun hp => by have := hp.x i (by omega); omega))
     | (refine hN (i + 1) _ (by omega) ⟨by omega, forall_lt_succ hall (by omega), ?_⟩; simp only [go_sem, ↓reduceIte, ↓gA, ↓gB, ↓gC, ↓gD, ↓cA, ↓cB])
  ·have hil : i = x.X.length := by omega
   subst hQ
   simp only [go_sem, ↓reduceIte, ↓gA, ↓gB, ↓gC, ↓gD, ↓cA, ↓cB, Int.ofNat_lt, hlt]
   have h28 : 2 ^ n ≤ 2 ^ 8 := Nat.pow_le_pow_right (by omega) hn
   refine wp_loopQ (fun (m : Nat) σ => m ≤ x.A.length ∧ (∀ m' < m, (0 ≤ x.A[m']! ∧ x.A[m']! < ((2 ^ n : Nat) : Int)) ∧ ∀ a < n, hasA x.A[m']! a = true → 0 ≤ x.X[a]!) ∧ σ = ⟨aT .undef 66 [(2, I n), (3, .ptr 0 1 [] 0 0 0), (40, .lst (x.A.map I)), (41, I x.A.length), (42, I m)],
    [⟨1, 0, .own 2 [.agg [.lst (x.A.map I), .lst (x.X.map I)]]⟩], []⟩) (fun m => x.A.length - m) ?_ 0 ?_
   ·rintro m σ ⟨hm, hall3, rfl⟩ N3 Q3 hQ3 hN3
    by_cases hlt3 : m < x.A.length
    ·simp only [go_sem, ↓reduceIte, ↓gA, ↓gB, ↓gC, ↓gD, ↓cA, ↓cB, wrap_succ hlt3 (by omega), Int.ofNat_lt, hlt3, set_r (show n ≤ 62 by omega)]
     refine ⟨fun h => ?_, fun h => ?_⟩
     ·subst hQ3; simp only [go_sem, ↓reduceIte, ↓gA, ↓gB, ↓gC, ↓gD, ↓cA, ↓cB]
      exact hno (fun hp => h (hp.a m hlt3))
     have hb : 0 ≤ x.A[m]! ∧ x.A[m]! < ((2 ^ n : Nat) : Int) := by simpa using h
     obtain ⟨s, hs, hs2⟩ : ∃ s : Nat, x.A[m]! = s ∧ s < 2 ^ n := ⟨x.A[m]!.toNat, by omega, by omega⟩
     simp only [go_sem, ↓reduceIte, ↓gA, ↓gB, ↓gC, ↓gD, ↓cA, ↓cB, hs, list_r (show n ≤ 1000 by omega) (show s < 2 ^ 63 by omega)]
     refine wp_loopQ (fun (j : Nat) σ => j ≤ (bitsL n s).length ∧ (∀ j' < j, 0 ≤ x.X[(bitsL n s)[j']!]!) ∧ σ = ⟨aT .undef 66 [(2, I n), (3, .ptr 0 1 [] 0 0 0), (40, .lst (x.A.map I)), (41, I x.A.length), (42, I m), (52, .lst ((bitsL n s).map nI)), (53, I (bitsL n s).length), (54, I j)],
      [⟨1, 0, .own 2 [.agg [.lst (x.A.map I), .lst (x.X.map I)]]⟩], []⟩) (fun j => (bitsL n s).length - j) ?_ 0 ?_
     ·rintro j σ ⟨hj, hall4, rfl⟩ N4 Q4 hQ4 hN4
      by_cases hlt4 : j < (bitsL n s).length
      ·have hb := @bitsL_len n s
       obtain ⟨hb1, hb2⟩ := bitsL_get hlt4
       have hbx : (bitsL n s)[j]! < x.X.length := by omega
       simp only [go_sem, ↓reduceIte, ↓gA, ↓gB, ↓gC, ↓gD, ↓cA, ↓cB, wrap_succ hlt4 (by omega), Int.ofNat_lt, hlt4, hbx]
       refine ⟨fun h => ?_, fun h => ?_⟩
       ·subst hQ4; simp only [go_sem, ↓reduceIte, ↓gA, ↓gB, ↓gC, ↓gD, ↓cA, ↓cB]
        subst hQ3; simp only [go_sem, ↓reduceIte, ↓gA, ↓gB, ↓gC, ↓gD, ↓cA, ↓cB]
        refine hno (fun hp => ?_)
        have := hp.has m hlt3 _ hb1 (by rw [hs]; exact hb2)
        omega
       ·refine hN4 (j + 1) _ (by omega) ⟨by omega, forall_lt_succ hall4 (by omega), ?_⟩
        simp only [go_sem, ↓reduceIte, ↓gA, ↓gB, ↓gC, ↓gD, ↓cA, ↓cB]
      ·have hjl : j = (bitsL n s).length := by omega
       subst hQ4
       simp only [go_sem, ↓reduceIte, ↓gA, ↓gB, ↓gC, ↓gD, ↓cA, ↓cB, Int.ofNat_lt, hlt4, wrap_succ hlt3 (show x.A.length ≤ 1000000000 by omega)]
       refine hN3 (m + 1) _ (by omega) ⟨by omega, forall_lt_succ hall3 ⟨by omega, fun a ha hbit => ?_⟩, ?_⟩
       ·obtain ⟨j', hj', e⟩ := bitsL_mem (s := s) ha (by unfold hasA at hbit; rw [hs, Int.toNat_natCast] at hbit; exact hbit)
        rw [← e]; exact hall4 j' (by omega)
       ·simp only [go_sem, ↓reduceIte, ↓gA, ↓gB, ↓gC, ↓gD, ↓cA, ↓cB]
     ·exact ⟨by omega, by simp, by simp only [go_sem, ↓reduceIte, ↓gA, ↓gB, ↓gC, ↓gD, ↓cA, ↓cB]⟩
    ·subst hQ3
     simp only [go_sem, ↓reduceIte, ↓gA, ↓gB, ↓gC, ↓gD, ↓cA, ↓cB, Int.ofNat_lt, hlt3]
     rw [decide_eq_true ⟨hXn, fun k hk => (hall3 k (by omega)).1, hris, fun k hk => hall k (by omega), fun k hk => (hall3 k (by omega)).2⟩]
   ·exact ⟨by omega, by simp, by simp only [go_sem, ↓reduceIte, ↓gA, ↓gB, ↓gC, ↓gD, ↓cA, ↓cB]⟩
 ·exact ⟨by omega, by simp, by simp only [go_sem, ↓reduceIte, ↓gA, ↓gB, ↓gC, ↓gD, ↓cA, ↓cB]⟩
open Classical in
theorem spcR_ok (s : Spc) (h : SpSz s) : FnT G f_r03_Is [eSp s] (Bo (decide (SpcOk s))) := by
 have hno : (SpcOk s → False) → AV.bool false = Bo (decide (SpcOk s)) := fun h => by rw [decide_eq_false (fun hp => h hp)]
 refine FnP.mk' g_r03_Is rfl rfl ?_
 have hS := h.s
 simp only [go_sem, ↓reduceIte, ↓gA, ↓gB, ↓gC, ↓gD, ↓cA, ↓cB, c_r03_Is, eSp, actsR_r h.a]
 refine ⟨fun h1 => ⟨fun h2 => ⟨fun h3 => ?_, fun h3 => ?_⟩, fun h2 => ?_⟩, fun h1 => ?_⟩
 all_goals first
  | exact hno (fun hp => by have := hp.s1; have := hp.s2; omega)
  | exact hno (fun hp => by have := hp.acts; simp_all)
  | skip
 have hacts : actsOk s.acts = true := by assumption
 have h8 := actsOk_len hacts
 refine wp_loopQ (fun (i : Nat) σ => i ≤ s.S.length ∧ (∀ j < i, SttOk s.S[j]! s.S.length s.acts.length) ∧ ∃ a c, σ = ⟨aT .undef 38 [(1, .ptr 0 1 [] 0 0 0), (22, .lst (s.S.map eSt)), (23, I s.S.length), (24, I i)], [⟨1, 0, .own 2 [.agg [.lst (s.acts.map .str), .lst (s.S.map eSt)]]⟩, ⟨a, c, .gone⟩], []⟩) (fun i => s.S.length - i) ?_ 0 ?_
 ·rintro i σ ⟨hi, hall, a, c, rfl⟩ N Q hQ hN
  by_cases hlt : i < s.S.length
  ·obtain ⟨hA, hX⟩ := h.x i hlt
   have hcall : ∀ {fr : Bool} {roots : List Nat} {b : Nat} {ss : List Nat} {σ : St} {k : AV → St → Prop}, callT G f_r03_state [.agg [.lst (s.S[i]!.A.map I), .lst (s.S[i]!.X.map I)], I s.S.length, I s.acts.length] fr roots b ss σ k = k (Bo (decide (SttOk s.S[i]! s.S.length s.acts.length))) σ := (sttR_ok _ _ _ h8 hA hX).rule
   simp only [go_sem, ↓reduceIte, ↓gA, ↓gB, ↓gC, ↓gD, ↓cA, ↓cB, eSt, wrap_succ hlt (by omega), Int.ofNat_lt, hlt, hcall]
   refine ⟨fun hb => ?_, fun hb => ?_⟩
   ·subst hQ; simp only [go_sem, ↓reduceIte, ↓gA, ↓gB, ↓gC, ↓gD, ↓cA, ↓cB]
    exact hno (fun hp => hb (hp.st i hlt))
   ·refine hN (i + 1) _ (by omega) ⟨by omega, forall_lt_succ hall (by simpa using hb), a + 1, 0, ?_⟩
    simp only [go_sem, ↓reduceIte, ↓gA, ↓gB, ↓gC, ↓gD, ↓cA, ↓cB]
  ·subst hQ
   simp only [go_sem, ↓reduceIte, ↓gA, ↓gB, ↓gC, ↓gD, ↓cA, ↓cB, Int.ofNat_lt, hlt]
   rw [decide_eq_true ⟨hacts, by omega, by omega, fun j hj => hall j (by omega)⟩]
 ·exact ⟨by omega, by simp, 0, 0, by simp only [go_sem, ↓reduceIte, ↓gA, ↓gB, ↓gC, ↓gD, ↓cA, ↓cB]⟩
end Go.Mw
/- Rows of -1: slices.Repeat; a specification that nothing satisfies. -/
namespace Go.Mw
set_option maxRecDepth 100000
structure FnO (G : Prg) (f : FuncId) (xs : List AV) (es : Nat) (ys : List AV) : Prop where
 ok : ∃ F n r st ss σ1, G f = some F ∧ xs.length = F.np ∧ F.pure = true ∧ F.fo = true ∧ splits F xs = false ∧ runF G n F xs [] [] = some ([.sl r st [] ss 0 ys.length], σ1) ∧ node σ1.h r st [] 0 = some (.own es ys)
 pl : ys.all (fun e : AV => e.cells.all AV.plain) = true
theorem FnO.rule {G : Prg} {f : FuncId} {xs : List AV} {es : Nat} {ys : List AV} (h : FnO G f xs es ys) {fr : Bool} {roots : List Nat} {b s : Nat} {σ : St} {k : AV → St → Prop} :
 callT G f xs fr roots b [s] σ k = newK (if fr then σ.h else dropRoots σ.h roots) (b + s) (.own es ys) (fun h st => k (.sl (b + s) st [] 0 0 ys.length) { σ with h }) := by
 obtain ⟨⟨F, n, r, st, sb, σ1, hf, h1, h2, h3, h4, hr, hn⟩, hp⟩ := h
 have hfl : ([AV.sl r st [] sb 0 ys.length]).all AV.flats = false := rfl
 unfold newK
 cases hnew : newOb (if fr then σ.h else dropRoots σ.h roots) (b + s) (.own es ys) with
 | some p =>
   obtain ⟨h', st'⟩ := p
   refine callT_of (n := n) (h := h') hf h1 ?_
   unfold callX
   rw [h4]; simp only [Bool.false_eq_true, if_false, hr, hfl, Bool.or_false, give, h3, Nat.zero_le, if_true, hn, hp, and_self, hnew]
 | none =>
   refine propext ⟨fun ⟨F', m, v, h', e1, e2, e3, q⟩ => ?_, False.elim⟩
   rw [hf] at e1; cases e1
   have e4 := callX_mono (Nat.le_max_right n m) e3
   unfold callX at e4
   rw [h4] at e4
   have hr2 := ((monoLe (G := G) (Nat.le_max_left n m)).2.2.2.1 _ _ _ _ _ hr)
   simp only [Bool.false_eq_true, if_false, hr2, hfl, Bool.or_false, give, h3, Nat.zero_le, if_true, hn, hp, and_self, hnew, reduceCtorEq] at e4
def isRep (n : Nat) : Option (List AV × St) → Bool
 | some ([.sl r st [] ss 0 len], σ) => len == n && (match node σ.h r st [] 0 with | some (.own 1 ys) => ys.length == n && ys.all (fun | .int .i64 v => v == -1 | _ => false) | _ => false)
 | _ => false
theorem isRep_at {n : Nat} {x : Option (List AV × St)} (h : isRep n x = true) : ∃ r st ss σ, x = some ([.sl r st [] ss 0 n], σ) ∧ node σ.h r st [] 0 = some (.own 1 (List.replicate n (I (-1)))) := by
 unfold isRep at h
 split at h
 ·rename_i r st ss len σ
  simp only [Bool.and_eq_true, beq_iff_eq] at h
  obtain ⟨rfl, h⟩ := h
  refine ⟨r, st, ss, σ, rfl, ?_⟩
  split at h
  ·rename_i ys hn
   simp only [Bool.and_eq_true, beq_iff_eq, List.all_eq_true] at h
   rw [hn]
   congr 2
   refine List.eq_replicate_iff.2 ⟨h.1, fun y hy => ?_⟩
   have := h.2 y hy
   split at this
   ·rw [beq_iff_eq] at this; subst this; rfl
   ·cases this
  ·cases h
 ·cases h
theorem rep_run : ∀ n < 9, isRep n (runF G 100 F_slices_RepeatZitit [.lst [I (-1)], I (n : Nat)] [] []) = true := by decide +kernel
theorem rep_ok (n : Nat) (hn : n ≤ 8) : FnO G f_slices_RepeatZitit [.lst [.int .i64 (-1)], I n] 1 (List.replicate n (.int .i64 (-1))) := by
 obtain ⟨r, st, ss, σ, h, h2⟩ := isRep_at (rep_run n (by omega))
 refine ⟨⟨F_slices_RepeatZitit, 100, r, st, ss, σ, g_slices_RepeatZitit, rfl, rfl, rfl, rfl, ?_, h2⟩, ?_⟩
 ·rw [List.length_replicate]; exact h
 ·rw [List.all_eq_true]; intro x hx; rw [List.eq_of_mem_replicate hx]; rfl
theorem rep_r {n : Nat} (hn : n ≤ 8) {fr : Bool} {roots : List Nat} {b s : Nat} {σ : St} {k : AV → St → Prop} :
 callT G f_slices_RepeatZitit [.lst [.int .i64 (-1)], I n] fr roots b [s] σ k = newK (if fr then σ.h else dropRoots σ.h roots) (b + s) (.own 1 (List.replicate n (.int .i64 (-1)))) (fun h st => k (.sl (b + s) st [] 0 0 n) { σ with h }) := by
 have := (rep_ok n hn).rule (fr := fr) (roots := roots) (b := b) (s := s) (σ := σ) (k := k)
 rw [List.length_replicate] at this; exact this
def noSpc (acts : List ByteArray) : Spc := ⟨acts, [⟨[], List.replicate acts.length (-1)⟩]⟩
theorem nothing_ok (acts : List ByteArray) (h : acts.length ≤ 8) : Fn G f_spec_Nothing [.lst (acts.map .str)] (eSp (noSpc acts)) := by
 refine FnP.mk' g_spec_Nothing rfl rfl ?_
 simp only [go_sem, ↓reduceIte, ↓gA, ↓gB, ↓gC, ↓gD, ↓cA, ↓cB, c_spec_Nothing, clone_r (show acts.length ≤ 1048576 by omega), rep_r h]
 simp only [eSp, noSpc, eSt, List.map_cons, List.map_nil, List.map_replicate, frz]
section
variable {roots : List Nat} {b : Nat} {ss : List Nat} {σ : St} {k : AV → St → Prop}
theorem nothing_r {acts : List ByteArray} (h : acts.length ≤ 8) : callT G f_spec_Nothing [.lst (acts.map .str)] true roots b ss σ k = k (eSp (noSpc acts)) σ := (nothing_ok acts h).rule
end
end Go.Mw
/- Specifications: a copy; are they valid?, as the program asks. -/
namespace Go.Mw
set_option maxRecDepth 100000
def rowS (x : Stt) : AV := .agg [cellv .nils 1 (x.A.map I), cellv .nils 1 (x.X.map I)]
theorem frz_rowS (x : Stt) : frz (rowS x) = eSt x := by
 have h : ∀ l : List Int, (l.map I).map frz = l.map I := fun l => by rw [List.map_map]; rfl
 simp only [rowS, eSt, go_sem, h]
theorem spcCopy_ok (s : Spc) (h : SpSz s) : Fn G f_r03_Copy [eSp s] (eSp s) := by
 refine FnP.mk' g_r03_Copy rfl rfl ?_
 have ha := h.a
 have hS := h.s
 simp only [go_sem, ↓reduceIte, ↓gA, ↓gB, ↓gC, ↓gD, ↓cA, ↓cB, c_r03_Copy, eSp]
 refine ⟨by omega, ?_⟩
 refine wp_loopQ (fun (i : Nat) σ => i ≤ s.S.length ∧ ∃ a0 c0 a2 c2 z a4 c4 a5 c5 a6 c6 a7 c7 a8 c8, σ = ⟨aT .undef 31 [(2, .ptr 1 1 [] 0 0 0), (3, .ptr 3 1 [] 0 0 0), (11, .lst (s.S.map eSt)), (12, I s.S.length), (13, I i)],
  [⟨a0, c0, .own 2 [.agg [.lst (s.acts.map .str), .lst (s.S.map eSt)]]⟩, ⟨1, 0, .own 2 [.agg [.nils, .nils]]⟩, ⟨a2, c2, .gone⟩, ⟨1, z, .own 2 [.agg [cellv .nils 1 (s.acts.map .str), cellv .nils 2 ((s.S.take i).map rowS)]]⟩, ⟨a4, c4, .gone⟩, ⟨a5, c5, .gone⟩, ⟨a6, c6, .gone⟩, ⟨a7, c7, .gone⟩, ⟨a8, c8, .gone⟩], []⟩) (fun i => s.S.length - i) ?_ 0 ?_
 ·rintro i σ ⟨hi, a0, c0, a2, c2, z, a4, c4, a5, c5, a6, c6, a7, c7, a8, c8, rfl⟩ N Q hQ hN
  by_cases hlt : i < s.S.length
  ·obtain ⟨g1, g2⟩ := h.x i hlt
   simp only [go_sem, ↓reduceIte, ↓gA, ↓gB, ↓gC, ↓gD, ↓cA, ↓cB, eSt, wrap_succ hlt (by omega), Int.ofNat_lt, hlt]
   generalize hx : s.S[i]! = x at *
   refine ⟨by omega, by omega, by rw [List.length_take]; omega, hN (i + 1) _ (by omega) ⟨by omega, ?_⟩⟩
   simp only [go_sem, ↓reduceIte, ↓gA, ↓gB, ↓gC, ↓gD, ↓cA, ↓cB, take_succ_map _ hlt, hx, rowS]
   repeat apply Exists.intro
   rfl
  ·have hil : i = s.S.length := by omega
   subst hil hQ
   simp only [go_sem, ↓reduceIte, ↓gA, ↓gB, ↓gC, ↓gD, ↓cA, ↓cB, Int.ofNat_lt, hlt, List.take_length]
   have e : frz ∘ rowS = eSt := funext frz_rowS
   rw [List.map_map, e]
 ·refine ⟨by omega, ?_⟩
  simp only [go_sem, ↓reduceIte, ↓gA, ↓gB, ↓gC, ↓gD, ↓cA, ↓cB, List.take_zero]
  repeat apply Exists.intro
  rfl
theorem spcCopy_r {s : Spc} (h : SpSz s) {roots : List Nat} {b : Nat} {ss : List Nat} {σ : St} {k : AV → St → Prop} : callT G f_r03_Copy [.agg [.lst (s.acts.map .str), .lst (s.S.map eSt)]] true roots b ss σ k = k (eSp s) σ := (spcCopy_ok s h).rule
def canN (x : Stt) (i : Nat) : Nat := bitsN (fun a => decide (0 ≤ x.X[a]!)) i
theorem canN_lt {x : Stt} {i : Nat} : canN x i < 2 ^ i := bitsN_lt
theorem canN_test {x : Stt} {i a : Nat} : (canN x i).testBit a = true ↔ a < i ∧ 0 ≤ x.X[a]! := by unfold canN; rw [bitsN_test]; simp
def SpI (s : Spc) : Prop := ∀ i < s.S.length, ∀ j < s.S[i]!.A.length, s.S[i]!.A[j]! < 9223372036854775808
theorem andn_zero {m n : Nat} : andn m n = 0 ↔ ∀ a, m.testBit a = true → n.testBit a = true := by
 rw [nat_zero_bits]
 refine forall_congr' (fun a => ?_)
 rw [andn_test]
 cases m.testBit a <;> cases n.testBit a <;> simp
open Classical in
theorem spc_ok (s : Spc) (h : SpSz s) (hI : SpI s) : FnT G f_spec_Valid [eSp s] (Bo (decide (SpcOk s))) := by
 have hno : (SpcOk s → False) → AV.bool false = Bo (decide (SpcOk s)) := fun h => by rw [decide_eq_false (fun hp => h hp)]
 refine FnP.mk' g_spec_Valid rfl rfl ?_
 have hS := h.s
 simp only [go_sem, ↓reduceIte, ↓gA, ↓gB, ↓gC, ↓gD, ↓cA, ↓cB, c_spec_Valid, eSp, acts_r h.a]
 refine ⟨fun h1 => ⟨fun h2 => ⟨fun h3 => ?_, fun h3 => ?_⟩, fun h2 => ?_⟩, fun h1 => ?_⟩
 all_goals first
  | exact hno (fun hp => by have := hp.s1; have := hp.s2; omega)
  | exact hno (fun hp => by have := hp.acts; simp_all)
  | skip
 have hacts : actsOk s.acts = true := by assumption
 have h8 := actsOk_len hacts
 refine wp_loopQ (fun (i : Nat) σ => i ≤ s.S.length ∧ (∀ j < i, SttOk s.S[j]! s.S.length s.acts.length) ∧ ∃ a c, σ = ⟨aT .undef 94 [(1, .ptr 0 1 [] 0 0 0), (3, I s.S.length), (27, .lst (s.S.map eSt)), (28, I s.S.length), (29, I i)], [⟨1, 0, .own 2 [.agg [.lst (s.acts.map .str), .lst (s.S.map eSt)]]⟩, ⟨a, c, .gone⟩], []⟩) (fun i => s.S.length - i) ?_ 0 ?_
 ·rintro i σ ⟨hi, hall, a, c, rfl⟩ N Q hQ hN
  by_cases hlt : i < s.S.length
  ·obtain ⟨hA, hX⟩ := h.x i hlt
   have hII := hI i hlt
   simp only [go_sem, ↓reduceIte, ↓gA, ↓gB, ↓gC, ↓gD, ↓cA, ↓cB, eSt, wrap_succ hlt (by omega), Int.ofNat_lt, hlt]
   generalize hx : s.S[i]! = x at *
   have hnoS : (SttOk x s.S.length s.acts.length → False) → AV.bool false = Bo (decide (SpcOk s)) := fun h => hno (fun hp => h (by have := hp.st i hlt; rw [hx] at this; exact this))
   refine ⟨fun hl => ?_, fun hl => ?_⟩
   ·subst hQ; simp only [go_sem, ↓reduceIte, ↓gA, ↓gB, ↓gC, ↓gD, ↓cA, ↓cB]
    exact hnoS (fun hp => by have := hp.len; simp at hl; omega)
   have hXn : x.X.length = s.acts.length := by simp at hl; omega
   refine wp_loopQ (fun (j : Nat) σ => j ≤ x.X.length ∧ (∀ k < j, -1 ≤ x.X[k]! ∧ x.X[k]! < (s.S.length : Int)) ∧ σ = ⟨aT .undef 94 [(1, .ptr 0 1 [] 0 0 0), (3, I s.S.length), (5, .ptr 1 (a + 1) [] 0 0 0), (6, I (canN x j : Nat)), (27, .lst (s.S.map eSt)), (28, I s.S.length), (29, I i), (41, .lst (x.X.map I)), (42, I x.X.length), (43, I j)],
    [⟨1, 0, .own 2 [.agg [.lst (s.acts.map .str), .lst (s.S.map eSt)]]⟩, ⟨a + 1, 0, .own 2 [.agg [.lst (x.A.map I), .lst (x.X.map I)]]⟩], []⟩) (fun j => x.X.length - j) ?_ 0 ?_
   ·rintro j σ ⟨hj, hall2, rfl⟩ N2 Q2 hQ2 hN2
    by_cases hlt2 : j < x.X.length
    ·have hcs : canN x (j + 1) = if decide (0 ≤ x.X[j]!) then canN x j ||| 2 ^ j else canN x j := bitsN_succ
     simp only [go_sem, ↓reduceIte, ↓gA, ↓gB, ↓gC, ↓gD, ↓cA, ↓cB, wrap_succ hlt2 (by omega), Int.ofNat_lt, hlt2, bshl_one (show j ≤ 62 by omega), canN, bitsN_bor (show j ≤ 32 by omega)]
     (repeat' (first | intro _ | refine And.intro ?_ ?_)) <;> first
       | (subst hQ2; simp only [go_sem, ↓reduceIte, ↓gA, ↓gB, ↓gC, ↓gD, ↓cA, ↓cB]; subst hQ; simp only [go_sem, ↓reduceIte, ↓gA, ↓gB, ↓gC, ↓gD, ↓cA, ↓cB]
          exact hnoS (fun hp => by have := hp.x j (by omega); omega))
       | (refine hN2 (j + 1) _ (by omega) ⟨by omega, forall_lt_succ hall2 (by omega), ?_⟩
          unfold canN at hcs
          first
           | (rw [if_pos (by simpa using (by assumption : 0 ≤ x.X[j]!))] at hcs; simp only [go_sem, ↓reduceIte, ↓gA, ↓gB, ↓gC, ↓gD, ↓cA, ↓cB, canN, hcs])
           | (rw [if_neg (by simpa using (by assumption : ¬ 0 ≤ x.X[j]!))] at hcs; simp only [go_sem, ↓reduceIte, ↓gA, ↓gB, ↓gC, ↓gD, ↓cA, ↓cB, canN, hcs]))
    ·have hjl : j = x.X.length := by omega
     subst hQ2
     simp only [go_sem, ↓reduceIte, ↓gA, ↓gB, ↓gC, ↓gD, ↓cA, ↓cB, Int.ofNat_lt, hlt2]
     have hc8 : canN x j < 2 ^ 8 := Nat.lt_of_lt_of_le canN_lt (Nat.pow_le_pow_right (by omega) (by omega))
     refine wp_loopQ (fun (m : Nat) σ => m ≤ x.A.length ∧ (∀ k < m, (0 ≤ x.A[k]! ∧ (∀ a, hasA x.A[k]! a = true → (canN x j).testBit a = true)) ∧ (0 < k → x.A[k-1]! < x.A[k]!)) ∧ σ = ⟨aT .undef 94 [(1, .ptr 0 1 [] 0 0 0), (3, I s.S.length), (5, .ptr 1 (a + 1) [] 0 0 0), (6, I (canN x j : Nat)), (27, .lst (s.S.map eSt)), (28, I s.S.length), (29, I i), (63, .lst (x.A.map I)), (64, I x.A.length), (65, I m)],
      [⟨1, 0, .own 2 [.agg [.lst (s.acts.map .str), .lst (s.S.map eSt)]]⟩, ⟨a + 1, 0, .own 2 [.agg [.lst (x.A.map I), .lst (x.X.map I)]]⟩], []⟩) (fun m => x.A.length - m) ?_ 0 ?_
     ·rintro m σ ⟨hm, hall3, rfl⟩ N3 Q3 hQ3 hN3
      by_cases hlt3 : m < x.A.length
      ·have hsub : IntKind.i64.wrap ((m : Int) - 1) = (m : Int) - 1 := by rw [wrapI] <;> omega
       have ht1 : ((m : Int) - 1).toNat = m - 1 := by omega
       have hbd := hII m hlt3
       by_cases h0 : x.A[m]! < 0
       ·simp only [go_sem, ↓reduceIte, ↓gA, ↓gB, ↓gC, ↓gD, ↓cA, ↓cB, wrap_succ hlt3 (by omega), Int.ofNat_lt, hlt3, h0]
        subst hQ3; simp only [go_sem, ↓reduceIte, ↓gA, ↓gB, ↓gC, ↓gD, ↓cA, ↓cB]; subst hQ; simp only [go_sem, ↓reduceIte, ↓gA, ↓gB, ↓gC, ↓gD, ↓cA, ↓cB]
        exact hnoS (fun hp => by have := (hp.a m hlt3).1; omega)
       ·obtain ⟨t, ht⟩ : ∃ t : Nat, x.A[m]! = t := ⟨x.A[m]!.toNat, by omega⟩
        have hbits : (((andn t (canN x j) : Nat) : Int) != 0) = true ↔ ¬ ∀ a, hasA x.A[m]! a = true → (canN x j).testBit a = true := by
         rw [bne_iff_ne]
         have : ((andn t (canN x j) : Nat) : Int) = 0 ↔ andn t (canN x j) = 0 := by omega
         rw [Ne, this, andn_zero]
         simp only [hasA, ht, Int.toNat_natCast]
        simp only [go_sem, ↓reduceIte, ↓gA, ↓gB, ↓gC, ↓gD, ↓cA, ↓cB, wrap_succ hlt3 (by omega), Int.ofNat_lt, hlt3, h0, ht, bandn_nat (show t < 2 ^ 63 by omega) (show canN x j < 2 ^ 63 by omega), hsub, ht1]
        (repeat' (first | intro _ | refine And.intro ?_ ?_)) <;> first
          | omega
          | (subst hQ3; simp only [go_sem, ↓reduceIte, ↓gA, ↓gB, ↓gC, ↓gD, ↓cA, ↓cB]; subst hQ; simp only [go_sem, ↓reduceIte, ↓gA, ↓gB, ↓gC, ↓gD, ↓cA, ↓cB]
             refine hnoS (fun hp => ?_)
             first
              | (have g1 := hp.ris m hlt3 (by omega); omega)
              | (have g2 := hbits.1 (by assumption)
                 refine g2 (fun a ha => canN_test.2 ?_)
                 have g3 := hp.a m hlt3
                 have g4 : a < s.acts.length := testBit_lt (n := t) (by omega) (by simpa [hasA, ht] using ha)
                 exact ⟨by omega, hp.has m hlt3 a g4 ha⟩))
          | (refine hN3 (m + 1) _ (by omega) ⟨by omega, forall_lt_succ hall3 ⟨⟨by omega, ?_⟩, fun _ => by omega⟩, ?_⟩
             ·exact Classical.byContradiction fun hc => by have := hbits.2 hc; simp_all
             ·simp only [go_sem, ↓reduceIte, ↓gA, ↓gB, ↓gC, ↓gD, ↓cA, ↓cB])
      ·subst hQ3
       simp only [go_sem, ↓reduceIte, ↓gA, ↓gB, ↓gC, ↓gD, ↓cA, ↓cB, Int.ofNat_lt, hlt3, wrap_succ hlt (show s.S.length ≤ 1000000000 by omega)]
       have hml : m = x.A.length := by omega
       refine hN (i + 1) _ (by omega) ⟨by omega, forall_lt_succ hall ?_, a + 1, 0, ?_⟩
       ·rw [hx]
        refine ⟨hXn, fun k hk => ?_, fun k hk => (hall3 k (by omega)).2, fun k hk => hall2 k (by omega), fun k hk b hb hh => (canN_test.1 ((hall3 k (by omega)).1.2 b hh)).2⟩
        obtain ⟨g1, g2⟩ := (hall3 k (by omega)).1
        refine ⟨g1, ?_⟩
        have : x.A[k]!.toNat < 2 ^ s.acts.length := lt_of_bits fun b hb => by have := (canN_test.1 (g2 b hb)).1; omega
        omega
       ·simp only [go_sem, ↓reduceIte, ↓gA, ↓gB, ↓gC, ↓gD, ↓cA, ↓cB]
     ·exact ⟨by omega, by simp, by simp only [go_sem, ↓reduceIte, ↓gA, ↓gB, ↓gC, ↓gD, ↓cA, ↓cB]⟩
   ·exact ⟨by omega, by simp, by simp only [go_sem, ↓reduceIte, ↓gA, ↓gB, ↓gC, ↓gD, ↓cA, ↓cB, canN, bitsN]⟩
  ·subst hQ
   simp only [go_sem, ↓reduceIte, ↓gA, ↓gB, ↓gC, ↓gD, ↓cA, ↓cB, Int.ofNat_lt, hlt]
   rw [decide_eq_true ⟨hacts, by omega, by omega, fun j hj => hall j (by omega)⟩]
 ·exact ⟨by omega, by simp, 0, 0, by simp only [go_sem, ↓reduceIte, ↓gA, ↓gB, ↓gC, ↓gD, ↓cA, ↓cB]⟩
section
variable {fr : Bool} {roots : List Nat} {b : Nat} {ss : List Nat} {σ : St} {k : AV → St → Prop}
open Classical in
theorem spc_r {s : Spc} (h : SpSz s) (hI : SpI s) : callT G f_spec_Valid [.agg [.lst (s.acts.map .str), .lst (s.S.map eSt)]] fr roots b ss σ k = k (Bo (decide (SpcOk s))) σ := (spc_ok s h hI).rule
open Classical in
theorem spcR_r {s : Spc} (h : SpSz s) : callT G f_r03_Is [.agg [.lst (s.acts.map .str), .lst (s.S.map eSt)]] fr roots b ss σ k = k (Bo (decide (SpcOk s))) σ := (spcR_ok s h).rule
end
end Go.Mw
/- Trimming, plainly; what is solid, as the reference finds it. -/
namespace Go.Mw
set_option maxRecDepth 100000
open Classical in
noncomputable def keptL (s : Spc) (x : Nat) : List Int := s.S[x]!.A.filter fun set => !decide (Dies s.S[x]! (inB (holL s)) set)
open Classical in
noncomputable def keptP (s : Spc) (x m : Nat) : List Int := (s.S[x]!.A.take m).filter fun set => !decide (Dies s.S[x]! (inB (holL s)) set)
open Classical in
theorem keptP_succ {s : Spc} {x m : Nat} (h : m < s.S[x]!.A.length) : keptP s x (m + 1) = if Dies s.S[x]! (inB (holL s)) s.S[x]!.A[m]! then keptP s x m else keptP s x m ++ [s.S[x]!.A[m]!] := by
 unfold keptP
 generalize s.S[x]! = y at *
 rw [List.take_succ_eq_append_getElem h, List.filter_append, getElem!_pos y.A m h]
 by_cases hd : Dies y (inB (holL s)) y.A[m] <;> simp [hd]
theorem keptP_all {s : Spc} {x : Nat} : keptP s x s.S[x]!.A.length = keptL s x := by unfold keptP keptL; rw [List.take_length]
theorem keptP_len {s : Spc} {x m : Nat} : (keptP s x m).length ≤ m := by
 unfold keptP; exact Nat.le_trans (List.length_filter_le _ _) (by rw [List.length_take]; omega)
theorem keptP_mem {s : Spc} {x m : Nat} {v : Int} (h : v ∈ keptP s x m) : v ∈ s.S[x]!.A := List.mem_of_mem_take (List.mem_filter.1 h).1
noncomputable def solA (s : Spc) (x : Nat) : List Int := if (holL s)[x]! then [] else keptL s x
def usedN (l : List Int) : Nat := l.foldl (fun u v => u ||| v.toNat) 0
theorem usedN_append {l : List Int} {v : Int} : usedN (l ++ [v]) = usedN l ||| v.toNat := by unfold usedN; rw [List.foldl_append]; rfl
theorem usedN_foldl : ∀ (l : List Int) (u k : Nat), u < 2 ^ k → (∀ v ∈ l, v.toNat < 2 ^ k) → l.foldl (fun u v => u ||| v.toNat) u < 2 ^ k := by
 intro l
 induction l with
 | nil => intro u k h _; exact h
 | cons v l ih => intro u k h hv; exact ih _ k (Nat.or_lt_two_pow h (hv v (List.mem_cons_self ..))) (fun w hw => hv w (List.mem_cons_of_mem _ hw))
theorem usedN_lt {l : List Int} {k : Nat} (h : ∀ v ∈ l, v.toNat < 2 ^ k) : usedN l < 2 ^ k := usedN_foldl l 0 k (Nat.two_pow_pos k) h
theorem usedN_bit {l : List Int} {a : Nat} : (usedN l).testBit a = true ↔ ∃ v ∈ l, hasA v a = true := by
 have key : ∀ (l : List Int) (u : Nat), (l.foldl (fun u v => u ||| v.toNat) u).testBit a = true ↔ u.testBit a = true ∨ ∃ v ∈ l, hasA v a = true := by
  intro l
  induction l with
  | nil => intro u; simp
  | cons v l ih =>
    intro u
    rw [List.foldl_cons, ih, Nat.testBit_or, Bool.or_eq_true]
    simp only [List.mem_cons, hasA]
    constructor
    ·rintro ((h | h) | ⟨w, hw, h⟩)
     ·exact .inl h
     ·exact .inr ⟨v, .inl rfl, h⟩
     ·exact .inr ⟨w, .inr hw, h⟩
    ·rintro (h | ⟨w, rfl | hw, h⟩)
     ·exact .inl (.inl h)
     ·exact .inl (.inr h)
     ·exact .inr ⟨w, hw, h⟩
 unfold usedN; rw [key]; simp
def onlyX (x : Stt) (u j : Nat) : List Int := (List.range j).map fun a => if u.testBit a then x.X[a]! else -1
theorem onlyX_succ {x : Stt} {u j : Nat} : onlyX x u (j + 1) = onlyX x u j ++ [if u.testBit j then x.X[j]! else -1] := by unfold onlyX; rw [List.range_succ]; simp
theorem onlyX_len {x : Stt} {u j : Nat} : (onlyX x u j).length = j := by simp [onlyX]
theorem onlyX_get {x : Stt} {u j a : Nat} (h : a < j) : (onlyX x u j)[a]! = if u.testBit a then x.X[a]! else -1 := by
 rw [getElem!_pos _ a (by rw [onlyX_len]; exact h)]; simp [onlyX]
noncomputable def solS (s : Spc) (x : Nat) : Stt := ⟨solA s x, onlyX s.S[x]! (usedN (solA s x)) s.S[x]!.X.length⟩
noncomputable def solidOf (s : Spc) : Spc := ⟨s.acts, (List.range s.S.length).map (solS s)⟩
theorem getR {α : Type} [Inhabited α] {f : Nat → α} {n i : Nat} (h : i < n) : ((List.range n).map f)[i]! = f i := by
 rw [getElem!_pos _ i (by simpa using h)]; simp
end Go.Mw
/- The states that are reached, in the order in which they are found. -/
namespace Go.Mw
set_option maxRecDepth 100000
def visit (p : List Bool × List Nat) (k : Int) : List Bool × List Nat := if 0 ≤ k ∧ p.1[k.toNat]! = false then (p.1.set k.toNat true, p.2 ++ [k.toNat]) else p
structure VI (n : Nat) (p : List Bool × List Nat) : Prop where
 l : p.1.length = n
 nd : p.2.Nodup
 m : ∀ x, x ∈ p.2 ↔ x < n ∧ p.1[x]! = true
 z : p.2[0]? = some 0
theorem VI.len {n : Nat} {p : List Bool × List Nat} (h : VI n p) : p.2.length ≤ n := nodup_len h.nd (fun x hx => ((h.m x).1 hx).1)
theorem VI.pos {n : Nat} {p : List Bool × List Nat} (h : VI n p) : 0 < p.2.length := List.lt_of_some h.z
theorem VI.get {n : Nat} {p : List Bool × List Nat} (h : VI n p) {i : Nat} (hi : i < p.2.length) : p.2[i]! < n := ((h.m _).1 (getMem hi)).1
theorem VI.visit {n : Nat} {p : List Bool × List Nat} (h : VI n p) {k : Int} (hk : k < (n : Int)) : VI n (visit p k) := by
 unfold Go.Mw.visit
 by_cases hc : 0 ≤ k ∧ p.1[k.toNat]! = false
 ·rw [if_pos hc]
  have hkn : k.toNat < n := by omega
  refine ⟨by rw [List.length_set]; exact h.l, ?_, fun x => ?_, ?_⟩
  ·rw [List.nodup_append]
   refine ⟨h.nd, by simp, fun a ha b hb => ?_⟩
   rw [List.mem_singleton] at hb
   subst hb
   intro e; subst e
   have := ((h.m _).1 ha).2
   rw [hc.2] at this; cases this
  ·rw [List.mem_append, List.mem_singleton, h.m]
   simp only []
   rw [getS1 (by rw [h.l]; exact hkn)]
   by_cases e : k.toNat = x
   ·subst e; simp [hkn]
   ·rw [if_neg e]
    exact ⟨fun g => g.resolve_right (fun g => e g.symm), .inl⟩
  ·simp only []
   rw [List.getElem?_append_left h.pos]; exact h.z
 ·rw [if_neg hc]; exact h
theorem VI.all {n : Nat} : ∀ (ks : List Int) {p : List Bool × List Nat}, VI n p → (∀ k ∈ ks, k < (n : Int)) → VI n (ks.foldl Go.Mw.visit p)
 | [], p, h, _ => h
 | k :: ks, p, h, hk => VI.all ks (h.visit (hk k (List.mem_cons_self ..))) (fun j hj => hk j (List.mem_cons_of_mem _ hj))
theorem visit_pre {p : List Bool × List Nat} {k : Int} : p.2 <+: (visit p k).2 := by
 unfold visit; split
 ·exact List.prefix_append _ _
 ·exact List.prefix_refl _
theorem visits_pre : ∀ (ks : List Int) {p : List Bool × List Nat}, p.2 <+: (ks.foldl visit p).2
 | [], p => List.prefix_refl _
 | k :: ks, p => visit_pre.trans (visits_pre ks)
def bfsAt (n : Nat) (nx : Nat → List Int) : Nat → List Bool × List Nat
 | 0 => ((List.replicate n false).set 0 true, [0])
 | i + 1 => if i < (bfsAt n nx i).2.length then (nx (bfsAt n nx i).2[i]!).foldl visit (bfsAt n nx i) else bfsAt n nx i
theorem bfs_vi {n : Nat} {nx : Nat → List Int} (hn : 0 < n) (hx : ∀ x < n, ∀ k ∈ nx x, k < (n : Int)) : ∀ i, VI n (bfsAt n nx i) := by
 intro i
 induction i with
 | zero =>
   refine ⟨by simp [bfsAt], by simp [bfsAt], fun x => ?_, rfl⟩
   simp only [bfsAt, List.mem_singleton]
   rw [getS1 (by simpa using hn)]
   by_cases e : 0 = x
   ·subst e; simp [hn]
   ·rw [if_neg e]
    constructor
    ·intro h; exact absurd h.symm e
    ·rintro ⟨h1, h2⟩
     rw [getElem!_pos _ x (by simpa using h1)] at h2; simp at h2
 | succ i ih =>
   simp only [bfsAt]
   split
   ·rename_i hl; exact ih.all _ (hx _ (ih.get hl))
   ·exact ih
theorem bfs_stay {n : Nat} {nx : Nat → List Int} {i : Nat} (h : (bfsAt n nx i).2.length ≤ i) : ∀ j, bfsAt n nx (i + j) = bfsAt n nx i := by
 intro j
 induction j with
 | zero => rfl
 | succ j ih => rw [← Nat.add_assoc, bfsAt, ih, if_neg (by omega)]
def orderL (n : Nat) (nx : Nat → List Int) : List Nat := (bfsAt n nx n).2
theorem bfs_end {n : Nat} {nx : Nat → List Int} (hn : 0 < n) (hx : ∀ x < n, ∀ k ∈ nx x, k < (n : Int)) {i : Nat} (h : (bfsAt n nx i).2.length = i) : (bfsAt n nx i).2 = orderL n nx := by
 have hl := (bfs_vi hn hx i).len
 have := bfs_stay (n := n) (nx := nx) (i := i) (by omega) (n - i)
 rw [show i + (n - i) = n by omega] at this
 unfold orderL; rw [this]
theorem elK_rep {n i : Nat} {v : AV} {q : AV → Prop} : elK (List.replicate n v) i q = (i < n ∧ q v) := by
 unfold elK
 rw [List.getElem?_replicate]
 by_cases h : i < n <;> simp [h]
theorem rep_setB {n i : Nat} : (List.replicate n (AV.bool false)).set i (.bool true) = ((List.replicate n false).set i true).map Bo := by rw [List.map_set, List.map_replicate]
attribute [go_sem] elK_rep
end Go.Mw
/- The trimmed specification, as the reference makes it. -/
namespace Go.Mw
set_option maxRecDepth 100000
theorem solid_len {s : Spc} : (solidOf s).S.length = s.S.length := by simp [solidOf]
theorem solid_get {s : Spc} {x : Nat} (h : x < s.S.length) : (solidOf s).S[x]! = solS s x := getR h
theorem solA_mem {s : Spc} {x : Nat} {v : Int} (h : v ∈ solA s x) : v ∈ s.S[x]!.A := by
 unfold solA at h; split at h
 ·cases h
 ·exact (List.mem_filter.1 h).1
theorem getAt {α : Type} [Inhabited α] {l : List α} {v : α} (h : v ∈ l) : ∃ i, i < l.length ∧ l[i]! = v := by
 obtain ⟨i, hi, e⟩ := List.mem_iff_getElem.1 h; exact ⟨i, hi, by rw [getElem!_pos l i hi]; exact e⟩
theorem solid_b {s : Spc} (h : SpB s) : SpB (solidOf s) := by
 refine ⟨by rw [solid_len]; exact h.sz, fun i hi => ?_⟩
 rw [solid_len] at hi ⊢
 rw [solid_get hi]
 have hst := h.st i hi
 refine ⟨fun j hj => ?_, fun j hj => ?_, ?_, ?_⟩
 ·obtain ⟨k, hk, e⟩ := getAt (solA_mem (getMem hj))
  have := hst.a k hk
  simp only [solS]; rw [e] at this; exact this
 ·simp only [solS, onlyX_len] at hj ⊢
  rw [onlyX_get hj]
  split
  ·exact hst.x j hj
  ·omega
 ·simp only [solS]; unfold solA; split
  ·simp
  ·exact Nat.le_trans (List.length_filter_le _ _) hst.la
 ·simp only [solS, onlyX_len]; exact hst.lx
noncomputable def ordOf (s : Spc) : List Nat := orderL s.S.length fun x => (solidOf s).S[x]!.X
def placeX (l : List Nat) (k : Int) : Int := if 0 ≤ k then (l.idxOf k.toNat : Int) else k
noncomputable def trimS (s : Spc) (x : Nat) : Stt := ⟨(solS s x).A, (solS s x).X.map (placeX (ordOf s))⟩
noncomputable def trimOf (s : Spc) : Spc := ⟨s.acts, (ordOf s).map (trimS s)⟩
noncomputable def trimA (s : Spc) : Spc × List Nat := if (holL s)[0]! then (noSpc s.acts, []) else (trimOf s, ordOf s)
theorem sol_xb {s : Spc} (h : SpB s) : ∀ x < s.S.length, ∀ k ∈ (solidOf s).S[x]!.X, k < (s.S.length : Int) := fun x hx k hk => by
 obtain ⟨j, hj, e⟩ := getAt hk
 have := ((solid_b h).st x (by rw [solid_len]; exact hx)).x j hj
 rw [solid_len] at this
 rw [e] at this; exact this
theorem ord_vi {s : Spc} (h : SpB s) (h1 : 0 < s.S.length) : VI s.S.length (bfsAt s.S.length (fun x => (solidOf s).S[x]!.X) s.S.length) := bfs_vi h1 (sol_xb h) _
theorem ord_nd {s : Spc} (h : SpB s) (h1 : 0 < s.S.length) : (ordOf s).Nodup := (ord_vi h h1).nd
theorem ord_lt {s : Spc} (h : SpB s) (h1 : 0 < s.S.length) {x : Nat} (hx : x ∈ ordOf s) : x < s.S.length := (((ord_vi h h1).m x).1 hx).1
theorem ord_len {s : Spc} (h : SpB s) (h1 : 0 < s.S.length) : (ordOf s).length ≤ s.S.length := (ord_vi h h1).len
theorem bfs_closed {n : Nat} {nx : Nat → List Int} (hn : 0 < n) (hx : ∀ x < n, ∀ k ∈ nx x, k < (n : Int)) : ∀ x ∈ orderL n nx, ∀ k ∈ nx x, 0 ≤ k → k.toNat ∈ orderL n nx := by
 have vis : ∀ (ks : List Int) {p : List Bool × List Nat}, VI n p → (∀ k ∈ ks, k < (n : Int)) → ∀ k ∈ ks, 0 ≤ k → k.toNat ∈ (ks.foldl visit p).2 := by
  intro ks
  induction ks with
  | nil => intro p _ _ k hk; cases hk
  | cons j ks ih =>
    intro p hp hks k hk h0
    have hv := hp.visit (hks j (List.mem_cons_self ..))
    rcases List.mem_cons.1 hk with rfl | hk
    ·have : k.toNat ∈ (visit p k).2 := by
      have hkn := hks k (List.mem_cons_self ..)
      unfold visit
      by_cases hf : p.1[k.toNat]! = false
      ·rw [if_pos ⟨h0, hf⟩]; simp
      ·rw [if_neg (fun g => hf g.2), hp.m]
       exact ⟨by omega, by simpa using hf⟩
     exact (visits_pre ks).subset this
    ·exact ih hv (fun i hi => hks i (List.mem_cons_of_mem _ hi)) k hk h0
 have key : ∀ i, ∀ j < i, j < (bfsAt n nx i).2.length → ∀ k ∈ nx (bfsAt n nx i).2[j]!, 0 ≤ k → k.toNat ∈ (bfsAt n nx i).2 := by
  intro i
  induction i with
  | zero => intro j hj; omega
  | succ i ih =>
    intro j hj hjl k hk h0
    have hV := bfs_vi hn hx i
    simp only [bfsAt] at hjl hk ⊢
    split at hjl
    ·rename_i hil
     rw [if_pos hil] at hk ⊢
     have hpre := visits_pre (nx (bfsAt n nx i).2[i]!) (p := bfsAt n nx i)
     have hget : ∀ q < (bfsAt n nx i).2.length, ((nx (bfsAt n nx i).2[i]!).foldl visit (bfsAt n nx i)).2[q]! = (bfsAt n nx i).2[q]! := fun q hq => by
      obtain ⟨r, hr⟩ := hpre
      rw [← hr, List.getElem!_eq_getElem?_getD, List.getElem?_append_left hq, ← List.getElem!_eq_getElem?_getD]
     rcases Nat.lt_or_eq_of_le (Nat.le_of_lt_succ hj) with h1 | rfl
     ·rw [hget j (by omega)] at hk
      exact hpre.subset (ih j h1 (by omega) k hk h0)
     ·rw [hget j hil] at hk
      exact vis _ hV (hx _ (hV.get hil)) k hk h0
    ·rename_i hil
     rw [if_neg hil] at hk ⊢
     exact ih j (by omega) hjl k hk h0
 intro x hxm k hk h0
 obtain ⟨j, hj, e⟩ := getAt hxm
 unfold orderL at hj e ⊢
 have hl := (bfs_vi hn hx n).len
 exact key n j (by omega) hj k (by rw [e]; exact hk) h0
theorem ord_closed {s : Spc} (h : SpB s) (h1 : 0 < s.S.length) : ∀ x ∈ ordOf s, ∀ k ∈ (solidOf s).S[x]!.X, 0 ≤ k → k.toNat ∈ ordOf s := fun x hx k hk h0 => bfs_closed h1 (sol_xb h) x hx k hk h0
def placeL (l : List Nat) (n i : Nat) : List Nat := (List.range n).map fun k => if k ∈ l.take i then l.idxOf k else 0
theorem placeL_len {l : List Nat} {n i : Nat} : (placeL l n i).length = n := by simp [placeL]
theorem placeL_get {l : List Nat} {n i k : Nat} (h : k < n) : (placeL l n i)[k]! = if k ∈ l.take i then l.idxOf k else 0 := getR h
theorem idx_at {l : List Nat} (hn : l.Nodup) {i : Nat} (h : i < l.length) : l.idxOf l[i]! = i := by
 rw [getElem!_pos l i h]
 exact hn.idxOf_getElem i h
theorem placeL_set {l : List Nat} {n i : Nat} (hn : l.Nodup) (h : i < l.length) : (placeL l n i).set l[i]! i = placeL l n (i + 1) := by
 apply List.ext_getElem?
 intro k
 rw [List.getElem?_set, placeL_len]
 have e1 : ∀ {k i : Nat}, k < n → (placeL l n i)[k]? = some (if k ∈ l.take i then l.idxOf k else 0) := fun hk => by simp [placeL, hk]
 have hm : ∀ k, k ∈ l.take (i + 1) ↔ k ∈ l.take i ∨ k = l[i]! := fun k => by rw [List.take_succ_eq_append_getElem h, List.mem_append, List.mem_singleton, getElem!_pos l i h]
 by_cases hk : k < n
 ·rw [e1 hk, e1 hk]
  by_cases e : l[i]! = k
  ·rw [if_pos e, if_pos (by omega), if_pos ((hm k).2 (.inr e.symm)), ← e, idx_at hn h]
  ·rw [if_neg e]
   by_cases hki : k ∈ l.take i
   ·rw [if_pos hki, if_pos ((hm k).2 (.inl hki))]
   ·rw [if_neg hki, if_neg (fun g => ((hm k).1 g).elim hki (fun g => e g.symm))]
 ·rw [List.getElem?_eq_none (by rw [placeL_len]; omega), List.getElem?_eq_none (by rw [placeL_len]; omega)]
  split
  ·rw [if_neg (by omega)]
  ·rfl
theorem map_setN {l : List Nat} {i v : Nat} : (l.map eN).set i (.int .i64 (v : Nat)) = (l.set i v).map eN := by rw [List.map_set]; rfl
theorem hol0_lt {s : Spc} (h1 : 0 < s.S.length) : 0 < (holL s).length := by simp [holL]; exact h1
end Go.Mw
/- When a specification refines another one, plainly; trimmed ones. -/
namespace Go.Mw
set_option maxRecDepth 100000
theorem rising_len : ∀ {n : Nat} {l : List Int}, (∀ i < l.length, 0 ≤ l[i]! ∧ l[i]! < (n : Int)) → (∀ i < l.length, 0 < i → l[i-1]! < l[i]!) → l.length ≤ n := by
 intro n l h1 h2
 have key : ∀ i < l.length, (i : Int) ≤ l[i]! := by
  intro i
  induction i with
  | zero => intro hi; exact (h1 0 hi).1
  | succ i ih => intro hi; have := ih (by omega); have := h2 (i + 1) hi (by omega); simp only [Nat.add_sub_cancel] at this; omega
 rcases Nat.eq_zero_or_pos l.length with h | h
 ·omega
 ·have := key (l.length - 1) (by omega); have := (h1 (l.length - 1) (by omega)).2; omega
theorem SpcOk.alen {s : Spc} (h : SpcOk s) {x : Nat} (hx : x < s.S.length) : s.S[x]!.A.length ≤ 256 := by
 have h8 := actsOk_len h.acts
 have h28 : 2 ^ s.acts.length ≤ 2 ^ 8 := Nat.pow_le_pow_right (by omega) h8
 exact Nat.le_trans (rising_len (h.st x hx).a (h.st x hx).ris) h28
theorem SpcOk.sz {s : Spc} (h : SpcOk s) : SpSz s := by
 have h8 := actsOk_len h.acts
 have h2 := h.s2
 exact ⟨by omega, by omega, fun i hi => ⟨by have := h.alen hi; omega, by rw [(h.st i hi).len]; omega⟩⟩
theorem SpcOk.i {s : Spc} (h : SpcOk s) : SpI s := fun i hi j hj => by
 have h8 := actsOk_len h.acts
 have h28 : 2 ^ s.acts.length ≤ 2 ^ 8 := Nat.pow_le_pow_right (by omega) h8
 have := (h.st i hi).a j hj
 omega
structure TSpc (s : Spc) : Prop where
 ok : SpcOk s
 tight : ∀ x < s.S.length, ∀ a < s.S[x]!.X.length, 0 ≤ s.S[x]!.X[a]! → ∃ v ∈ s.S[x]!.A, hasA v a = true
theorem solX_used {s : Spc} (h : SpcOk s) {x : Nat} (hx : x < s.S.length) {a : Nat} (ha : a < s.S[x]!.X.length) : (usedN (solA s x)).testBit a = true → 0 ≤ s.S[x]!.X[a]! := fun hu => by
 obtain ⟨v, hv, hb⟩ := usedN_bit.1 hu
 obtain ⟨j, hj, e⟩ := getAt (solA_mem hv)
 exact (h.st x hx).has j hj a (by rw [← (h.st x hx).len]; exact ha) (by rw [e]; exact hb)
theorem pw_of_ris {l : List Int} (h : ∀ i < l.length, 0 < i → l[i-1]! < l[i]!) : l.Pairwise (· < ·) := by
 have key : ∀ j, ∀ i < j, j < l.length → l[i]! < l[j]! := by
  intro j
  induction j with
  | zero => intro i hi; omega
  | succ j ih =>
    intro i hi hj
    have h1 := h (j + 1) hj (by omega)
    simp only [Nat.add_sub_cancel] at h1
    rcases Nat.lt_or_eq_of_le (Nat.le_of_lt_succ hi) with h2 | rfl
    ·have := ih i h2 (by omega); omega
    ·exact h1
 refine List.pairwise_iff_getElem.2 (fun i j hi hj hij => ?_)
 have := key j i hij hj
 rwa [getElem!_pos l i hi, getElem!_pos l j hj] at this
theorem solA_pw {s : Spc} (h : SpcOk s) {x : Nat} (hx : x < s.S.length) : (solA s x).Pairwise (· < ·) := by
 unfold solA
 split
 ·exact List.Pairwise.nil
 ·exact (pw_of_ris (h.st x hx).ris).filter _
theorem placeX_lt {l : List Nat} {k : Int} (h1 : -1 ≤ k) (h2 : 0 ≤ k → k.toNat ∈ l) : -1 ≤ placeX l k ∧ placeX l k < (l.length : Int) := by
 unfold placeX
 split
 ·rename_i h0
  have := List.idxOf_lt_length_of_mem (h2 h0)
  omega
 ·omega
theorem ord_pos {s : Spc} (h : SpB s) (h1 : 0 < s.S.length) : 0 < (ordOf s).length := (ord_vi h h1).pos
theorem ord_zero {s : Spc} (h : SpB s) (h1 : 0 < s.S.length) : (ordOf s)[0]! = 0 := by
 rw [List.getElem!_eq_getElem?_getD, show (ordOf s)[0]? = some 0 from (ord_vi h h1).z]; rfl
theorem solX_get {s : Spc} {x a : Nat} (ha : a < s.S[x]!.X.length) : (solS s x).X[a]! = if (usedN (solA s x)).testBit a then s.S[x]!.X[a]! else -1 := onlyX_get ha
theorem trimS_X {s : Spc} {x a : Nat} (ha : a < s.S[x]!.X.length) : (trimS s x).X[a]! = placeX (ordOf s) (if (usedN (solA s x)).testBit a then s.S[x]!.X[a]! else -1) := by
 have hl : a < (solS s x).X.length := by simp only [solS, onlyX_len]; exact ha
 rw [← solX_get ha]
 simp only [trimS]
 rw [getElem!_pos _ a (by rw [List.length_map]; exact hl), List.getElem_map, getElem!_pos _ a hl]
theorem trimS_len {s : Spc} {x : Nat} : (trimS s x).X.length = s.S[x]!.X.length := by simp [trimS, solS, onlyX_len]
theorem trim_get {s : Spc} {i : Nat} (h : i < (ordOf s).length) : (trimOf s).S[i]! = trimS s (ordOf s)[i]! := by
 simp only [trimOf]
 rw [getElem!_pos _ i (by simpa using h), List.getElem_map, getElem!_pos (ordOf s) i h]
theorem trim_ok {s : Spc} (h : SpcOk s) : TSpc (trimOf s) := by
 have hb := h.b h.sz
 have h1 : 0 < s.S.length := h.s1
 have hL := ord_len hb h1
 have hp := ord_pos hb h1
 have hlen : (trimOf s).S.length = (ordOf s).length := by simp [trimOf]
 refine ⟨⟨h.acts, by rw [hlen]; omega, by rw [hlen]; have := h.s2; omega, fun i hi => ?_⟩, fun i hi a ha h0 => ?_⟩
 ·rw [hlen] at hi ⊢
  have hx := ord_lt hb h1 (getMem hi)
  rw [trim_get hi]
  have hcl := ord_closed hb h1 _ (getMem hi)
  rw [solid_get hx] at hcl
  generalize (ordOf s)[i]! = x at *
  have hst := h.st x hx
  have hXl : s.S[x]!.X.length = s.acts.length := hst.len
  have hget : ∀ a < s.acts.length, -1 ≤ (solS s x).X[a]! ∧ (0 ≤ (solS s x).X[a]! → (solS s x).X[a]!.toNat ∈ ordOf s) := fun a ha => by
   have hm : (solS s x).X[a]! ∈ (solS s x).X := getMem (by simp only [solS, onlyX_len]; omega)
   refine ⟨?_, hcl _ hm⟩
   rw [solX_get (by omega)]
   split
   ·exact (hst.x a ha).1
   ·omega
  refine ⟨by rw [trimS_len]; exact hXl, fun j hj => ?_, fun j hj h0 => pw_last (solA_pw h hx) hj h0, fun a ha => ?_, fun j hj a ha hb2 => ?_⟩
  ·obtain ⟨k, hk, e⟩ := getAt (solA_mem (getMem (l := solA s x) hj))
   have := hst.a k hk
   rw [e] at this; exact this
  ·have ha' : a < s.acts.length := ha
   rw [trimS_X (by omega), ← solX_get (by omega)]
   exact placeX_lt (hget a ha).1 (hget a ha).2
  ·have ha' : a < s.acts.length := ha
   have hu : (usedN (solA s x)).testBit a = true := usedN_bit.2 ⟨_, getMem (l := solA s x) hj, hb2⟩
   rw [trimS_X (by omega), if_pos hu]
   have := solX_used h hx (by omega) hu
   unfold placeX; rw [if_pos this]; omega
 ·rw [hlen] at hi
  rw [trim_get hi] at ha h0 ⊢
  rw [trimS_len] at ha
  rw [trimS_X ha] at h0
  by_cases hu : (usedN (solA s (ordOf s)[i]!)).testBit a = true
  ·exact usedN_bit.1 hu
  ·rw [if_neg hu] at h0
   unfold placeX at h0; simp at h0
def subP (s t : Spc) (x y : Nat) : Prop := ∀ v ∈ s.S[x]!.A, v ∈ t.S[y]!.A
structure Closed2 (s t : Spc) (P : Nat → Nat → Prop) : Prop where
 z : P 0 0
 n : ∀ x y, P x y → subP s t x y → ∀ a < s.S[x]!.X.length, 0 ≤ s.S[x]!.X[a]! → P s.S[x]!.X[a]!.toNat t.S[y]!.X[a]!.toNat
def Rch2 (s t : Spc) (x y : Nat) : Prop := ∀ P, Closed2 s t P → P x y
def Ref (s t : Spc) : Prop := ∀ x y, Rch2 s t x y → subP s t x y
theorem Rch2.closed (s t : Spc) : Closed2 s t (Rch2 s t) := ⟨fun P h => h.z, fun x y h hg a ha h0 P hP => hP.n x y (h P hP) hg a ha h0⟩
theorem ref_of {s t : Spc} {P : Nat → Nat → Prop} (h : Closed2 s t P) (hg : ∀ x y, P x y → subP s t x y) : Ref s t := fun x y hr => hg x y (hr P h)
theorem sub_nxt {s t : Spc} (hs : TSpc s) (ht : SpcOk t) (he : s.acts.length = t.acts.length) {x y : Nat} (hx : x < s.S.length) (hy : y < t.S.length) (hg : subP s t x y) {a : Nat} (ha : a < s.S[x]!.X.length) (h0 : 0 ≤ s.S[x]!.X[a]!) :
 s.S[x]!.X[a]! < (s.S.length : Int) ∧ a < t.S[y]!.X.length ∧ 0 ≤ t.S[y]!.X[a]! ∧ t.S[y]!.X[a]! < (t.S.length : Int) := by
 obtain ⟨v, hv, hb⟩ := hs.tight x hx a ha h0
 obtain ⟨j, hj, e⟩ := getAt (hg v hv)
 have h1 := (hs.ok.st x hx).len
 have h2 := (ht.st y hy).len
 refine ⟨((hs.ok.st x hx).x a (by omega)).2, by omega, (ht.st y hy).has j hj a (by omega) (by rw [e]; exact hb), ((ht.st y hy).x a (by omega)).2⟩
theorem Rch2.lt {s t : Spc} (hs : TSpc s) (ht : SpcOk t) (he : s.acts.length = t.acts.length) {x y : Nat} (h : Rch2 s t x y) : x < s.S.length ∧ y < t.S.length := by
 refine h (fun x y => x < s.S.length ∧ y < t.S.length) ⟨⟨by have := hs.ok.s1; omega, by have := ht.s1; omega⟩, ?_⟩
 rintro x y ⟨hx, hy⟩ hg a ha h0
 have := sub_nxt hs ht he hx hy hg ha h0
 omega
structure RI2 (s t : Spc) (M : List (List Bool)) (W : List (Nat × Nat)) : Prop where
 sz : MSz M s.S.length t.S.length
 z : Met M 0 0
 r : ∀ x y, Met M x y → Rch2 s t x y
 w : ∀ p ∈ W, Met M p.1 p.2
 c : ∀ x y, Met M x y → (x, y) ∈ W ∨ (subP s t x y ∧ ∀ a < s.S[x]!.X.length, 0 ≤ s.S[x]!.X[a]! → Met M s.S[x]!.X[a]!.toNat t.S[y]!.X[a]!.toNat)
theorem RI2.lt {s t : Spc} {M : List (List Bool)} {W : List (Nat × Nat)} (h : RI2 s t M W) (hs : TSpc s) (ht : SpcOk t) (he : s.acts.length = t.acts.length) {p : Nat × Nat} (hp : p ∈ W) : p.1 < s.S.length ∧ p.2 < t.S.length := (h.r _ _ (h.w p hp)).lt hs ht he
theorem RI2.meet {s t : Spc} {M : List (List Bool)} {W : List (Nat × Nat)} (h : RI2 s t M W) {x y : Nat} (hx : x < s.S.length) (hy : y < t.S.length) (hr : Rch2 s t x y) : RI2 s t (setM M x y) (W ++ [(x, y)]) := by
 have g := fun {x' y'} => @setM_get M _ _ x y h.sz hx hy x' y'
 refine ⟨setM_sz h.sz hx, g.2 (.inr h.z), fun x' y' hm => ?_, fun p hp => ?_, fun x' y' hm => ?_⟩
 ·rcases g.1 hm with ⟨rfl, rfl⟩ | hm
  ·exact hr
  ·exact h.r _ _ hm
 ·rw [List.mem_append, List.mem_singleton] at hp
  rcases hp with hp | rfl
  ·exact g.2 (.inr (h.w p hp))
  ·exact g.2 (.inl ⟨rfl, rfl⟩)
 ·rcases g.1 hm with ⟨rfl, rfl⟩ | hm
  ·exact .inl (List.mem_append_right _ (List.mem_singleton_self _))
  ·rcases h.c _ _ hm with h1 | ⟨h1, h2⟩
   ·exact .inl (List.mem_append_left _ h1)
   ·exact .inr ⟨h1, fun i hi h0 => g.2 (.inr (h2 i hi h0))⟩
theorem RI2.done {s t : Spc} {M : List (List Bool)} {p : Nat × Nat} {W : List (Nat × Nat)} (h : RI2 s t M (p :: W)) (hg : subP s t p.1 p.2) (hd : ∀ a < s.S[p.1]!.X.length, 0 ≤ s.S[p.1]!.X[a]! → Met M s.S[p.1]!.X[a]!.toNat t.S[p.2]!.X[a]!.toNat) : RI2 s t M W := by
 refine ⟨h.sz, h.z, h.r, fun q hq => h.w q (List.mem_cons_of_mem _ hq), fun x y hm => ?_⟩
 rcases h.c x y hm with h1 | h1
 ·rcases List.mem_cons.1 h1 with rfl | h1
  ·exact .inr ⟨hg, hd⟩
  ·exact .inl h1
 ·exact .inr h1
theorem RI2.fin {s t : Spc} {M : List (List Bool)} (h : RI2 s t M []) : Ref s t := by
 refine ref_of (P := Met M) ⟨h.z, fun x y hm hg a ha h0 => ?_⟩ (fun x y hm => ?_)
 ·rcases h.c x y hm with h1 | h1
  ·cases h1
  ·exact h1.2 a ha h0
 ·rcases h.c x y hm with h1 | h1
  ·cases h1
  ·exact h1.1
end Go.Mw
/- Trimming, as the program does it: plain facts. -/
namespace Go.Mw
set_option maxRecDepth 100000
theorem bfs_all {n : Nat} {nx : Nat → List Int} {P : Nat → Prop} (h0 : P 0) (hn : ∀ x, P x → ∀ k ∈ nx x, 0 ≤ k → P k.toNat) : ∀ i, ∀ x ∈ (bfsAt n nx i).2, P x := by
 have vis : ∀ (ks : List Int) (p : List Bool × List Nat), (∀ x ∈ p.2, P x) → (∀ k ∈ ks, 0 ≤ k → P k.toNat) → ∀ x ∈ (ks.foldl visit p).2, P x := by
  intro ks
  induction ks with
  | nil => intro p hp _; exact hp
  | cons k ks ih =>
    intro p hp hk
    refine ih _ (fun x hx => ?_) (fun j hj => hk j (List.mem_cons_of_mem _ hj))
    unfold visit at hx
    split at hx
    ·rename_i hc
     simp only [List.mem_append, List.mem_singleton] at hx
     rcases hx with hx | rfl
     ·exact hp x hx
     ·exact hk k (List.mem_cons_self ..) hc.1
    ·exact hp x hx
 intro i
 induction i with
 | zero => intro x hx; simp [bfsAt] at hx; subst hx; exact h0
 | succ i ih =>
   simp only [bfsAt]
   split
   ·rename_i hl
    exact vis _ _ ih (fun k hk hk0 => hn _ (ih _ (getMem hl)) k hk hk0)
   ·exact ih
theorem bfs_mono {n : Nat} {nx : Nat → List Int} {i : Nat} : ∀ j, (bfsAt n nx i).2 <+: (bfsAt n nx (i + j)).2 := by
 intro j
 induction j with
 | zero => exact List.prefix_refl _
 | succ j ih =>
   refine ih.trans ?_
   rw [← Nat.add_assoc]
   simp only [bfsAt]
   split
   ·exact visits_pre _
   ·exact List.prefix_refl _
theorem pre_get {α : Type} [Inhabited α] {l k : List α} (h : l <+: k) {i : Nat} (hi : i < l.length) : k[i]! = l[i]! := by
 obtain ⟨r, rfl⟩ := h
 rw [getElem!_pos _ i (by rw [List.length_append]; omega), List.getElem_append_left hi, getElem!_pos l i hi]
theorem dies_iff {x : Stt} {st n : Nat} (h : SttOk x st n) {j : Nat} (hj : j < x.A.length) {P : Nat → Prop} : Dies x P x.A[j]! ↔ ∃ a, hasA x.A[j]! a = true ∧ P x.X[a]!.toNat := by
 constructor
 ·rintro ⟨a, _, _, h3, h4⟩; exact ⟨a, h3, h4⟩
 ·rintro ⟨a, h3, h4⟩
  have ha : a < n := testBit_lt (n := x.A[j]!.toNat) (by have := h.a j hj; omega) h3
  exact ⟨a, by rw [h.len]; exact ha, h.has j hj a ha h3, h3, h4⟩
theorem kept_nd {s : Spc} {x : Nat} {v : Int} (h : v ∈ keptL s x) : v ∈ s.S[x]!.A ∧ ¬ Dies s.S[x]! (inB (holL s)) v := by
 unfold keptL at h
 have := List.mem_filter.1 h
 exact ⟨this.1, by simpa using this.2⟩
theorem ord_solid {s : Spc} (h : SpcOk s) (h0 : (holL s)[0]! = false) : ∀ i, ∀ x ∈ (bfsAt s.S.length (fun x => (solidOf s).S[x]!.X) i).2, x < s.S.length ∧ (holL s)[x]! = false := by
 refine bfs_all ⟨h.s1, h0⟩ ?_
 rintro x ⟨hx, hhx⟩ k hk hk0
 have hkl := sol_xb (h.b h.sz) x hx k hk
 refine ⟨by omega, ?_⟩
 simp only [solid_get hx] at hk
 obtain ⟨a, ha, e⟩ := getAt hk
 simp only [solS, onlyX_len] at ha
 have e2 : (solS s x).X[a]! = k := e
 rw [solX_get ha] at e2
 by_cases hu : (usedN (solA s x)).testBit a = true
 ·rw [if_pos hu] at e2
  obtain ⟨v, hv, hb⟩ := usedN_bit.1 hu
  have hv2 : v ∈ keptL s x := by unfold solA at hv; rw [if_neg (by rw [hhx]; simp)] at hv; exact hv
  obtain ⟨hv3, hv4⟩ := kept_nd hv2
  cases hb2 : (holL s)[k.toNat]! with
  | false => rfl
  | true =>
    refine absurd ⟨a, ha, by rw [e2]; exact hk0, hb, ?_⟩ hv4
    rw [e2]; exact hb2
 ·rw [if_neg hu] at e2; omega
open Classical in
theorem holL_iff {s : Spc} {x : Nat} (hx : x < s.S.length) : (holL s)[x]! = true ↔ Hol s x := by
 unfold holL; rw [mapR_get hx, decide_eq_true_eq]
theorem kept_ne {s : Spc} (h : SpcOk s) {x : Nat} (hx : x < s.S.length) (hh : (holL s)[x]! = false) : keptL s x ≠ [] := by
 intro he
 have hno : ¬ Hol s x := by
  intro hH
  have := (holL_iff hx).2 hH
  rw [hh] at this; cases this
 refine hno (Hol.closed s x hx (fun i hi => ?_))
 refine Classical.byContradiction fun hnd => ?_
 have : s.S[x]!.A[i]! ∈ keptL s x := by
  unfold keptL
  refine List.mem_filter.2 ⟨getMem hi, ?_⟩
  have : ¬ Dies s.S[x]! (inB (holL s)) s.S[x]!.A[i]! := fun hd => hnd (by
   obtain ⟨a, h1, h2, h3, h4⟩ := hd
   refine ⟨a, h1, h2, h3, ?_⟩
   unfold inB at h4
   have hlt : s.S[x]!.X[a]!.toNat < s.S.length := by have := ((h.st x hx).x a (by rw [← (h.st x hx).len]; exact h1)).2; omega
   exact (holL_iff hlt).1 h4)
  simpa using this
 rw [he] at this; cases this
theorem onlyX_vis {x : Stt} {u j : Nat} {p : List Bool × List Nat} : (onlyX x u (j + 1)).foldl visit p = if u.testBit j then visit ((onlyX x u j).foldl visit p) x.X[j]! else (onlyX x u j).foldl visit p := by
 rw [onlyX_succ, List.foldl_append]
 by_cases h : u.testBit j
 ·rw [if_pos h, if_pos h]; rfl
 ·rw [if_neg h, if_neg h]; simp [visit]
theorem onlyX_big {x : Stt} {u j : Nat} {p : List Bool × List Nat} (h : ∀ b, j ≤ b → u.testBit b = false) : ∀ k, (onlyX x u (j + k)).foldl visit p = (onlyX x u j).foldl visit p := by
 intro k
 induction k with
 | zero => rfl
 | succ k ih => rw [← Nat.add_assoc, onlyX_vis, if_neg (by rw [h (j + k) (by omega)]; simp), ih]
theorem onlyX_any {x : Stt} {u j k : Nat} {p : List Bool × List Nat} (hj : u < 2 ^ j) (hk : u < 2 ^ k) : (onlyX x u j).foldl visit p = (onlyX x u k).foldl visit p := by
 rcases Nat.le_total j k with h | h
 ·have := onlyX_big (x := x) (u := u) (j := j) (p := p) (fun b hb => testBit_big hj hb) (k - j)
  rw [show j + (k - j) = k by omega] at this; exact this.symm
 ·have := onlyX_big (x := x) (u := u) (j := k) (p := p) (fun b hb => testBit_big hk hb) (j - k)
  rw [show k + (j - k) = j by omega] at this; exact this
end Go.Mw
