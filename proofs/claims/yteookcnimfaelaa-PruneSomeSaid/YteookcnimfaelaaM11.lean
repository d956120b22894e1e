/- Soundness: code. -/
import Derived.Test.YteookcnimfaelaaM10
import Derived.Orders
set_option linter.unusedVariables false
set_option linter.unusedSimpArgs false
namespace Go.Mw
open Go.RowKit
section
variable {P : Program} {w0 : World} {fz0 : Nat → Prop} {B : Nat} {m m' : Mem} {w w' : World} {las : Las} {h h' : List Ob} {σ σ' : St} {a : Act}
def DrawS (P : Program) (G : Prg) (f : Ins → Nat → St → Option (AV × St)) : Prop :=
 ∀ (sm : List Nat) (ops : Array Oper) (rs : List Rop) (b : Nat) (σ σ' : St) (fs : List (Option (List Nat))), compRs P sm ops ops.toList = some rs → drawOk ops rs = true → drwE G f rs b σ = some (σ', fs) →
  (hardPairs ops rs).all (fun p => apart (fs.getD p.1 none) (fs.getD p.2 none) || soft ((sftE f rs b σ).getD p.1 .no) ((sftE f rs b σ).getD p.2 .no)) = true → ∀ (mixed : Bool) (t : Nat),
  ∃ rl, All2 (fun j r => ∃ o, ops[j]? = some o ∧ compR P sm ops o = some r) (Region.schedule mixed ops t) rl ∧ opsE f rl b σ = some σ'
theorem compRs_all {sm : List Nat} {ops : Array Oper} : ∀ (l : List Oper) (k : Nat) (rs : List Rop), (∀ j o, l[j]? = some o → ops[k + j]? = some o) → compRs P sm ops l = some rs → All2 (fun j r => ∃ o, ops[j]? = some o ∧ compR P sm ops o = some r) (List.range' k l.length) rs := by
 intro l
 induction l with
 | nil => intro k rs _ h; simp [compRs] at h; subst h; exact .nil
 | cons o l ih =>
   intro k rs hk h
   simp only [compRs] at h
   cases h1 : compR P sm ops o with
   | none => simp [h1] at h
   | some r =>
     cases h2 : compRs P sm ops l with
     | none => simp [h1, h2] at h
     | some rs' =>
       simp [h1, h2] at h; subst h
       rw [List.length_cons, List.range'_succ]
       exact .cons ⟨o, by have := hk 0 o rfl; simpa using this, h1⟩ (ih (k + 1) rs' (fun j o' hj => by have := hk (j + 1) o' (by simpa using hj); rw [← this]; congr 1; omega) h2)
theorem Goes.step {M M1 : Machine} {fr : Frame} {k : List Item} {cs : List Frame} {a' : Act} {w' : World} {e : Ex} (hs : Steps P M M1) (hg : Goes P M1 fr k cs a' w' e) : Goes P M fr k cs a' w' e := by
 cases e with
 | nrm => exact hs.trans hg
 | ret => obtain ⟨k0, hg⟩ := hg; exact ⟨k0, hs.trans hg⟩
 | ext id => obtain ⟨k0, h1, hg⟩ := hg; exact ⟨k0, h1, hs.trans hg⟩
theorem Goes.pass {M : Machine} {fr : Frame} {x : Item} {k : List Item} {cs : List Frame} {a' : Act} {w' : World} {e : Ex} (he : e ≠ .nrm) (hx : ∀ id, e = .ext id → exitTo id (x :: k) = exitTo id k ∧ ∀ k', exitTo id (x :: k') = exitTo id k') (hg : Goes P M fr (x :: k) cs a' w' e) : Goes P M fr k cs a' w' e := by
 cases e with
 | nrm => exact absurd rfl he
 | ret => exact hg
 | ext id =>
   obtain ⟨k0, h1, hg⟩ := hg
   refine ⟨k0 ++ [x], fun k' => ?_, by simpa using hg⟩
   rw [List.append_assoc, h1]
   exact (hx id rfl).2 k'
def LoopS (P : Program) (f : C → Nat → St → Option (Ex × St)) : Prop :=
 ∀ (c : C) (b : Nat) (σ : St) (e : Ex) (σ' : St), f c b σ = some (e, σ') → ∀ (sm : List Nat) (c1 : Code), compC P sm (.loop c1) = some (bare c) →
  ∀ w0 fz0 B m las a w, Sim P w0 fz0 B m las σ a w → ∀ (fr : Frame), RoundOk fr las → ∃ a' w' m', Sim P w0 fz0 B m' las σ' a' w' ∧ Ev m σ.h w m' σ'.h w' ∧ σ'.h.length = σ.h.length ∧
   ∀ (k : List Item) (cs : List Frame), Goes P (lone (fr.atR a (.code c1 :: .inLoop c1 :: k)) cs w) fr k cs a' w' e
theorem frz1_sim (hs : Sim P w0 fz0 B m las σ a w) (t : Nat) : ∃ m', Sim P w0 fz0 B m' las (frz1 t σ) a w ∧ Ev m σ.h w m' (frz1 t σ).h w ∧ (frz1 t σ).h.length = σ.h.length := by
 unfold frz1
 split
 ·rename_i v hv
  have hst : HStep m (m.freeze σ.h (fun r => r ∈ rootsOf v)) σ.h (dropRoots σ.h (rootsOf v)) := dropRoots_step m σ.h _
  have hev : Ev m σ.h w (m.freeze σ.h (fun r => r ∈ rootsOf v)) (dropRoots σ.h (rootsOf v)) w := Ev.of_keep hst (WKeep.refl w) (FKeep.refl w _) (fun b hb => .inl hb)
  refine ⟨m.freeze σ.h (fun r => r ∈ rootsOf v), ⟨?_, hs.rel.freeze _ (fun r p nd hn hi => dropRoots_node hn hi), hs.lps.ev' hev (fun _ _ _ => rfl), hs.dfs, hs.bs⟩, hev, dropRoots_len _ _⟩
  have ht := hs.tr.ev hev (fun _ _ h => h)
  refine ⟨by rw [List.length_set]; exact ht.size, fun i x c hx hc => ?_⟩
  by_cases e : t = i
  ·subst e
   rw [List.getElem?_set_self (List.lt_of_some hv)] at hx
   cases hx
   exact treeB_rel hs.rel (fun v c hi hlt hex _ => by obtain ⟨r, hr⟩ := hex; exact absurd (hlt r hr) (Nat.not_lt_zero _)) (hs.tr.rel t v c hv hc) (fun r hr => .inr hr)
  ·rw [List.getElem?_set_ne e] at hx
   exact ht.rel i x c hx hc
 ·exact ⟨m, hs, Ev.refl _ _ _, rfl⟩
theorem mv1_sim (hs : Sim P w0 fz0 B m las σ a w) (b t s : Nat) : ∃ m', Sim P w0 fz0 B m' las (mv1 b t s σ) a w ∧ Ev m σ.h w m' (mv1 b t s σ).h w ∧ (mv1 b t s σ).h.length = σ.h.length := by
 have triv : ∃ m', Sim P w0 fz0 B m' las σ a w ∧ Ev m σ.h w m' σ.h w ∧ σ.h.length = σ.h.length := ⟨m, hs, Ev.refl _ _ _, rfl⟩
 unfold mv1
 split
 ·rename_i r st ss len hv
  split
  ·rename_i es xs o1 o hnd ho1 ho
   split
   ·rename_i hg
    split
    ·rename_i hc
     obtain ⟨hne, hl⟩ := hc
     subst hl
     have hrl : r < σ.h.length := List.lt_of_some ho1
     have hTl : b + s < σ.h.length := List.lt_of_some ho
     have hnA : nodeAt σ.h r [] = some (.own es xs) := node_at hnd
     have hst : HStep m { blk := takeBlk m r [] es 0 (b + s), fz := m.fz } σ.h ((σ.h.set r { o1 with c := .gone }).set (b + s) { st := o.st + 1, ss := 0, c := .own es xs }) := by
      intro r2 o2 ho2
      by_cases e1 : r2 = b + s
      ·subst e1
       rw [ho] at ho2; cases ho2
       exact ⟨_, by rw [List.getElem?_set_self (by simpa using hTl)], .inl (Nat.lt_succ_self _)⟩
      ·by_cases e2 : r2 = r
       ·subst e2
        rw [ho1] at ho2; cases ho2
        refine ⟨_, by rw [List.getElem?_set_ne (fun h => e1 h.symm), List.getElem?_set_self hrl], OStep.gone (p := []) (c := .gone) (by simp [upd]) (fun q => by show takeBlk _ _ _ _ _ _ _ _ = _; unfold takeBlk; rw [if_neg e1])⟩
       ·exact ⟨o2, by rw [List.getElem?_set_ne (fun h => e1 h.symm), List.getElem?_set_ne (fun h => e2 h.symm)]; exact ho2, OStep.same (fun q nd _ _ => by show takeBlk _ _ _ _ _ _ _ _ = _; unfold takeBlk; rw [if_neg e1])⟩
     have hev : Ev m σ.h w { blk := takeBlk m r [] es 0 (b + s), fz := m.fz } ((σ.h.set r { o1 with c := .gone }).set (b + s) { st := o.st + 1, ss := 0, c := .own es xs }) w := Ev.of_keep hst (WKeep.refl w) (FKeep.refl w _) (fun _ h => h)
     have hrel : Rel w0 fz0 { blk := takeBlk m r [] es 0 (b + s), fz := m.fz } ((σ.h.set r { o1 with c := .gone }).set (b + s) { st := o.st + 1, ss := 0, c := .own es xs }) w := by
      refine hs.rel.take hnA 0 xs.length (b + s) (fun h => hne h.symm) (fun o' ho' => by rw [ho] at ho'; cases ho'; rw [hg]; rfl) ⟨_, by rw [List.getElem?_set_self (by simpa using hTl)], by simp⟩ ⟨o1, _, ho1, by rw [List.getElem?_set_ne (fun h => hne h.symm), List.getElem?_set_self hrl], by simp [upd]⟩ (fun r2 o2 e1 e2 e3 hi => ?_)
      rw [List.getElem?_set_ne (fun h => e2 h.symm), List.getElem?_set_ne (fun h => e1 h.symm)] at e3
      exact ⟨o2, e3, rfl⟩
     refine ⟨{ blk := takeBlk m r [] es 0 (b + s), fz := m.fz }, ⟨?_, hrel, hs.lps.ev' hev (fun _ _ _ => rfl), hs.dfs, hs.bs⟩, hev, by simp⟩
     have ht := hs.tr.ev hev (fun _ _ h => h)
     refine ⟨by rw [List.length_set]; exact ht.size, fun i x c hx hc => ?_⟩
     by_cases e : t = i
     ·subst e
      rw [List.getElem?_set_self (List.lt_of_some hv)] at hx
      cases hx
      obtain ⟨ob0, b1, b2, b3, b4⟩ := (hs.tr.rel t _ c hv hc).inv_ref rfl
      obtain ⟨g1, A, cap, g2, g3, g4⟩ := b4 _ _ hnd
      refine .ref _ _ rfl ⟨_, by rw [List.getElem?_set_self (by simpa using hTl)], Nat.le_refl _, fun _ h => absurd rfl h, fun es' xs' hn' => ?_⟩
      have : some (AV.own es' xs') = some (AV.own es xs) := by
       rw [← hn']
       simp [node, List.getElem?_set_self (show b + s < (σ.h.set r { o1 with c := .gone }).length by simpa using hTl), nav]
      cases this
      refine ⟨by omega, A, cap, g2, g3, g4.imp id (fun ⟨h1, h2⟩ => ?_)⟩
      have hT : takeBlk m r [] es 0 (b + s) (b + s) [] = ((m.blk r []).1, (m.blk r []).2 + 0 * es) := by simp [takeBlk]
      simp only [hT]
      refine ⟨by rw [h1]; simp, ?_⟩
      obtain ⟨arr, ty, k1, k2⟩ := h2
      exact ⟨arr, ty, k1, by simpa using k2⟩
     ·rw [List.getElem?_set_ne e] at hx
      exact ht.rel i x c hx hc
    ·exact triv
   ·exact triv
  ·exact triv
 ·exact triv
theorem loop_sound {G : Prg} {n : Nat} (hC : CodeS P (evC G n)) (hL : LoopS P (evC G n)) : LoopS P (evC G (n + 1)) := by
 intro c b σ e σ' hx sm c1 hcc w0 fz0 B m las a w hs fr hfr
 by_cases hz : ∃ t c0, c = .frzt t c0
 ·obtain ⟨t, c0, rfl⟩ := hz
  simp only [evC] at hx
  simp only [bare] at hcc
  obtain ⟨m1, s1, e1, l1⟩ := frz1_sim hs t
  obtain ⟨a2, w2, m2, s2, e2, l2, go⟩ := hL c0 b _ e σ' hx sm c1 hcc w0 fz0 B m1 las a w s1 fr hfr
  exact ⟨a2, w2, m2, s2, e1.trans e2, l2.trans l1, go⟩
 by_cases hy : ∃ t s c0, c = .mvt t s c0
 ·obtain ⟨t, s, c0, rfl⟩ := hy
  simp only [evC] at hx
  simp only [bare] at hcc
  obtain ⟨m1, s1, e1, l1⟩ := mv1_sim hs b t s
  obtain ⟨a2, w2, m2, s2, e2, l2, go⟩ := hL c0 b _ e σ' hx sm c1 hcc w0 fz0 B m1 las a w s1 fr hfr
  exact ⟨a2, w2, m2, s2, e1.trans e2, l2.trans l1, go⟩
 simp only [compC] at hcc
 cases h1 : compC P sm c1 with
 | none => simp [h1] at hcc
 | some y =>
   simp only [h1, Option.map_some, Option.some.injEq] at hcc
   cases c <;> (first | exact absurd ⟨_, _, rfl⟩ hz | exact absurd ⟨_, _, _, rfl⟩ hy | skip) <;> simp only [bare, reduceCtorEq] at hcc
   rename_i kt ks c
   simp only [C.loop.injEq, true_and] at hcc
   subst hcc
   simp only [evC] at hx
   have hfev : Ev m σ.h w m (freeSites b ks σ.h) w := freeSites_ev _ _
   have hs0 : Sim P w0 fz0 B m las { σ with t := kill kt σ.t, h := freeSites b ks σ.h } a w :=
    ⟨(TR.kill _ _ hs.tr).ev hfev (fun _ _ h => h), hs.rel.freeSites _ _, hs.lps.ev' hfev (fun _ _ _ => rfl), hs.dfs, hs.bs⟩
   have hl0 : (freeSites b ks σ.h).length = σ.h.length := dropRoots_len _ _
   split at hx
   ·rename_i σ1 hev
    obtain ⟨a1, w1, m1, s1, e1, l1, go1⟩ := hC _ b _ _ σ1 hev sm c1 h1 w0 fz0 B m las a w hs0 fr hfr
    obtain ⟨a2, w2, m2, s2, e2, l2, go2⟩ := hL _ b σ1 e σ' hx sm c1 (by simp [compC, h1, bare]) w0 fz0 B m1 las a1 w1 s1 fr hfr
    exact ⟨a2, w2, m2, s2, hfev.trans (e1.trans e2), l2.trans (l1.trans hl0), fun k cs => Goes.step (Steps.trans (go1 (.inLoop c1 :: k) cs) (.one stepR_inLoop)) (go2 k cs)⟩
   ·rename_i hne
    obtain ⟨a1, w1, m1, s1, e1, l1, go1⟩ := hC _ b _ e σ' hx sm c1 h1 w0 fz0 B m las a w hs0 fr hfr
    have hen : e ≠ .nrm := fun he => by subst he; exact hne _ hx
    exact ⟨a1, w1, m1, s1, hfev.trans e1, l1.trans hl0, fun k cs => Goes.pass (x := .inLoop c1) hen (fun id _ => ⟨rfl, fun _ => rfl⟩) (go1 (.inLoop c1 :: k) cs)⟩
theorem evC_sound {G : Prg} (hG : Good P G) {n : Nat} (hO : OpS P (evO G n)) (hD : DrawS P G (evO G n)) (hC : CodeS P (evC G n)) (hL : LoopS P (evC G n)) (hK : CallS P (callF G n)) : CodeS P (evC G (n + 1)) := by
 intro c b σ e σ' hx sm code hcc w0 fz0 B m las a w hs fr hfr
 by_cases hz : ∃ t c0, c = .frzt t c0
 ·obtain ⟨t, c0, rfl⟩ := hz
  simp only [evC] at hx
  simp only [bare] at hcc
  obtain ⟨m1, s1, e1, l1⟩ := frz1_sim hs t
  obtain ⟨a2, w2, m2, s2, e2, l2, go⟩ := hC c0 b _ e σ' hx sm code hcc w0 fz0 B m1 las a w s1 fr hfr
  exact ⟨a2, w2, m2, s2, e1.trans e2, l2.trans l1, go⟩
 by_cases hy : ∃ t s c0, c = .mvt t s c0
 ·obtain ⟨t, s, c0, rfl⟩ := hy
  simp only [evC] at hx
  simp only [bare] at hcc
  obtain ⟨m1, s1, e1, l1⟩ := mv1_sim hs b t s
  obtain ⟨a2, w2, m2, s2, e2, l2, go⟩ := hC c0 b _ e σ' hx sm code hcc w0 fz0 B m1 las a w s1 fr hfr
  exact ⟨a2, w2, m2, s2, e1.trans e2, l2.trans l1, go⟩
 cases code with
 | skip =>
   simp only [compC, Option.some.injEq] at hcc
   cases c <;> (first | exact absurd ⟨_, _, rfl⟩ hz | exact absurd ⟨_, _, _, rfl⟩ hy | skip) <;> simp only [bare, reduceCtorEq] at hcc
   simp only [evC, Option.some.injEq, Prod.mk.injEq] at hx
   obtain ⟨rfl, rfl⟩ := hx
   exact ⟨a, w, m, hs, Ev.refl _ _ _, rfl, fun k cs => .one stepR_skip⟩
 | region id ops draw =>
   simp only [compC] at hcc
   split at hcc
   ·rename_i rs hrs
    cases draw with
    | false =>
      simp only [Bool.false_eq_true, if_false, Option.some.injEq] at hcc
      cases c <;> (first | exact absurd ⟨_, _, rfl⟩ hz | exact absurd ⟨_, _, _, rfl⟩ hy | skip) <;> simp only [bare, reduceCtorEq] at hcc
      simp only [C.reg.injEq] at hcc
      subst hcc
      simp only [evC] at hx
      split at hx
      ·rename_i σ1 hops
       simp only [Option.some.injEq, Prod.mk.injEq] at hx
       obtain ⟨rfl, rfl⟩ := hx
       have hall := compRs_all (P := P) (sm := sm) (ops := ops) ops.toList 0 rs (fun j o hj => by rw [Nat.zero_add, ← Array.getElem?_toList]; exact hj) hrs
       rw [Array.length_toList, ← List.range_eq_range'] at hall
       obtain ⟨a1, w1, m1, s1, e1, l1, go⟩ := opsE_sound hO _ _ _ _ _ _ _ hall hops hs
       exact ⟨a1, w1, m1, s1, e1, l1, fun k cs => .head stepR_region (go fr k cs)⟩
      ·cases hx
    | true =>
      simp only [if_true] at hcc
      split at hcc
      ·rename_i hok
       simp only [Option.some.injEq] at hcc
       have fin : ∀ σ1 fs, drwE G (evO G n) rs b σ = some (σ1, fs) → (hardPairs ops rs).all (fun p => apart (fs.getD p.1 none) (fs.getD p.2 none) || soft ((sftE (evO G n) rs b σ).getD p.1 .no) ((sftE (evO G n) rs b σ).getD p.2 .no)) = true →
        ∃ a' w' m', Sim P w0 fz0 B m' las σ1 a' w' ∧ Ev m σ.h w m' σ1.h w' ∧ σ1.h.length = σ.h.length ∧ ∀ (k : List Item) (cs : List Frame), Goes P (lone (fr.atR a (.code (.region id ops true) :: k)) cs w) fr k cs a' w' .nrm := by
        intro σ1 fs hops hap
        obtain ⟨rl, hall, hrun⟩ := hD sm ops rs b σ σ1 fs hrs hok hops hap (P.follows .mixedOrders) (w.tape w.drawn (.order fr.fn id))
        have hdev : Ev m σ.h w m σ.h { w with drawn := w.drawn + 1 } := ⟨HStep.refl _ _, (WKeep.refl w).1, (WKeep.refl w).2.1, fun _ _ _ _ h => h, fun _ h => h, fun _ _ h => h, Nat.le_refl _⟩
        have hs1 : Sim P w0 fz0 B m las σ a { w with drawn := w.drawn + 1 } := by
         refine ⟨hs.tr.ev hdev (fun _ _ h => h), hs.rel.heap rfl ?_, hs.lps.ev' hdev (fun _ _ _ => rfl), hs.dfs, hs.bs⟩
         exact hs.rel.below.trans ⟨rfl, rfl, rfl, Nat.le_refl _, fun _ _ => rfl⟩
        obtain ⟨a1, w1, m1, s1, e1, l1, go⟩ := opsE_sound hO _ _ _ _ _ _ _ hall hrun hs1
        exact ⟨a1, w1, m1, s1, hdev.trans e1, l1, fun k cs => .head stepR_region_draw (go fr k cs)⟩
       cases c <;> (first | exact absurd ⟨_, _, rfl⟩ hz | exact absurd ⟨_, _, _, rfl⟩ hy | skip) <;> simp only [bare, reduceCtorEq] at hcc
       all_goals
        simp only [C.drw.injEq] at hcc
        obtain ⟨rfl, rfl⟩ := hcc
        simp only [evC] at hx
        split at hx
        ·rename_i σ1 fs hops
         split at hx
         ·rename_i hap
          simp only [Option.some.injEq, Prod.mk.injEq] at hx
          obtain ⟨rfl, rfl⟩ := hx
          refine fin _ _ hops ?_
          first
           | exact hap
           | exact List.all_eq_true.2 (fun p hp => by rw [Bool.or_eq_true]; exact .inl (List.all_eq_true.1 hap p hp))
         ·cases hx
        ·cases hx
      ·cases hcc
   ·cases hcc
 | seq c1 c2 =>
   simp only [compC] at hcc
   split at hcc
   ·rename_i x y h1 h2
    simp only [Option.some.injEq] at hcc
    cases c <;> (first | exact absurd ⟨_, _, rfl⟩ hz | exact absurd ⟨_, _, _, rfl⟩ hy | skip) <;> simp only [bare, reduceCtorEq] at hcc
    simp only [C.seq.injEq] at hcc
    obtain ⟨rfl, rfl⟩ := hcc
    simp only [evC] at hx
    split at hx
    ·rename_i σ1 hev
     obtain ⟨a1, w1, m1, s1, e1, l1, go1⟩ := hC _ b σ .nrm σ1 hev sm c1 h1 w0 fz0 B m las a w hs fr hfr
     obtain ⟨a2, w2, m2, s2, e2, l2, go2⟩ := hC _ b σ1 e σ' hx sm c2 h2 w0 fz0 B m1 las a1 w1 s1 fr hfr
     refine ⟨a2, w2, m2, s2, e1.trans e2, l2.trans l1, fun k cs => ?_⟩
     exact Goes.step (.head stepR_seq (go1 (.code c2 :: k) cs)) (go2 k cs)
    ·rename_i hne
     obtain ⟨a1, w1, m1, s1, e1, l1, go1⟩ := hC _ b σ e σ' hx sm c1 h1 w0 fz0 B m las a w hs fr hfr
     have hen : e ≠ .nrm := fun he => by subst he; exact hne _ hx
     refine ⟨a1, w1, m1, s1, e1, l1, fun k cs => ?_⟩
     exact Goes.pass hen (fun id _ => ⟨rfl, fun _ => rfl⟩) (Goes.step (.one stepR_seq) (go1 (.code c2 :: k) cs))
   ·cases hcc
 | cond x c1 c2 =>
   simp only [compC] at hcc
   split at hcc
   ·rename_i x' y1 y2 h0 h1 h2
    simp only [Option.some.injEq] at hcc
    cases c <;> (first | exact absurd ⟨_, _, rfl⟩ hz | exact absurd ⟨_, _, _, rfl⟩ hy | skip) <;> simp only [bare, reduceCtorEq] at hcc
    simp only [C.cond.injEq] at hcc
    obtain ⟨rfl, rfl, rfl⟩ := hcc
    have hv := hs.tr.get (a := a) h0
    simp only [evC] at hx
    split at hx
    ·rename_i hg
     rw [hg] at hv
     obtain ⟨a1, w1, m1, s1, e1, l1, go1⟩ := hC _ b σ e σ' hx sm c1 h1 w0 fz0 B m las a w hs fr hfr
     exact ⟨a1, w1, m1, s1, e1, l1, fun k cs => Goes.step (.one (stepR_cond (t := true) hv.inv_bool)) (go1 k cs)⟩
    ·rename_i hg
     rw [hg] at hv
     obtain ⟨a1, w1, m1, s1, e1, l1, go1⟩ := hC _ b σ e σ' hx sm c2 h2 w0 fz0 B m las a w hs fr hfr
     exact ⟨a1, w1, m1, s1, e1, l1, fun k cs => Goes.step (.one (stepR_cond (t := false) hv.inv_bool)) (go1 k cs)⟩
    ·cases hx
   ·cases hcc
 | block id c1 =>
   simp only [compC] at hcc
   cases h1 : compC P sm c1 with
   | none => simp [h1] at hcc
   | some y =>
     simp only [h1, Option.map_some, Option.some.injEq] at hcc
     cases c <;> (first | exact absurd ⟨_, _, rfl⟩ hz | exact absurd ⟨_, _, _, rfl⟩ hy | skip) <;> simp only [bare, reduceCtorEq] at hcc
     simp only [C.blk.injEq] at hcc
     obtain ⟨rfl, rfl⟩ := hcc
     simp only [evC] at hx
     split at hx
     ·rename_i i σ1 hev
      obtain ⟨a1, w1, m1, s1, e1, l1, go1⟩ := hC _ b σ _ σ1 hev sm c1 h1 w0 fz0 B m las a w hs fr hfr
      split at hx
      ·rename_i hid
       subst hid
       simp only [Option.some.injEq, Prod.mk.injEq] at hx
       obtain ⟨rfl, rfl⟩ := hx
       refine ⟨a1, w1, m1, s1, e1, l1, fun k cs => ?_⟩
       obtain ⟨k0, g1, g2⟩ := go1 (.inBlock i :: k) cs
       exact .head stepR_block (g2.trans (.one (stepR_exit (by rw [g1]; simp [exitTo]))))
      ·rename_i hid
       simp only [Option.some.injEq, Prod.mk.injEq] at hx
       obtain ⟨rfl, rfl⟩ := hx
       refine ⟨a1, w1, m1, s1, e1, l1, fun k cs => ?_⟩
       have hne : (id == i) = false := by simpa using fun h => hid h.symm
       exact Goes.pass (x := .inBlock id) (by simp) (fun id' he => by cases he; exact ⟨by simp [exitTo, hne], fun k' => by simp [exitTo, hne]⟩) (Goes.step (.one stepR_block) (go1 (.inBlock id :: k) cs))
     ·rename_i hne
      obtain ⟨a1, w1, m1, s1, e1, l1, go1⟩ := hC _ b σ e σ' hx sm c1 h1 w0 fz0 B m las a w hs fr hfr
      refine ⟨a1, w1, m1, s1, e1, l1, fun k cs => ?_⟩
      cases e with
      | nrm => exact .head stepR_block (Steps.trans (go1 (.inBlock id :: k) cs) (.one stepR_inBlock))
      | ret => exact Goes.pass (x := .inBlock id) (by simp) (fun id' he => by cases he) (Goes.step (.one stepR_block) (go1 (.inBlock id :: k) cs))
      | ext i => exact absurd hx (hne i _)
 | loop c1 =>
   obtain ⟨a1, w1, m1, s1, e1, l1, go1⟩ := loop_sound hC hL c b σ e σ' hx sm c1 hcc w0 fz0 B m las a w hs fr hfr
   exact ⟨a1, w1, m1, s1, e1, l1, fun k cs => Goes.step (.one stepR_loop) (go1 k cs)⟩
 | exit id =>
   simp only [compC, Option.some.injEq] at hcc
   cases c <;> (first | exact absurd ⟨_, _, rfl⟩ hz | exact absurd ⟨_, _, _, rfl⟩ hy | skip) <;> simp only [bare, reduceCtorEq] at hcc
   simp only [C.exit.injEq] at hcc
   subst hcc
   simp only [evC, Option.some.injEq, Prod.mk.injEq] at hx
   obtain ⟨rfl, rfl⟩ := hx
   exact ⟨a, w, m, hs, Ev.refl _ _ _, rfl, fun k cs => ⟨[], fun _ => rfl, .refl _ _⟩⟩
 | ret =>
   simp only [compC, Option.some.injEq] at hcc
   cases c <;> (first | exact absurd ⟨_, _, rfl⟩ hz | exact absurd ⟨_, _, _, rfl⟩ hy | skip) <;> simp only [bare, reduceCtorEq] at hcc
   simp only [evC, Option.some.injEq, Prod.mk.injEq] at hx
   obtain ⟨rfl, rfl⟩ := hx
   exact ⟨a, w, m, hs, Ev.refl _ _ _, rfl, fun k cs => ⟨k, .refl _ _⟩⟩
 | rangeFunc f ps asg body =>
   cases f with
   | tmp t =>
     simp only [compC] at hcc
     split at hcc
     ·rename_i t' y1 y2 e0 h1 h2
      cases e0
      simp only [Option.some.injEq] at hcc
      cases c <;> (first | exact absurd ⟨_, _, rfl⟩ hz | exact absurd ⟨_, _, _, rfl⟩ hy | skip) <;> simp only [bare, reduceCtorEq] at hcc
      rename_i f' ps' kt ks ca cb
      simp only [C.rngf.injEq, true_and] at hcc
      obtain ⟨rfl, rfl, rfl, rfl⟩ := hcc
      have hv := hs.tr.get (a := a) (x := .tmp t) (y := .t t) rfl
      simp only [evC] at hx
      split at hx
      ·rename_i g cps hg
       rw [hg] at hv
       obtain ⟨vs, ef, hcps⟩ := inv_fn hv
       split at hx
       ·rename_i v0 σ1 hcall
        obtain ⟨F, hF⟩ := callF_some hcall
        obtain ⟨sm', hcF⟩ := hG g F hF
        obtain ⟨fn, code, hfn, hbd, hnm, _⟩ := compF_some hcF
        split at hx
        ·rename_i lp1 hlp1
         split at hx
         ·cases hx
         ·rename_i hbusy
          simp only [Option.some.injEq, Prod.mk.injEq] at hx
          obtain ⟨rfl, rfl⟩ := hx
          -- the record is laid
          let x : Lp := { base := b, t := σ.t, ps := ps.toList, kt, ks, asg := ca, body := cb, pend := none, busy := false }
          have enter : ∃ (la : Nat) (mk : List Deferred) (w1 : World) (r : Loop), (Instr.enterLoop fr.fn a.tmps ps asg body fr.roundOf).run P w = .ok (la, mk) w1 ∧ w.heap.size ≤ la ∧ w1.heap[la]? = some (.loop r) ∧ r.state = .ready ∧ r.pending = none ∧ r.tmps = a.tmps ∧ r.params = ps ∧ r.assign = asg ∧ r.body = body ∧
           Below w.heap.size w w1 ∧ Rel w0 fz0 m σ.h w1 ∧ Dfs B w1 (mk ++ a.defers) := by
           cases hro : fr.roundOf with
           | none =>
             refine ⟨_, _, _, _, run_enterLoop_outer fr.fn a.tmps ps asg body, Nat.le_succ _, by have := World.alloc_heap_new (w.alloc (.deferred (some []))) (.loop { state := .ready, pending := none, fn := fr.fn, tmps := a.tmps, params := ps, assign := asg, body := body, defers := w.heap.size }); rwa [World.size_alloc] at this, rfl, rfl, rfl, rfl, rfl, rfl, ?_, (hs.rel.alloc _).alloc _, ?_⟩
             ·exact ((Below.refl _ w).alloc (Nat.le_refl _) _).alloc (by simp) _
             ·obtain ⟨Ds, d1, d2, d3⟩ := hs.dfs
              refine ⟨w.heap.size :: Ds, by rw [d1]; rfl, List.nodup_cons.2 ⟨fun hm => ?_, d2⟩, fun D hD => ?_⟩
              ·have := (Array.getElem?_eq_some_iff.1 (d3 _ hm).2).1; omega
              ·rcases List.mem_cons.1 hD with rfl | hD
               ·exact ⟨hs.bs.2, (Below.heap_alloc _ _ _ (by simp)).trans (World.alloc_heap_new w _)⟩
               ·have hlt := (Array.getElem?_eq_some_iff.1 (d3 D hD).2).1
                exact ⟨(d3 D hD).1, by rw [Below.heap_alloc _ _ _ (by simp; omega), Below.heap_alloc _ _ _ hlt]; exact (d3 D hD).2⟩
           | some l0 =>
             obtain ⟨l', top', hl'⟩ := hfr l0 hro
             have hlt' : l' < σ.lp.length := by rw [← hs.lps.len]; exact List.lt_of_some hl'
             obtain ⟨_, _, r0, hr0, _⟩ := hs.lps.ok l' l0 top' _ hl' (List.getElem?_eq_getElem hlt')
             refine ⟨_, _, _, _, run_enterLoop_inner hr0 fr.fn a.tmps ps asg body, Nat.le_refl _, World.alloc_heap_new w _, rfl, rfl, rfl, rfl, rfl, rfl, (Below.refl _ w).alloc (Nat.le_refl _) _, hs.rel.alloc _, ?_⟩
             exact hs.dfs.keep (fun b ds hb => by rw [Below.heap_alloc _ _ _ (Array.getElem?_eq_some_iff.1 hb).1]; exact hb)
          obtain ⟨la, mk, w1, r, hent, hla, hrec, hst, hpe, htm, hps, has, hbo, hbel, hrel1, hdf1⟩ := enter
          have hk1 := below_keep hbel
          have hev1 : Ev m σ.h w m σ.h w1 := .of_keep (HStep.refl _ _) hk1 (fun b o v hb hc => (World.cell?_of_block (a := ⟨b, o, none⟩) (hbel.block b (hs.rel.fzlt b hb))).trans hc) (fun _ h => h)
          let las1 : Las := las ++ [(la, σ.h.length)]
          have hLof : ∀ l la', Lof las l la' → Lof las1 l la' := by
           rintro l la' ⟨top, h⟩
           exact ⟨top, by rw [List.getElem?_append_left (List.lt_of_some h)]; exact h⟩
          have hnew : Lof las1 σ.lp.length la := ⟨σ.h.length, by rw [← hs.lps.len]; simp [las1]⟩
          have hlps1 : Lps P w0 m las1 σ.h w1 (σ.lp ++ [x]) := by
           refine ⟨by simp [las1, hs.lps.len], ?_, fun l la2 top y e1 e2 => ?_⟩
           ·simp only [las1, List.map_append, List.map_cons, List.map_nil]
            refine List.nodup_append.2 ⟨hs.lps.nd, by simp, fun p hp q hq => ?_⟩
            simp at hq; subst hq
            rintro rfl
            obtain ⟨⟨la3, top3⟩, hm, e3⟩ := List.mem_map.1 hp
            simp only at e3; subst e3
            obtain ⟨l3, hl3, e4⟩ := List.mem_iff_getElem.1 hm
            have e5 : las[l3]? = some (la3, top3) := by rw [List.getElem?_eq_getElem hl3, e4]
            have hlt3 : l3 < σ.lp.length := by rw [← hs.lps.len]; exact hl3
            obtain ⟨_, _, r3, hr3, _⟩ := hs.lps.ok l3 la3 top3 _ e5 (List.getElem?_eq_getElem hlt3)
            have := (Array.getElem?_eq_some_iff.1 hr3).1
            omega
           ·rcases Nat.lt_or_ge l las.length with hlt | hge
            ·simp only [las1] at e1
             rw [List.getElem?_append_left hlt] at e1
             rw [List.getElem?_append_left (by rw [← hs.lps.len]; exact hlt)] at e2
             obtain ⟨g1, g0, r3, g2, g3⟩ := hs.lps.ok l la2 top y e1 e2
             have e3 : las1.take l = las.take l := by simp only [las1]; rw [List.take_append_of_le_length (by omega)]
             exact ⟨g1, g0, r3, hk1.2.2.1 _ _ g2 rfl, by rw [e3]; exact g3.ev (hev1.cut top)⟩
            ·simp only [las1] at e1
             rw [List.getElem?_append_right hge] at e1
             rw [List.getElem?_append_right (by rw [← hs.lps.len]; exact hge)] at e2
             have hl0 : l - las.length = 0 := by have := List.lt_of_some e1; simp at this; omega
             have hl1 : l - σ.lp.length = 0 := by rw [← hs.lps.len]; exact hl0
             rw [hl0] at e1; rw [hl1] at e2
             simp at e1 e2
             obtain ⟨rfl, rfl⟩ := e1
             subst e2
             have hll : l = las.length := by omega
             refine ⟨Nat.le_trans hs.rel.below.size hla, Nat.le_refl _, r, hrec, ⟨⟨sm, by rw [has]; exact h1, by rw [hbo]; exact h2⟩, by rw [hps], ?_, by rw [hst]; rfl, fun _ => by rw [hpe]; rfl, by simp [x]⟩⟩
             have e3 : las1.take l = las := by rw [hll]; simp [las1]
             rw [e3, List.take_length, htm]
             exact hs.tr.ev hev1 (fun _ _ h => h)
          have hs1 : Sim P w0 fz0 B m las1 { σ with lp := σ.lp ++ [x] } { a with defers := mk ++ a.defers } w1 :=
           ⟨hs.tr.ev hev1 hLof, hrel1, hlps1, hdf1, hs.bs.1, Nat.le_trans hs.bs.2 hbel.size⟩
          have hargs : VRels w1 m.fz (RefR w1 m σ.h (Lof las1)) (.yld σ.lp.length :: cps) (#[Value.func (.yield la) #[] #[]] ++ vs).toList := by
           refine ⟨by simp [hcps.1], fun j d c h1 h2 => ?_⟩
           cases j with
           | zero =>
             simp at h1 h2; subst h1; subst h2
             exact .ref _ _ rfl ⟨la, rfl, hnew⟩
           | succ j =>
             simp at h1 h2
             exact (hcps.2 j d c h1 (by rw [Array.getElem?_toList]; exact h2)).ev hev1 hLof
          obtain ⟨c, w2, m2, s2, et, e2, l2, vr, hland⟩ := hK g _ b _ _ v0 σ1 hcall w0 fz0 B m las1 _ w1 (#[Value.func (.yield la) #[] #[]] ++ vs) hs1 hargs
          -- the loop ends
          obtain ⟨top2, hla2⟩ := hnew
          obtain ⟨k1, k0, r2, k2, k3⟩ := s2.lps.ok σ.lp.length la top2 lp1 hla2 hlp1
          have hb0 : lp1.busy = false := by simpa using hbusy
          have hnb : r2.state ≠ .busy := by
           rw [k3.st, hb0]
           cases lp1.pend.isNone <;> simp
          have hend := run_endLoop (P := P) k2 hnb
          have hev3 := putRec_ev (m := m2) (h := σ1.h) (r' := { r2 with state := .exhausted }) k2
          have hev : Ev m σ.h w m2 σ1.h (w2.putObj la (.loop { r2 with state := .exhausted })) := hev1.trans (e2.trans hev3)
          refine ⟨{ a with defers := mk ++ a.defers }, _, m2, ⟨hs.tr.ev hev (fun _ _ h => h), s2.rel.putRec k2 rfl k1, ?_, s2.dfs.keep hev3.dfr, hs.bs.1, Nat.le_trans hs.bs.2 hev.sz⟩, hev, l2, fun k cs => ?_⟩
          ·refine ⟨?_, hs.lps.nd, fun l la3 top3 y e3 e4 => ?_⟩
           ·have := s2.lps.len
            simp only [las1, List.length_append, List.length_cons, List.length_nil] at this
            rw [List.length_take]
            have := hs.lps.len
            omega
           ·have hll : l < las.length := List.lt_of_some e3
            have hll2 : l < σ.lp.length := by rw [← hs.lps.len]; exact hll
            rw [List.getElem?_take_of_lt hll2] at e4
            have e5 : las1[l]? = some (la3, top3) := by simp only [las1]; rw [List.getElem?_append_left hll]; exact e3
            obtain ⟨g1, g0, r3, g2, g3⟩ := s2.lps.ok l la3 top3 y e5 e4
            have e6 : las1.take l = las.take l := by simp only [las1]; rw [List.take_append_of_le_length (by omega)]
            have hne : la3 ≠ la := by
             intro e7
             have e8 : (las1.map (·.1))[l]? = some la := by rw [List.getElem?_map, e5, ← e7]; rfl
             have e9 : (las1.map (·.1))[σ.lp.length]? = some la := by rw [List.getElem?_map, hla2]; rfl
             have := (List.getElem?_inj (List.lt_of_some e8) s2.lps.nd).1 (e8.trans e9.symm)
             omega
            exact ⟨g1, g0, r3, by rw [World.putObj_heap_other hne]; exact g2, by rw [e6] at g3; exact g3.ev (hev3.cut top3)⟩
          ·obtain ⟨frm, q1, q2, q3⟩ := hland (fr.atR { a with defers := mk ++ a.defers } (.inRangeFunc la :: k) :: cs)
           have hres : (resolve a.eval (rangeCall (.tmp t) la) 0).run P w1 = .ok { target := .fn (.func g) vs, args := #[Value.func (.yield la) #[] #[]] } w1 := by
            simp only [resolve, ef]
            simp [Deferred.ofValue, Act.eval]
           have hinv : (invoke (.fn (.func g) vs) #[Value.func (.yield la) #[] #[]]).run P w1 = .ok (.enter g (#[Value.func (.yield la) #[] #[]] ++ vs)) w1 := by
            simp only [invoke]
            exact run_callFunc hfn hnm (by rw [hbd]; rfl) _
           have hstep := stepR_rangeFunc (P := P) (b := fr) (a := a) (k := k) (cs := cs) hent hres hinv
           have hback := step_leave_returned (P := P) (c := fr.atR { a with defers := mk ++ a.defers } (.inRangeFunc la :: k)) (cs := cs) q3
           rw [finish_atR_inRangeFunc] at hback
           have hfin := stepR_endRangeFunc (P := P) (b := fr) (a := { a with defers := mk ++ a.defers }) (k := k) (cs := cs) hend
           have hall := (Steps.head hstep (q1.trans (.head hback (.one hfin))))
           generalize hz : (Option.map Item.code r2.pending).toList ++ k = z at hall
           rw [k3.pe hb0] at hz
           have hpn := k3.pn
           cases hpd : lp1.pend with
           | none => rw [hpd] at hz; subst hz; exact hall
           | some e =>
             rw [hpd] at hz hpn
             subst hz
             cases e with
             | nrm => exact absurd rfl hpn
             | ret => exact ⟨k, hall⟩
             | ext id => exact ⟨[], fun _ => rfl, hall⟩
        ·cases hx
       ·cases hx
      ·cases hx
     ·cases hcc
   | _ => simp [compC] at hcc
 | _ => simp [compC] at hcc
end
end Go.Mw
/- Soundness: all together. -/
namespace Go.Mw
open Go.RowKit
structure AllS (P : Program) (G : Prg) (n : Nat) : Prop where
 code : CodeS P (evC G n)
 loop : LoopS P (evC G n)
 op : OpS P (evO G n)
 call : CallS P (callF G n)
 fn : FunS P G (runF G n)
 yld : YieldS P (yieldF G n)
theorem all_sound {P : Program} {G : Prg} (hG : Good P G) (hD : ∀ n, DrawS P G (evO G n)) : ∀ n, AllS P G n := by
 intro n
 induction n with
 | zero =>
   refine ⟨?_, ?_, ?_, ?_, ?_, ?_⟩
   ·intro c b σ e σ' h; simp [evC] at h
   ·intro c b σ e σ' h; simp [evC] at h
   ·intro o sm i b σ v σ' _ h; simp [evO] at h
   ·intro f xs b ss σ v σ' h; simp [callF] at h
   ·intro f F xs h lp rs σ1 _ h; simp [runF] at h
   ·intro l xs σ v σ' h; simp [yieldF] at h
 | succ n ih => exact ⟨evC_sound hG ih.op (hD n) ih.code ih.loop ih.call, loop_sound ih.code ih.loop, evO_sound hG ih.call ih.yld, callF_sound ih.fn, runF_sound hG ih.code, yieldF_sound ih.code⟩
theorem calls_sound {P : Program} {G : Prg} (hG : Good P G) (hD : ∀ n, DrawS P G (evO G n)) {n : Nat} {f : FuncId} {F : IF} {xs : List AV} {rs : List AV} {σ1 : St} (hf : G f = some F) (hn : xs.length = F.np) (hrun : runF G n F xs [] [] = some (rs, σ1))
 {w : World} {fz : Nat → Prop} (hfz : ∀ b, fz b → b < w.heap.size) {args : Array Value} (hargs : VRels w fz (fun _ _ => False) xs args.toList) :
 Calls P f args w fun e w' => ∃ cs : List Value, e = .returned (packC cs) ∧ Below w.heap.size w w' ∧ ∃ fz', VRels w' fz' (fun _ _ => False) (treeBL 0 σ1.h rs) cs := by
 have R : Rel w fz { blk := fun _ _ => (0, 0), fz := fz } [] w := by
  refine ⟨Below.refl _ _, hfz, fun _ h => h, fun _ h => .inl h, fun r p nd hn => by simp [nodeAt] at hn, fun r p nd hn => by simp [nodeAt] at hn, fun r p nd r2 p2 nd2 hn => by simp [nodeAt] at hn⟩
 obtain ⟨m', w', cs, h1, h2, h3, h4, h5, h6⟩ := (all_sound hG hD n).fn f F xs [] [] rs σ1 hf hrun hn w fz { blk := fun _ _ => (0, 0), fz := fz } [] w args
  ⟨hargs.1, fun j v c hv hc => (hargs.2 j v c hv hc).mono (fun _ _ _ _ h => h) (fun _ h => h) (fun _ _ h => h.elim)⟩ R ⟨rfl, by simp, fun l la top x h => by simp at h⟩
 intro stk
 obtain ⟨frm, s1, s2, s3⟩ := h6 stk
 refine ⟨.returned (packC cs), w', frm, ⟨cs, rfl, h2.below, _, tree_rels h2 (X := fun _ => True) (B := 0) (fun v c hi hlt hex _ => by obtain ⟨r, hr⟩ := hex; exact absurd (hlt r hr) (Nat.not_lt_zero _)) h1 (fun r _ => .inr trivial)⟩, s1, s2, s3⟩
end Go.Mw
/- Drawn orders: whatever the order, the end is the same. -/
namespace Go.Mw
section trace
variable {S Loc V : Type}
structure Trace (val : S → Loc → V) (N : Nat) (step : Nat → S → Option S) (st : Nat → S) (D W : Nat → Loc → Prop) : Prop where
 loc : ∀ k, k < N → ∀ τ, (∀ x, D k x → val τ x = val (st k) x) → ∃ τ', step k τ = some τ' ∧ (∀ x, D k x → val τ' x = val (st (k + 1)) x) ∧ (∀ x, ¬ W k x → val τ' x = val τ x)
 out : ∀ k, k < N → ∀ x, ¬ W k x → val (st (k + 1)) x = val (st k) x
 sub : ∀ k x, W k x → D k x
variable {val : S → Loc → V} {N : Nat} {step : Nat → S → Option S} {st : Nat → S} {D W : Nat → Loc → Prop}
theorem Trace.const (ht : Trace val N step st D W) {x : Loc} {a : Nat} : ∀ {b : Nat}, a ≤ b → b ≤ N → (∀ k, a ≤ k → k < b → ¬ W k x) → val (st b) x = val (st a) x := by
 intro b
 induction b with
 | zero => intro h _ _; have : a = 0 := by omega
           subst this; rfl
 | succ b ih =>
   intro h1 h2 h3
   rcases Nat.lt_or_ge a (b + 1) with hlt | hge
   ·rw [ht.out b (by omega) x (h3 b (by omega) (by omega))]
    exact ih (by omega) (by omega) (fun k h4 h5 => h3 k h4 (by omega))
   ·have : a = b + 1 := by omega
    subst this; rfl
def Inv (val : S → Loc → V) (N : Nat) (st : Nat → S) (W : Nat → Loc → Prop) (E : Nat → Prop) (τ : S) : Prop :=
 ∀ x, ∃ q, q ≤ N ∧ val τ x = val (st q) x ∧ ∀ k, k < N → W k x → (E k ↔ k < q)
theorem Trace.one (ht : Trace val N step st D W) {E : Nat → Prop} {τ : S} (hi : Inv val N st W E τ) {k : Nat} (hk : k < N) (hnk : ¬ E k) (hE : ∀ i, i < N → i ≠ k → (∃ x, W i x ∧ D k x) → (E i ↔ i < k)) :
 ∃ τ', step k τ = some τ' ∧ Inv val N st W (fun i => E i ∨ i = k) τ' := by
 have hag : ∀ x, D k x → val τ x = val (st k) x := by
  intro x hx
  obtain ⟨q, hq, hv, hw⟩ := hi x
  rw [hv]
  have hnw : ∀ i, i < N → W i x → (i < q ↔ i < k) := by
   intro i hiN hwi
   by_cases e : i = k
   ·subst e
    have := hw i hiN hwi
    constructor
    ·intro h; exact absurd (this.2 h) hnk
    ·intro h; omega
   ·rw [← hw i hiN hwi, hE i hiN e ⟨x, hwi, hx⟩]
  rcases Nat.le_total q k with hle | hle
  ·exact (ht.const hle (by omega) (fun i h1 h2 hwi => by have := (hnw i (by omega) hwi).2 h2; omega)).symm
  ·exact ht.const hle hq (fun i h1 h2 hwi => by have := (hnw i (by omega) hwi).1 h2; omega)
 obtain ⟨τ', h1, h2, h3⟩ := ht.loc k hk τ hag
 refine ⟨τ', h1, fun x => ?_⟩
 by_cases hwx : W k x
 ·have hdx := ht.sub k x hwx
  refine ⟨k + 1, by omega, h2 x hdx, fun i hiN hwi => ?_⟩
  by_cases e : i = k
  ·subst e; simp
  ·have := hE i hiN e ⟨x, hwi, hdx⟩
   constructor
   ·rintro (h | h)
    ·have := this.1 h; omega
    ·exact absurd h e
   ·intro h; exact .inl (this.2 (by omega))
 ·obtain ⟨q, hq, hv, hw⟩ := hi x
  refine ⟨q, hq, by rw [h3 x hwx]; exact hv, fun i hiN hwi => ?_⟩
  have hne : i ≠ k := fun e => by subst e; exact hwx hwi
  rw [← hw i hiN hwi]
  simp [hne]
inductive Ord (N : Nat) (pre : Nat → Nat → Prop) : (Nat → Prop) → List Nat → Prop
 | nil {E : Nat → Prop} (h : ∀ k, k < N → E k) : Ord N pre E []
 | cons {E : Nat → Prop} {k : Nat} {l : List Nat} (hk : k < N) (hn : ¬ E k) (hp : ∀ i, i < N → pre i k → E i) (t : Ord N pre (fun i => E i ∨ i = k) l) : Ord N pre E (k :: l)
def runL (step : Nat → S → Option S) : List Nat → S → Option S
 | [], τ => some τ
 | k :: l, τ => match step k τ with
   | some τ' => runL step l τ'
   | none => none
theorem Trace.all (ht : Trace val N step st D W) {pre : Nat → Nat → Prop} (hpl : ∀ i j, pre i j → i < j) (hdep : ∀ i k, i < k → k < N → ¬ pre i k → ∀ x, ¬ (W i x ∧ D k x) ∧ ¬ (D i x ∧ W k x)) :
 ∀ {E : Nat → Prop} {l : List Nat}, Ord N pre E l → (∀ j i, j < N → E j → pre i j → E i) → ∀ {τ : S}, Inv val N st W E τ → ∃ τ', runL step l τ = some τ' ∧ ∀ x, val τ' x = val (st N) x := by
 intro E l ho
 induction ho with
 | nil h =>
   intro _ τ hi
   refine ⟨τ, rfl, fun x => ?_⟩
   obtain ⟨q, hq, hv, hw⟩ := hi x
   rw [hv]
   exact (ht.const hq (Nat.le_refl _) (fun k h1 h2 hwk => by have := (hw k h2 hwk).1 (h k h2); omega)).symm
 | cons hk hn hp _ ih =>
   intro hcl τ hi
   rename_i E k l t
   obtain ⟨τ', h1, h2⟩ := ht.one hi hk hn (fun i hiN hne ⟨x, hw, hd⟩ => by
    rcases Nat.lt_or_ge i k with hlt | hge
    ·have hpre : pre i k := by
      refine Classical.byContradiction fun hnp => ?_
      exact (hdep i k hlt hk hnp x).1 ⟨hw, hd⟩
     exact ⟨fun _ => hlt, fun _ => hp i hiN hpre⟩
    ·have hgt : k < i := by omega
     have hpre : pre k i := by
      refine Classical.byContradiction fun hnp => ?_
      exact (hdep k i hgt hiN hnp x).2 ⟨hd, hw⟩
     exact ⟨fun hEi => absurd (hcl i k hiN hEi hpre) hn, fun h => by omega⟩)
   obtain ⟨τ'', h3, h4⟩ := ih (fun j i hj hE hpre => by
    rcases hE with hE | rfl
    ·exact .inl (hcl j i hj hE hpre)
    ·exact .inl (hp i (Nat.lt_trans (hpl _ _ hpre) hj) hpre)) h2
   exact ⟨τ'', by simp only [runL, h1]; exact h3, h4⟩
end trace
/-! ### What the model draws -/
section draw
variable {ops : Array Oper} {md : Region.Mode}
inductive Run (md : Region.Mode) (ops : Array Oper) : Array Bool → List Nat → Prop
 | nil {ls : Array Bool} (h : Region.ready md ops ls = []) : Run md ops ls []
 | cons {ls : Array Bool} {i : Nat} {l : List Nat} (h : i ∈ Region.ready md ops ls) (t : Run md ops (ls.setIfInBounds i true) l) : Run md ops ls (i :: l)
def unlisted (n : Nat) (ls : Array Bool) : Nat := ((List.range n).filter fun i => !ls.getD i true).length
theorem unlisted_set {n : Nat} {ls : Array Bool} {i : Nat} (hi : i < n) (hu : ls.getD i true = false) : unlisted n (ls.setIfInBounds i true) < unlisted n ls := by
 unfold unlisted
 have hlt : i < ls.size := by
  rcases Nat.lt_or_ge i ls.size with h | h
  ·exact h
  ·simp [Array.getD, Nat.not_lt.2 h] at hu
 have hsub : ∀ j, (!(ls.setIfInBounds i true).getD j true) = true → (!ls.getD j true) = true := by
  intro j hj
  by_cases e : i = j
  ·subst e; simp [hlt] at hj
  ·rw [getD_set_ne true e] at hj; exact hj
 have key : ∀ (l : List Nat), i ∈ l → (l.filter fun j => !(ls.setIfInBounds i true).getD j true).length < (l.filter fun j => !ls.getD j true).length := by
  have le : ∀ (l : List Nat), (l.filter fun j => !(ls.setIfInBounds i true).getD j true).length ≤ (l.filter fun j => !ls.getD j true).length := by
   intro l
   induction l with
   | nil => simp
   | cons j l ih =>
     simp only [List.filter_cons]
     split
     ·rename_i h; rw [if_pos (hsub j h)]; simp only [List.length_cons]; omega
     ·split
      ·simp only [List.length_cons]; omega
      ·exact ih
  intro l
  induction l with
  | nil => intro h; cases h
  | cons j l ih =>
    intro h
    simp only [List.filter_cons]
    rcases List.mem_cons.1 h with rfl | h
    ·have h1 : (!(ls.setIfInBounds i true).getD i true) = false := by simp [hlt]
     rw [h1]
     simp only [Bool.false_eq_true, if_false, hu, Bool.not_false, if_true, List.length_cons]
     have := le l; omega
    ·split
     ·rename_i h2; rw [if_pos (hsub j h2)]; simp only [List.length_cons]; have := ih h; omega
     ·split
      ·simp only [List.length_cons]; have := ih h; omega
      ·exact ih h
 exact key _ (List.mem_range.2 hi)
theorem linearise_run : ∀ (fuel t : Nat) (ls : Array Bool), unlisted ops.size ls ≤ fuel → Run md ops ls (Region.linearise.go md ops fuel t ls []) := by
 intro fuel
 induction fuel with
 | zero =>
   intro t ls h
   simp only [Region.linearise.go, List.reverse_nil]
   refine .nil ?_
   cases hr : Region.ready md ops ls with
   | nil => rfl
   | cons i l =>
     exfalso
     have hi : i ∈ Region.ready md ops ls := by rw [hr]; exact List.mem_cons_self ..
     obtain ⟨hu, o, ho, _⟩ := mem_ready.1 hi
     have := unlisted_set (Array.getElem?_eq_some_iff.1 ho).1 hu
     omega
 | succ fuel ih =>
   intro t ls h
   simp only [Region.linearise.go]
   change Run md ops ls (match (Region.ready md ops ls)[t % (Region.ready md ops ls).length]? with
    | some i => Region.linearise.go md ops fuel (t / (Region.ready md ops ls).length) (ls.setIfInBounds i true) [i]
    | none => [].reverse)
   cases hi : (Region.ready md ops ls)[t % (Region.ready md ops ls).length]? with
   | none =>
     have hnil : Region.ready md ops ls = [] := by
      cases hr : Region.ready md ops ls with
      | nil => rfl
      | cons x xs =>
        rw [hr] at hi
        have hlt : t % (x :: xs).length < (x :: xs).length := Nat.mod_lt _ (by simp)
        simp at hi
        simp at hlt
        omega
     simpa using Run.nil hnil
   | some i =>
     have hm := List.mem_of_getElem? hi
     simp only []
     rw [linearise_go_acc, List.reverse_singleton, List.singleton_append]
     obtain ⟨hu, o, ho, _⟩ := mem_ready.1 hm
     exact .cons hm (ih _ _ (by have := unlisted_set (Array.getElem?_eq_some_iff.1 ho).1 hu; omega))
theorem linearise_all (t : Nat) : Run md ops (Array.replicate ops.size false) (Region.linearise md ops t) := by
 refine linearise_run _ _ _ ?_
 unfold unlisted
 exact Nat.le_trans (List.length_filter_le ..) (by simp)
end draw
end Go.Mw
/- Drawn orders: the model's orders keep what is ahead ahead. -/
namespace Go.Mw
section
variable {ops : Array Oper} {md : Region.Mode}
def Edge1 (ops : Array Oper) (i j : Nat) : Prop := ∃ o, ops[j]? = some o ∧ ∃ e ∈ o.after, Region.binds .any e = true ∧ e.on = i
inductive Pre (ops : Array Oper) : Nat → Nat → Prop
 | one {i j : Nat} (h : Edge1 ops i j) : Pre ops i j
 | more {i j k : Nat} (h : Pre ops i j) (t : Edge1 ops j k) : Pre ops i k
theorem binds_any {e : Edge} (h : Region.binds .any e = true) : Region.binds md e = true := by
 unfold Region.binds at h ⊢
 split at h <;> first | rfl | (cases h)
theorem run_ord {ord : List Nat} (hg : goodOrder md ops ord = true) {ls : Array Bool} {l : List Nat} (hr : Run md ops ls l) : ls.size = ops.size → (∀ i j, ls.getD j false = true → Edge1 ops i j → ls.getD i false = true) →
 Ord ops.size (Pre ops) (fun i => ls.getD i false = true) l := by
 induction hr with
 | nil h =>
   rename_i ls
   intro hs hc
   refine .nil ?_
   have key : ∀ n k, k < ops.size → ord.idxOf k ≤ n → ls.getD k false = true := by
    intro n
    induction n using Nat.strongRecOn with
    | _ n ih =>
      intro k hk hn
      refine Classical.byContradiction fun hnl => ?_
      simp only [goodOrder, List.all_eq_true, List.mem_range] at hg
      have h1 := hg k hk
      rw [Array.getElem?_eq_getElem hk] at h1
      simp only [Bool.and_eq_true, Array.all_eq_true_iff_forall_mem, Bool.or_eq_true, Bool.not_eq_true', decide_eq_true_eq] at h1
      have hready : k ∈ Region.ready md ops ls := by
       rw [mem_ready]
       refine ⟨?_, ops[k], Array.getElem?_eq_getElem hk, fun e he hb => ?_⟩
       ·have : k < ls.size := by omega
        simp [Array.getD, this] at hnl ⊢
        exact hnl
       ·rcases h1.2 e he with h2 | ⟨h2, h3⟩
        ·rw [hb] at h2; cases h2
        ·exact ih (ord.idxOf e.on) (by omega) e.on h2 (Nat.le_refl _)
      rw [h] at hready
      cases hready
   exact fun k hk => key _ k hk (Nat.le_refl _)
 | cons h t ih =>
   rename_i ls i l
   intro hs hc
   obtain ⟨hu, o, ho, he⟩ := mem_ready.1 h
   have hi : i < ops.size := (Array.getElem?_eq_some_iff.1 ho).1
   have hil : i < ls.size := by omega
   have hset : ∀ j, (ls.setIfInBounds i true).getD j false = true ↔ (ls.getD j false = true ∨ j = i) := by
    intro j
    by_cases e : i = j
    ·subst e; simp [hil]
    ·rw [getD_set_ne false e]; exact ⟨.inl, fun h => h.resolve_right (fun h => e h.symm)⟩
   have hedge : ∀ j, Edge1 ops j i → ls.getD j false = true := by
    rintro j ⟨o', ho', e, hem, hb, rfl⟩
    rw [ho] at ho'; cases ho'
    exact he e hem (binds_any hb)
   have hpre : ∀ j k, Pre ops j k → (ls.getD k false = true ∨ k = i) → ls.getD j false = true := by
    intro j k hp
    induction hp with
    | one h1 => rintro (h2 | rfl); exact hc _ _ h2 h1; exact hedge _ h1
    | more _ h1 ih2 => rintro (h2 | rfl); exact ih2 (.inl (hc _ _ h2 h1)); exact ih2 (.inl (hedge _ h1))
   refine .cons hi (fun h => ?_) (fun j _ hp => hpre j i hp (.inr rfl)) ?_
   ·simp [Array.getD, hil] at hu h
    rw [hu] at h; cases h
   ·have e1 : (fun j => ls.getD j false = true ∨ j = i) = (fun j => (ls.setIfInBounds i true).getD j false = true) := by
     funext j; exact propext (hset j).symm
    rw [e1]
    refine ih (by simpa using hs) (fun j k hk hjk => ?_)
    rw [hset] at hk ⊢
    rcases hk with hk | rfl
    ·exact .inl (hc _ _ hk hjk)
    ·exact .inl (hedge _ hjk)
theorem draw_ord {rs : List Rop} (hok : drawOk ops rs = true) (mixed : Bool) (t : Nat) : Ord ops.size (Pre ops) (fun _ => False) (Region.schedule mixed ops t) := by
 simp only [drawOk, Bool.and_eq_true] at hok
 obtain ⟨⟨_, hord⟩, _⟩ := hok
 simp only [orderOk, List.all_cons, List.all_nil, Bool.and_true, Bool.and_eq_true] at hord
 have base : ∀ (md : Region.Mode) (t : Nat), goodOrder md ops (Region.linearise md ops 0) = true → Ord ops.size (Pre ops) (fun _ => False) (Region.linearise md ops t) := by
  intro md t hg
  have h0 : ∀ j, (Array.replicate ops.size false).getD j false = false := by
   intro j
   simp only [Array.getD]
   split <;> simp
  have := run_ord hg (linearise_all (md := md) (ops := ops) t) (by simp) (fun i j h => by rw [h0] at h; cases h)
  have e : (fun i => (Array.replicate ops.size false).getD i false = true) = (fun _ : Nat => False) := by
   funext i; rw [h0]; exact propext ⟨fun h => (by cases h), False.elim⟩
  rwa [e] at this
 unfold Region.schedule
 split
 ·exact base _ _ hord.1
 ·split
  ·exact base _ _ hord.2.1
  ·exact base _ _ hord.2.2
theorem pre_lt {rs : List Rop} (hok : drawOk ops rs = true) : ∀ i j, Pre ops i j → i < j := by
 simp only [drawOk, Bool.and_eq_true] at hok
 obtain ⟨⟨hlt, _⟩, _⟩ := hok
 have one : ∀ i j, Edge1 ops i j → i < j := by
  rintro i j ⟨o, ho, e, he, hb, rfl⟩
  simp only [List.all_eq_true, Array.all_eq_true_iff_forall_mem, Bool.or_eq_true, Bool.not_eq_true', decide_eq_true_eq] at hlt
  have hm : (o, j) ∈ ops.toList.zipIdx := by
   rw [List.mem_zipIdx_iff_getElem?]
   simpa using ho
  rcases hlt (o, j) hm e he with h | h
  ·rw [hb] at h; cases h
  ·exact h
 intro i j h
 induction h with
 | one h => exact one _ _ h
 | more _ h ih => exact Nat.lt_trans ih (one _ _ h)
end
end Go.Mw
/- What the bits of 'before' say. -/
namespace Go.Mw
theorem bits_inner (acc : Array Nat) (i : Nat) : ∀ (l : List Edge) (s : Nat), (l.foldl (fun s e => if Region.binds .any e then s ||| 2 ^ e.on ||| acc.getD e.on 0 else s) s).testBit i = true →
 s.testBit i = true ∨ ∃ e ∈ l, Region.binds .any e = true ∧ (e.on = i ∨ (acc.getD e.on 0).testBit i = true) := by
 intro l
 induction l with
 | nil => intro s h; exact .inl h
 | cons e l ih =>
   intro s h
   rw [List.foldl_cons] at h
   rcases ih _ h with h | ⟨e', he, hb, h⟩
   ·split at h
    ·rename_i hb
     simp only [Nat.testBit_or, Bool.or_eq_true, Nat.testBit_two_pow, decide_eq_true_eq] at h
     rcases h with (h | h) | h
     ·exact .inl h
     ·exact .inr ⟨e, List.mem_cons_self .., hb, .inl h⟩
     ·exact .inr ⟨e, List.mem_cons_self .., hb, .inr h⟩
    ·exact .inl h
   ·exact .inr ⟨e', List.mem_cons_of_mem _ he, hb, h⟩
theorem bits_outer {ops : Array Oper} : ∀ (l : List Oper) (acc : Array Nat), (∀ k o, l[k]? = some o → ops[acc.size + k]? = some o) → (∀ i j, (acc.getD j 0).testBit i = true → Pre ops i j) →
 ∀ i j, ((l.foldl (fun acc o => acc.push (o.after.foldl (fun s e => if Region.binds .any e then s ||| 2 ^ e.on ||| acc.getD e.on 0 else s) 0)) acc).getD j 0).testBit i = true → Pre ops i j := by
 intro l
 induction l with
 | nil => intro acc _ h; exact h
 | cons o l ih =>
   intro acc hk h
   rw [List.foldl_cons]
   refine ih _ (fun k o' hk' => ?_) (fun i j hj => ?_)
   ·have := hk (k + 1) o' (by simpa using hk')
    rw [← this]; congr 1; simp; omega
   ·by_cases e : j < acc.size
    ·refine h i j ?_
     rw [← hj]
     simp [Array.getD, e, Nat.lt_succ_of_lt e, Array.getElem_push_lt]
    ·by_cases e2 : j = acc.size
     ·subst e2
      have h1 : (acc.push (o.after.foldl (fun s e => if Region.binds .any e then s ||| 2 ^ e.on ||| acc.getD e.on 0 else s) 0)).getD acc.size 0 = o.after.foldl (fun s e => if Region.binds .any e then s ||| 2 ^ e.on ||| acc.getD e.on 0 else s) 0 := by
       simp [Array.getD]
      rw [h1, ← Array.foldl_toList] at hj
      have ho := hk 0 o rfl
      rw [Nat.add_zero] at ho
      rcases bits_inner acc i _ _ hj with h2 | ⟨ed, he, hb, h2⟩
      ·simp at h2
      ·have hed : Edge1 ops ed.on acc.size := ⟨o, ho, ed, by simpa using he, hb, rfl⟩
       rcases h2 with rfl | h2
       ·exact .one hed
       ·exact .more (h i _ h2) hed
     ·exfalso
      have : ¬ j < acc.size + 1 := by omega
      simp [Array.getD, this] at hj
theorem behind_pre {ops : Array Oper} {i j : Nat} (h : behind ops i j = true) : Pre ops i j := by
 unfold behind Region.before at h
 rw [← Array.foldl_toList] at h
 exact bits_outer ops.toList #[] (fun k o hk => by simpa using hk) (fun i j h => by simp [Array.getD] at h) i j h
end Go.Mw
/- An operation depends on what it names alone. -/
namespace Go.Mw
def Alike (rs : List Nat) (h k : List Ob) : Prop := ∀ r ∈ rs, k[r]? = h[r]?
def Same (rs : List Nat) (h' k k' : List Ob) : Prop := (∀ r ∈ rs, k'[r]? = h'[r]?) ∧ ∀ r, r ∉ rs → k'[r]? = k[r]?
theorem Same.refl {rs : List Nat} {h k : List Ob} (ha : Alike rs h k) : Same rs h k k := ⟨ha, fun _ _ => rfl⟩
theorem Same.trans {rs : List Nat} {h1 h2 k k1 k2 : List Ob} (a : Same rs h1 k k1) (b : Same rs h2 k1 k2) : Same rs h2 k k2 :=
 ⟨b.1, fun r hr => (b.2 r hr).trans (a.2 r hr)⟩
theorem Same.alike {rs : List Nat} {h' k k' : List Ob} (a : Same rs h' k k') : Alike rs h' k' := a.1
section
variable {rs : List Nat} {h k : List Ob}
theorem node_loc (ha : Alike rs h k) {r st ss : Nat} {p : Path} (hr : r ∈ rs) : node k r st p ss = node h r st p ss := by
 unfold node; rw [ha r hr]
theorem nodeAt_loc (ha : Alike rs h k) {r : Nat} {p : Path} (hr : r ∈ rs) : nodeAt k r p = nodeAt h r p := by
 unfold nodeAt; rw [ha r hr]
theorem setOb_loc (ha : Alike rs h k) {r : Nat} {p : Path} {v : AV} {bp : Bool} (hr : r ∈ rs) {h' : List Ob} (hs : setOb h r p v bp = some h') : ∃ k', setOb k r p v bp = some k' ∧ Same rs h' k k' := by
 unfold setOb at hs ⊢
 rw [ha r hr]
 cases ho : h[r]? with
 | none => simp [ho] at hs
 | some o =>
   simp only [ho] at hs ⊢
   cases hu : upd o.c p v with
   | none => simp [hu] at hs
   | some c =>
     simp only [hu, Option.some.injEq] at hs ⊢
     refine ⟨_, rfl, fun q hq => ?_, fun q hq => ?_⟩
     ·subst hs
      have hk : k[r]? = some o := (ha r hr).trans ho
      have h1 : r < h.length := by
       rcases Nat.lt_or_ge r h.length with x | x; exact x; rw [List.getElem?_eq_none x] at ho; cases ho
      have h2 : r < k.length := by
       rcases Nat.lt_or_ge r k.length with x | x; exact x; rw [List.getElem?_eq_none x] at hk; cases hk
      by_cases e : r = q
      ·subst e; rw [List.getElem?_set_self h1, List.getElem?_set_self h2]
      ·rw [List.getElem?_set_ne e, List.getElem?_set_ne e]; exact ha q hq
     ·have e : r ≠ q := fun e => hq (e ▸ hr)
      rw [List.getElem?_set_ne e]
theorem newOb_loc (ha : Alike rs h k) {r st : Nat} {c : AV} (hr : r ∈ rs) {h' : List Ob} (hs : newOb h r c = some (h', st)) : ∃ k', newOb k r c = some (k', st) ∧ Same rs h' k k' := by
 unfold newOb at hs ⊢
 rw [ha r hr]
 cases ho : h[r]? with
 | none => simp [ho] at hs
 | some o =>
   simp only [ho] at hs ⊢
   cases hc : o.c <;> simp only [hc, reduceCtorEq] at hs ⊢
   simp only [Option.some.injEq, Prod.mk.injEq] at hs
   obtain ⟨rfl, rfl⟩ := hs
   refine ⟨_, rfl, fun q hq => ?_, fun q hq => ?_⟩
   ·have hk : k[r]? = some o := (ha r hr).trans ho
    have h1 : r < h.length := by
     rcases Nat.lt_or_ge r h.length with x | x; exact x; rw [List.getElem?_eq_none x] at ho; cases ho
    have h2 : r < k.length := by
     rcases Nat.lt_or_ge r k.length with x | x; exact x; rw [List.getElem?_eq_none x] at hk; cases hk
    by_cases e : r = q
    ·subst e; rw [List.getElem?_set_self h1, List.getElem?_set_self h2]
    ·rw [List.getElem?_set_ne e, List.getElem?_set_ne e]; exact ha q hq
   ·have e : r ≠ q := fun e => hq (e ▸ hr)
    rw [List.getElem?_set_ne e]
def Named (rs : List Nat) (v : AV) : Prop := ∀ r ∈ rootsOf v, r ∈ rs
theorem okOne_loc (ha : Alike rs h k) {v : AV} (hv : Named rs v) : okOne k v = okOne h v := by
 cases v <;> simp only [okOne] <;> rw [node_loc ha (hv _ (by simp [rootsOf]))]
theorem vcells_loc (ha : Alike rs h k) {n : Nat} {v : AV} (hv : Named rs v) : vcells k n v = vcells h n v := by
 cases v <;> simp only [vcells] <;> rw [okOne_loc ha hv]
theorem vcells_named {n : Nat} {v : AV} {vs : List AV} (hv : Named rs v) (hc : vcells h n v = some vs) : ∀ x ∈ vs, Named rs x := by
 have one : ∀ v : AV, Named rs v → (if n = 1 ∧ okOne h v = true then some [v] else none) = some vs → ∀ x ∈ vs, Named rs x := by
  intro v hv hc x hx
  split at hc
  ·cases hc; simp at hx; subst hx; exact hv
  ·cases hc
 cases v
 case agg cs =>
  simp only [vcells] at hc
  split at hc
  ·cases hc
   intro x hx r hr
   refine hv r ?_
   simp only [rootsOf]
   exact rootsL_mem hx hr
  ·cases hc
 all_goals exact one _ hv hc
theorem takeCell_loc (ha : Alike rs h k) {v : AV} (hv : Named rs v) {c : AV} {h' : List Ob} (hs : takeCell h v = some (c, h')) : ∃ k', takeCell k v = some (c, k') ∧ Same rs h' k k' := by
 have pl : ∀ v : AV, (if v.plain then some (v, h) else none) = some (c, h') → ∃ k', (if v.plain then some (v, k) else none) = some (c, k') ∧ Same rs h' k k' := by
  intro v hs
  split at hs
  ·rename_i hp
   simp only [Option.some.injEq, Prod.mk.injEq] at hs
   obtain ⟨rfl, rfl⟩ := hs
   exact ⟨k, by rw [if_pos hp], Same.refl ha⟩
  ·cases hs
 cases v
 case sl r st p ss off len =>
  have hr := hv r (by simp [rootsOf])
  simp only [takeCell] at hs ⊢
  rw [node_loc ha hr]
  cases hn : node h r st p ss with
  | none => simp [hn] at hs
  | some nd =>
    simp only [hn] at hs
    cases nd <;> simp only [reduceCtorEq] at hs ⊢
    split at hs
    ·rename_i hc
     rw [if_pos hc]
     cases hso : setOb h r p .gone false with
     | none => simp [hso] at hs
     | some h1 =>
       simp only [hso, Option.some.injEq, Prod.mk.injEq] at hs
       obtain ⟨rfl, rfl⟩ := hs
       obtain ⟨k', e1, e2⟩ := setOb_loc ha hr hso
       exact ⟨k', by rw [e1], e2⟩
    ·cases hs
 case mp r st p ss =>
  have hr := hv r (by simp [rootsOf])
  simp only [takeCell] at hs ⊢
  rw [node_loc ha hr]
  cases hn : node h r st p ss with
  | none => simp [hn] at hs
  | some nd =>
    simp only [hn] at hs
    cases nd <;> simp only [reduceCtorEq] at hs ⊢
    cases hso : setOb h r p .gone false with
    | none => simp [hso] at hs
    | some h1 =>
      simp only [hso, Option.some.injEq, Prod.mk.injEq] at hs
      obtain ⟨rfl, rfl⟩ := hs
      obtain ⟨k', e1, e2⟩ := setOb_loc ha hr hso
      exact ⟨k', by rw [e1], e2⟩
 case undef => exact pl .undef hs
 all_goals first | (simp only [takeCell] at hs ⊢; exact pl _ hs)
theorem takeCells_loc : ∀ (vs : List AV) {h k : List Ob}, Alike rs h k → (∀ x ∈ vs, Named rs x) → ∀ {cs : List AV} {h' : List Ob}, takeCells h vs = some (cs, h') → ∃ k', takeCells k vs = some (cs, k') ∧ Same rs h' k k' := by
 intro vs
 induction vs with
 | nil =>
   intro h k ha _ cs h' hs
   simp [takeCells] at hs
   obtain ⟨rfl, rfl⟩ := hs
   exact ⟨k, rfl, Same.refl ha⟩
 | cons v vs ih =>
   intro h k ha hv cs h' hs
   simp only [takeCells] at hs ⊢
   cases h1 : takeCell h v with
   | none => simp [h1] at hs
   | some p =>
     obtain ⟨c, hh⟩ := p
     simp only [h1] at hs
     cases h2 : takeCells hh vs with
     | none => simp [h2] at hs
     | some q =>
       obtain ⟨cs', hh2⟩ := q
       simp only [h2, Option.some.injEq, Prod.mk.injEq] at hs
       obtain ⟨rfl, rfl⟩ := hs
       obtain ⟨k1, e1, e2⟩ := takeCell_loc ha (hv v (List.mem_cons_self ..)) h1
       obtain ⟨k2, e3, e4⟩ := ih e2.alike (fun x hx => hv x (List.mem_cons_of_mem _ hx)) h2
       exact ⟨k2, by rw [e1]; simp only [e3], e2.trans e4⟩
theorem takeVal_loc (ha : Alike rs h k) {n : Nat} {v : AV} (hv : Named rs v) {c : AV} {h' : List Ob} (hs : takeVal h n v = some (c, h')) : ∃ k', takeVal k n v = some (c, k') ∧ Same rs h' k k' := by
 unfold takeVal at hs ⊢
 rw [vcells_loc ha hv]
 cases h1 : vcells h n v with
 | none => simp [h1] at hs
 | some vs =>
   simp only [h1] at hs ⊢
   cases h2 : takeCells h vs with
   | none => simp [h2] at hs
   | some q =>
     obtain ⟨cs', hh2⟩ := q
     simp only [h2, Option.some.injEq, Prod.mk.injEq] at hs
     obtain ⟨rfl, rfl⟩ := hs
     obtain ⟨k2, e3, e4⟩ := takeCells_loc vs ha (vcells_named hv h1) h2
     exact ⟨k2, by simp only [e3], e4⟩
theorem takeVals_loc {n : Nat} : ∀ (vs : List AV) {h k : List Ob}, Alike rs h k → (∀ x ∈ vs, Named rs x) → ∀ {cs : List AV} {h' : List Ob}, takeVals h n vs = some (cs, h') → ∃ k', takeVals k n vs = some (cs, k') ∧ Same rs h' k k' := by
 intro vs
 induction vs with
 | nil =>
   intro h k ha _ cs h' hs
   simp [takeVals] at hs
   obtain ⟨rfl, rfl⟩ := hs
   exact ⟨k, rfl, Same.refl ha⟩
 | cons v vs ih =>
   intro h k ha hv cs h' hs
   simp only [takeVals] at hs ⊢
   cases h1 : takeVal h n v with
   | none => simp [h1] at hs
   | some p =>
     obtain ⟨c, hh⟩ := p
     simp only [h1] at hs
     cases h2 : takeVals hh n vs with
     | none => simp [h2] at hs
     | some q =>
       obtain ⟨cs', hh2⟩ := q
       simp only [h2, Option.some.injEq, Prod.mk.injEq] at hs
       obtain ⟨rfl, rfl⟩ := hs
       obtain ⟨k1, e1, e2⟩ := takeVal_loc ha (hv v (List.mem_cons_self ..)) h1
       obtain ⟨k2, e3, e4⟩ := ih e2.alike (fun x hx => hv x (List.mem_cons_of_mem _ hx)) h2
       exact ⟨k2, by rw [e1]; simp only [e3], e2.trans e4⟩
end
end Go.Mw
