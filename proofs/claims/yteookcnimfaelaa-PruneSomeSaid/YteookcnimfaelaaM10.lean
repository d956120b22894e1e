/- Soundness: calls. -/
import Derived.Test.YteookcnimfaelaaM09
set_option linter.unusedVariables false
set_option linter.unusedSimpArgs false
namespace Go.Mw
open Go.RowKit
section
variable {P : Program} {w0 : World} {fz0 : Nat → Prop} {B : Nat} {m m' : Mem} {w w' : World} {las : Las} {h h' : List Ob} {σ σ' : St} {a : Act}
theorem node_take {B r st ss : Nat} {p : Path} (hr : r < B) : node (h.take B) r st p ss = node h r st p ss := by
 unfold node
 rw [List.getElem?_take_of_lt hr]
theorem RefR.take {L L' : Nat → Nat → Prop} (hb : m'.blk = m.blk) {v : AV} {c : Value} {B : Nat} (hi : v.isRef = true) (hlt : ∀ r ∈ rootsOf v, r < B) (hex : ∃ r, r ∈ rootsOf v) (hr : RefR w m h L v c) : RefR w m' (h.take B) L' v c := by
 cases v <;> simp only [AV.isRef, Bool.false_eq_true] at hi
 case sl r st p ss off len =>
  have hlt : r < B := hlt r (by simp [rootsOf])
  obtain ⟨o, h1, h2, h3, h4⟩ := hr
  refine ⟨o, by rw [List.getElem?_take_of_lt hlt]; exact h1, h2, h3, fun es xs hn => ?_⟩
  rw [node_take hlt] at hn
  obtain ⟨g1, g2⟩ := h4 es xs hn
  exact ⟨g1, g2.mono0 (WKeep.refl w).zero (by rw [hb])⟩
 case ptr r st p ss i j =>
  have hlt : r < B := hlt r (by simp [rootsOf])
  obtain ⟨o, h1, h2, h3, h4⟩ := hr
  refine ⟨o, by rw [List.getElem?_take_of_lt hlt]; exact h1, h2, h3, fun es xs hn => ?_⟩
  rw [node_take hlt] at hn
  rw [hb]; exact h4 es xs hn
 case mp r st p ss =>
  have hlt : r < B := hlt r (by simp [rootsOf])
  obtain ⟨o, h1, h2, h3, h4⟩ := hr
  refine ⟨o, by rw [List.getElem?_take_of_lt hlt]; exact h1, h2, h3, fun es hn => ?_⟩
  rw [node_take hlt] at hn
  rw [hb]; exact h4 es hn
 case ent r st p ss i =>
  have hlt : r < B := hlt r (by simp [rootsOf])
  obtain ⟨o, h1, h2, h3, h4⟩ := hr
  refine ⟨o, by rw [List.getElem?_take_of_lt hlt]; exact h1, h2, h3, fun es hn => ?_⟩
  rw [node_take hlt] at hn
  rw [hb]; exact h4 es hn
 case yld => obtain ⟨r, hr⟩ := hex; simp [rootsOf] at hr
theorem pack_rel {R : AV → Value → Prop} {fz : Nat → Prop} {rs : List AV} {cs : List Value} (h : VRels w fz R rs cs) : VRel w fz R (packV rs) (packC cs) := by
 obtain ⟨hl, hr⟩ := h
 have tup : cs.length ≠ 1 → VRel w fz R (.tup rs) (packC cs) := by
  intro hne
  unfold packC
  rw [dif_neg (by simpa using hne)]
  exact .tup _ _ (by simpa using hl) (fun j c v hc hv => hr j c v hc (by simpa using hv))
 match rs, cs, hl with
 | [], [], _ => exact tup (by simp)
 | [v], [c], _ => simp only [packV, packC]; simpa using hr 0 v c rfl rfl
 | _ :: _ :: _, [_], hl => simp at hl
 | v :: u :: rs, c :: d :: cs, _ => exact tup (by simp)
theorem tree_rels (hr : Rel w0 fz0 m h w) {X : Nat → Prop} {L : Nat → Nat → Prop} {B : Nat} {R' : AV → Value → Prop}
 (hR : ∀ v c, v.isRef = true → (∀ r ∈ rootsOf v, r < B) → (∃ r, r ∈ rootsOf v) → RefR w m h L v c → R' v c) {xs : List AV} {cs : List Value} (hv : VRels w m.fz (RefR w m h L) xs cs) (hx : ∀ r ∈ rootsL xs, r < B ∨ X r) :
 VRels w (m.freeze h X).fz R' (treeBL B h xs) cs := by
 refine ⟨by rw [treeBL_map]; simpa using hv.1, fun j v c h1 h2 => ?_⟩
 rw [treeBL_map, List.getElem?_map] at h1
 cases hx' : xs[j]? with
 | none => simp [hx'] at h1
 | some x =>
   simp [hx'] at h1; subst h1
   exact treeB_rel hr hR (hv.2 j x c hx' h2) (fun r hr => hx r (rootsL_mem (List.mem_of_getElem? hx') hr))
theorem Rel.adopt {m1 : Mem} (R0 : Rel w0 fz0 m h w) {r s st es : Nat} {xs : List AV} (hn : NodeF w m1 r [] (.own es xs)) (hfz : ∀ b, m1.fz b → m.fz b) (hlo : w0.heap.size ≤ (m1.blk r []).1 ∧ ¬ m.fz (m1.blk r []).1)
 (hne : ∀ r2 p2 nd, nodeAt h r2 p2 = some nd → isNode nd = true → (m.blk r2 p2).1 ≠ (m1.blk r []).1) (hpl : xs.all (fun e : AV => e.cells.all AV.plain) = true) (hnew : newOb h s (.own es xs) = some (h', st)) :
 ∃ m2 : Mem, Rel w0 fz0 m2 h' w ∧ HStep m m2 h h' ∧ m2.fz = m.fz ∧ m2.blk s [] = m1.blk r [] := by
 obtain ⟨ob, hob, hgone, rfl, rfl⟩ := newOb_some hnew
 have hsl := List.lt_of_some hob
 let m2 : Mem := { blk := fun r2 p2 => if r2 = s then m1.blk r [] else m.blk r2 p2, fz := m.fz }
 have hself : ∀ p, m2.blk s p = m1.blk r [] := fun p => by simp [m2]
 have hoth : ∀ r2 p, r2 ≠ s → m2.blk r2 p = m.blk r2 p := fun r2 p h => by simp [m2, h]
 have hnode : ∀ r2 p2 nd, nodeAt (h.set s { st := ob.st + 1, ss := 0, c := .own es xs }) r2 p2 = some nd → isNode nd = true → (r2 = s ∧ p2 = [] ∧ nd = .own es xs) ∨ (r2 ≠ s ∧ nodeAt h r2 p2 = some nd) := by
  intro r2 p2 nd h2 hi
  obtain ⟨o2, e2, n2⟩ := nodeAt_eq.1 h2
  by_cases er : r2 = s
  ·subst er
   rw [List.getElem?_set_self hsl] at e2; cases e2
   cases p2 with
   | nil => rw [nav_nil] at n2; cases n2; exact .inl ⟨rfl, rfl, rfl⟩
   | cons x q =>
     obtain ⟨i, j⟩ := x
     obtain ⟨es1, xs1, e, d, h3, he, hd, hq⟩ := (nav_cons ..).1 n2
     cases h3
     simp only [List.all_eq_true] at hpl
     have h4 := hpl e (List.mem_of_getElem? he) d (List.mem_of_getElem? hd)
     have := not_node_nav hq hi
     rw [(plain_one h4).2] at this; cases this
  ·rw [List.getElem?_set_ne (fun h => er h.symm)] at e2
   exact .inr ⟨er, nodeAt_eq.2 ⟨o2, e2, n2⟩⟩
 refine ⟨m2, ⟨R0.below, R0.fzlt, R0.fzin, R0.fzge, fun r2 p2 nd h2 => ?_, fun r2 p2 nd h2 hi => ?_, fun r2 p2 nd r4 p4 nd4 h2 hi h4 hi4 he => ?_⟩, HStep.new hnew (fun r p h _ => hoth r p h), rfl, hself []⟩
 ·by_cases hi : isNode nd = true
  ·rcases hnode r2 p2 nd h2 hi with ⟨rfl, rfl, rfl⟩ | ⟨hne2, h5⟩
   ·obtain ⟨k0, arr, ty, k1, k2⟩ := hn
    refine ⟨k0, arr, ty, by rw [hself]; exact k1, fun i e hi => ?_⟩
    obtain ⟨k3, k4⟩ := k2 i e hi
    refine ⟨k3, fun j c hj => ?_⟩
    obtain ⟨k5, v, k6, k7, k8⟩ := k4 j c hj
    simp only [List.all_eq_true] at hpl
    have h4 := hpl e (List.mem_of_getElem? hi) c (List.mem_of_getElem? hj)
    refine ⟨k5, v, by rw [hself]; exact k6, k7, ?_⟩
    have hnn := (plain_one h4).2
    have : VRel0 w m1.fz c v := by cases c <;> first | exact k8 | (simp [AV.plain] at h4; done)
    exact plain_cellR hnn (this.mono (fun _ _ _ _ h => h) hfz)
   ·refine (R0.nodes r2 p2 nd h5).mono0 (m := m) (m' := m2) (WKeep.refl w).zero (FKeep.refl _ _) (fun _ h => h) (hoth _ _ hne2) (fun _ _ _ _ _ _ _ _ _ _ => hoth _ _ hne2) (fun _ => rfl)
  ·cases nd <;> first | trivial | exact absurd rfl hi
 ·rcases hnode r2 p2 nd h2 hi with ⟨rfl, rfl, rfl⟩ | ⟨hne2, h5⟩
  ·rw [hself]; exact hlo
  ·rw [hoth _ _ hne2]; exact R0.lo _ _ _ h5 hi
 ·rcases hnode r2 p2 nd h2 hi with ⟨rfl, rfl, rfl⟩ | ⟨hne2, h5⟩
  ·rcases hnode r4 p4 nd4 h4 hi4 with ⟨rfl, rfl, rfl⟩ | ⟨hne4, h6⟩
   ·exact ⟨rfl, rfl⟩
   ·rw [hself, hoth _ _ hne4] at he
    exact absurd he.symm (hne _ _ _ h6 hi4)
  ·rcases hnode r4 p4 nd4 h4 hi4 with ⟨rfl, rfl, rfl⟩ | ⟨hne4, h6⟩
   ·rw [hself, hoth _ _ hne2] at he
    exact absurd he (hne _ _ _ h5 hi)
   ·rw [hoth _ _ hne2, hoth _ _ hne4] at he
    exact R0.inj _ _ _ _ _ _ h5 hi h6 hi4 he
theorem newOb_len {h h' : List Ob} {r st : Nat} {c : AV} (hk : newOb h r c = some (h', st)) : h'.length = h.length := by
 obtain ⟨o, _, _, _, rfl⟩ := newOb_some hk
 simp
theorem give_sound {m1 m3 : Mem} {w1 : World} {fz1 : Nat → Prop} {h1 h0 hf : List Ob} {L1 L : Nat → Nat → Prop} {fo : Bool} {B b : Nat} {ss : List Nat} {rs : List AV} {cs : List Value} {v : AV}
 (R1 : Rel w1 fz1 m1 h1 w) (hrs : VRels w m1.fz (RefR w m1 h1 L1) rs cs) (hg : give fo B h1 h0 b ss rs = some (v, hf))
 (R3 : Rel w0 fz0 m3 h0 w)
 (htree : fo = false → VRels w m3.fz (RefR w m3 h0 L) (treeBL B h1 rs) cs)
 (hown : fo = true → rs.all AV.flats = false → (∀ b, m1.fz b → m3.fz b) ∧ ∀ r nd, B ≤ r → nodeAt h1 r [] = some nd → isNode nd = true → (w0.heap.size ≤ (m1.blk r []).1 ∧ ¬ m3.fz (m1.blk r []).1) ∧ ∀ r2 p2 nd2, nodeAt h0 r2 p2 = some nd2 → isNode nd2 = true → (m3.blk r2 p2).1 ≠ (m1.blk r []).1) :
 ∃ m4 : Mem, Rel w0 fz0 m4 hf w ∧ Ev m3 h0 w m4 hf w ∧ hf.length = h0.length ∧ VRel w m4.fz (RefR w m4 hf L) v (packC cs) := by
 unfold give at hg
 split at hg
 ·rename_i r st s2 off len s
  split at hg
  ·rename_i hBr
   split at hg
   ·rename_i es xs hnd
    split at hg
    ·rename_i hc
     obtain ⟨rfl, rfl, hpl⟩ := hc
     split at hg
     ·rename_i hf' st' hnew
      simp only [Option.some.injEq, Prod.mk.injEq] at hg
      obtain ⟨rfl, rfl⟩ := hg
      obtain ⟨k1, k2⟩ := hown rfl rfl
      obtain ⟨k3, k4⟩ := k2 r _ hBr (node_at hnd) rfl
      obtain ⟨m4, q1, q2, q3, q4⟩ := R3.adopt (R1.nodes _ _ _ (node_at hnd)) k1 k3 k4 hpl hnew
      have hlen := newOb_len hnew
      have hev : Ev m3 h0 w m4 hf' w := ⟨q2, (WKeep.refl w).1, (WKeep.refl w).2.1, FKeep.refl _ _, fun b hb => by rw [q3]; exact hb, fun _ _ h => h, Nat.le_refl _⟩
      refine ⟨m4, q1, hev, hlen, ?_⟩
      have hcs : ∃ c, cs = [c] := by
       match cs, hrs.1 with
       | [c], _ => exact ⟨c, rfl⟩
      obtain ⟨c, rfl⟩ := hcs
      have hv := hrs.2 0 _ c rfl rfl
      obtain ⟨o1, g1, g2, g3, g4⟩ := hv.inv_ref rfl
      obtain ⟨ob, hob, hgone, rfl, rfl⟩ := newOb_some hnew
      have hsl := List.lt_of_some hob
      have hnd' : node h1 r st [] s2 = some (.own es xs) := by
       obtain ⟨o', e1, e2, e3, e4⟩ := node_eq.1 hnd
       exact node_eq.2 ⟨o', e1, e2, .inl rfl, e4⟩
      obtain ⟨g5, g6⟩ := g4 _ _ hnd'
      refine .ref _ _ rfl ⟨{ st := ob.st + 1, ss := 0, c := .own es xs }, List.getElem?_set_self hsl, Nat.le_refl _, fun _ h => absurd rfl h, fun es2 xs2 hn2 => ?_⟩
      obtain ⟨o', e1, e2, e3, e4⟩ := node_eq.1 hn2
      rw [List.getElem?_set_self hsl] at e1; cases e1
      rw [nav_nil] at e4; cases e4
      refine ⟨by omega, ?_⟩
      have := g6.mono0 (WKeep.refl w).zero (m' := m4) (r' := b + s) (p' := []) q4
      simpa [packC] using this
     ·cases hg
    ·cases hg
   ·cases hg
  ·cases hg
 ·simp only [Option.some.injEq, Prod.mk.injEq] at hg
  obtain ⟨rfl, rfl⟩ := hg
  have hcs : ∃ c, cs = [c] := by
   match cs, hrs.1 with
   | [c], _ => exact ⟨c, rfl⟩
  obtain ⟨c, rfl⟩ := hcs
  have hv := hrs.2 0 _ c rfl rfl
  refine ⟨m3, R3, Ev.refl _ _ _, rfl, ?_⟩
  rw [hv.inv_nils]
  exact .base _ _ (.emp none)
 ·simp only [Option.some.injEq, Prod.mk.injEq] at hg
  obtain ⟨rfl, rfl⟩ := hg
  have hcs : ∃ c, cs = [c] := by
   match cs, hrs.1 with
   | [c], _ => exact ⟨c, rfl⟩
  obtain ⟨c, rfl⟩ := hcs
  have hv := hrs.2 0 _ c rfl rfl
  obtain ⟨A, e⟩ := hv.inv_emp
  refine ⟨m3, R3, Ev.refl _ _ _, rfl, ?_⟩
  rw [e]
  exact .base _ _ (.emp A)
 ·cases hg
 ·simp only [Option.some.injEq, Prod.mk.injEq] at hg
  obtain ⟨rfl, rfl⟩ := hg
  exact ⟨m3, R3, Ev.refl _ _ _, rfl, pack_rel (htree rfl)⟩
end
end Go.Mw
/- Soundness: a call. -/
namespace Go.Mw
open Go.RowKit
section
variable {P : Program} {w0 : World} {fz0 : Nat → Prop} {B : Nat} {m m' : Mem} {w w' : World} {las : Las} {h h' : List Ob} {σ σ' : St} {a : Act}
theorem dropRoots_len (h : List Ob) (rs : List Nat) : (dropRoots h rs).length = h.length := by
 unfold dropRoots
 induction rs generalizing h with
 | nil => rfl
 | cons r rs ih => rw [List.foldl_cons, ih]; simp
theorem dropRoots_get (rs : List Nat) : ∀ (h : List Ob) (r : Nat) (o : Ob), h[r]? = some o → (dropRoots h rs)[r]? = some (if r ∈ rs then { o with c := .gone } else o) := by
 unfold dropRoots
 induction rs with
 | nil => intro h r o ho; simpa using ho
 | cons q rs ih =>
   intro h r o ho
   rw [List.foldl_cons]
   by_cases e : q = r
   ·subst e
    have h1 : (h.modify q fun o => { o with c := .gone })[q]? = some { o with c := .gone } := by
     rw [List.getElem?_modify]; simp [ho]
    rw [ih _ _ _ h1]
    simp
   ·have h1 : (h.modify q fun o => { o with c := .gone })[r]? = some o := by
     rw [List.getElem?_modify]; simp [e, ho]
    rw [ih _ _ _ h1]
    have : (r ∈ q :: rs) ↔ r ∈ rs := by simp [show ¬ r = q from fun h => e h.symm]
    simp only [this]
theorem dropRoots_step (m : Mem) (h : List Ob) (rs : List Nat) : HStep m m h (dropRoots h rs) := by
 intro r o ho
 refine ⟨_, dropRoots_get rs h r o ho, ?_⟩
 split
 ·refine .inr ⟨rfl, .inr ⟨rfl, fun p nd hn hi => ?_⟩⟩
  exact (nav_gone hn hi).elim
 ·exact OStep.refl _ _ _
theorem dropRoots_node {rs : List Nat} {r : Nat} {p : Path} {nd : AV} (hn : nodeAt (dropRoots h rs) r p = some nd) (hi : isNode nd = true) : nodeAt h r p = some nd ∧ r ∉ rs := by
 obtain ⟨o, e, hnav⟩ := nodeAt_eq.1 hn
 have hlt := List.lt_of_some e
 rw [dropRoots_len] at hlt
 have h1 := dropRoots_get rs h r _ (List.getElem?_eq_getElem hlt)
 rw [e] at h1
 split at h1
 ·simp only [Option.some.injEq] at h1
  subst h1
  exact (nav_gone hnav hi).elim
 ·rename_i hne
  simp only [Option.some.injEq] at h1
  subst h1
  exact ⟨nodeAt_eq.2 ⟨_, List.getElem?_eq_getElem hlt, hnav⟩, hne⟩
theorem flat_rel {R : AV → Value → Prop} {fz fz' : Nat → Prop} {v : AV} {c : Value} (h : VRel w fz R v c) (hf : v.flat = true) : VRel0 w' fz' v c := by
 cases h with
 | base _ _ h =>
   cases h <;> first | (simp [AV.flat] at hf; done) | skip
   case undef => exact .undef _
   case bool => exact .bool _
   case int => exact .int _ _
   case str => exact .str _
   case nilp => exact .nilp
   case nils => exact .nils
   case nilm => exact .nilm
   case nilf => exact .nilf
   case emp => exact .emp _
   case ne => exact .ne _ _
   case lstn => exact .lstn
   case lst xs A cap es vs hcap hfz hes hc hr =>
    cases xs with
    | cons x xs => simp [AV.flat] at hf
    | nil => exact .lst [] A cap es vs hcap (fun h => by simp at h) (fun i e h => by simp at h) (fun i e j c h => by simp at h) (fun i e j c h => by simp at h)
 | ref _ _ hv _ => cases v <;> simp [AV.isRef, AV.flat] at hv hf
 | _ => simp [AV.flat] at hf
theorem flats_rel {R : AV → Value → Prop} {fz fz' : Nat → Prop} {v : AV} {c : Value} (h : VRel w fz R v c) (hf : v.flats = true) : VRel0 w' fz' v c := by
 have agg : ∀ {cs : List AV} {c : Value}, VRel w fz R (.agg cs) c → cs.all AV.flat = true → VRel0 w' fz' (.agg cs) c := by
  intro cs c h hf
  obtain ⟨X, rfl, hX, h1, rX⟩ := h.inv_agg
  simp only [List.all_eq_true] at hf
  exact .agg _ _ hX (fun j c v hc hv => h1 j c v hc hv) (fun j c v hc hv => flat_rel (rX j c v hc hv) (hf c (List.mem_of_getElem? hc)))
 cases v
 case agg cs => exact agg h (by simpa [AV.flats] using hf)
 case tup vs =>
  simp only [AV.flats, List.all_eq_true] at hf
  have : ∃ X : Array Value, c = .tuple X ∧ X.size = vs.length ∧ ∀ (j : Nat) (d : AV) (u : Value), vs[j]? = some d → X[j]? = some u → VRel w fz R d u := by
   cases h with
   | base _ _ h => cases h with | tup _ X hl hr => exact ⟨X, rfl, hl, fun j d u h1 h2 => .base _ _ (hr j d u h1 h2)⟩
   | tup _ X hl hr => exact ⟨X, rfl, hl, hr⟩
   | ref _ _ h => cases h
  obtain ⟨X, rfl, hl, hr⟩ := this
  refine .tup _ _ hl (fun j d u h1 h2 => ?_)
  have h3 := hf d (List.mem_of_getElem? h1)
  have h4 := hr j d u h1 h2
  split at h3
  ·exact agg h4 h3
  ·exact flat_rel h4 h3
 all_goals exact flat_rel h hf
theorem free1_roots {v : AV} (h : v.free1 = true) : rootsOf v = [] := by
 cases v <;> first | rfl | (simp [AV.free1] at h)
theorem rootsL_nil {xs : List AV} (h : ∀ x ∈ xs, rootsOf x = []) : rootsL xs = [] := by
 induction xs with
 | nil => rfl
 | cons x xs ih => simp only [rootsL, h x (List.mem_cons_self ..), ih (fun y hy => h y (List.mem_cons_of_mem _ hy)), List.append_nil]
theorem free2_roots {v : AV} (h : v.free2 = true) : rootsOf v = [] := by
 have fnc : ∀ {f : FuncId} {ds : List AV}, ds.all AV.free1 = true → rootsOf (.fn f ds) = [] := by
  intro f ds h
  simp only [List.all_eq_true] at h
  exact rootsL_nil (fun x hx => free1_roots (h x hx))
 cases v
 case agg cs =>
  simp only [AV.free2, List.all_eq_true] at h
  refine rootsL_nil (fun x hx => ?_)
  have h1 := h x hx
  split at h1
  ·exact fnc h1
  ·exact free1_roots h1
 case fn f ds => exact fnc (by simpa [AV.free2] using h)
 all_goals exact free1_roots h
theorem free_roots {v : AV} (h : v.free = true) : rootsOf v = [] := by
 cases v
 case tup vs =>
  simp only [AV.free, List.all_eq_true] at h
  exact rootsL_nil (fun x hx => free2_roots (h x hx))
 all_goals exact free2_roots h
theorem below_keep {w1 : World} (hb : Below w.heap.size w w1) : WKeep w w1 := by
 have hh : ∀ (k : Nat) (o : Obj), w.heap[k]? = some o → w1.heap[k]? = some o := fun k o ho => by rw [hb.block k (Array.getElem?_eq_some_iff.1 ho).1]; exact ho
 exact ⟨fun b arr ty h => ⟨arr, hh _ _ h, rfl⟩, fun b en ck h => ⟨en, ck, hh _ _ h, fun i e he => ⟨e, he, rfl⟩⟩, fun b o h _ => hh _ _ h, hb.size⟩
theorem Rel.back (hr : Rel w0 fz0 m h w) {w1 : World} (hb : Below w.heap.size w w1) {X : Nat → Prop} {fz3 : Nat → Prop} (h1 : ∀ b, m.fz b → fz3 b) (h2 : ∀ b, fz3 b → b < w1.heap.size)
 (h3 : ∀ b, fz3 b → (m.fz b ∨ Blks m h X b) ∨ w.heap.size ≤ b) (ho : ∀ r p nd, nodeAt h' r p = some nd → isNode nd = true → nodeAt h r p = some nd ∧ ¬ X r) : Rel w0 fz0 { blk := m.blk, fz := fz3 } h' w1 := by
 have hc := hr.congr (h' := h') (fun r p nd hn hi => (ho r p nd hn hi).1)
 have hk := below_keep hb
 refine hc.keep (m' := { blk := m.blk, fz := fz3 }) rfl (hr.below.trans (hb.mono hr.below.size)) hb.size (fun r p nd hn hi => hb.block _ ((hc.nodes r p nd hn).lt hi)) (fun r p nd hn hi => ?_) hk.zero (fun b o v hb' hcc => (World.cell?_of_block (a := ⟨b, o, none⟩) (hb.block b (hr.fzlt b hb'))).trans hcc) h1 h2 (fun b hb => h1 b (hr.fzin b hb)) (fun b hb => ?_)
 ·obtain ⟨g1, g2⟩ := ho r p nd hn hi
  have hlo := hr.lo r p nd g1 hi
  refine ⟨hlo.1, fun hf => ?_⟩
  rcases h3 _ hf with (hf | ⟨r2, p2, nd2, hx, hn2, hi2, e⟩) | hge
  ·exact hlo.2 hf
  ·obtain ⟨e1, _⟩ := hr.inj r2 p2 nd2 r p nd hn2 hi2 g1 hi e
   subst e1; exact g2 hx
  ·have := (hr.nodes r p nd g1).lt hi
   omega
 ·rcases h3 b hb with (hf | ⟨r2, p2, nd2, hx, hn2, hi2, rfl⟩) | hge
  ·exact hr.fzge b hf
  ·exact .inr (hr.lo r2 p2 nd2 hn2 hi2).1
  ·exact .inr (Nat.le_trans hr.below.size hge)
theorem callF_sound {G : Prg} {n : Nat} (hF : FunS P G (runF G n)) : CallS P (callF G (n + 1)) := by
 intro f xs b ss σ v σ' hx w0 fz0 B m las a w args hs hargs
 simp only [callF] at hx
 cases hg : G f with
 | none => simp [hg] at hx
 | some F =>
   simp only [hg] at hx
   split at hx
   ·rename_i hnp
    split at hx
    ·-- by value
     rename_i hpure
     split at hx
     ·-- asked of nil and of what is not nil
      rename_i hsp
      have hr := hs.rel
      have hall : ∃ x, xs = [x] ∧ treeB 0 σ.h x = .lst [] := by
       unfold splits at hsp
       split at hsp
       ·rename_i htr
        rw [treeBL_map] at htr
        cases xs with
        | nil => simp at htr
        | cons x xs =>
          cases xs with
          | nil => simp at htr; exact ⟨x, rfl, htr⟩
          | cons y ys => simp at htr
       ·cases hsp
      obtain ⟨x, rfl, hxt⟩ := hall
      have hargs1 : VRels w (m.freeze σ.h (fun r => r ∈ rootsL [x])).fz (RefR w (m.freeze σ.h (fun r => r ∈ rootsL [x])) [] (Lof [])) (treeBL 0 σ.h [x]) args.toList :=
       tree_rels hr (fun v c hi hlt hex _ => by obtain ⟨r, hr⟩ := hex; exact absurd (hlt r hr) (Nat.not_lt_zero _)) hargs (fun r hr => .inr hr)
      have hcs : ∃ c, args.toList = [c] := by
       have h1 := hargs.1
       match hh : args.toList, h1 with
       | [c], _ => exact ⟨c, rfl⟩
      obtain ⟨c0, hc0⟩ := hcs
      have hc1 : ∃ A cap, c0 = .slice A 0 cap ∧ (A = none → cap = 0) := by
       have h1 := hargs1.2 0 (.lst []) c0 (by rw [treeBL_map]; simp [hxt]) (by rw [hc0]; rfl)
       rcases h1.inv_lst with ⟨_, e⟩ | ⟨A, cap, es, vs, e, _⟩
       ·exact ⟨none, 0, e, fun _ => rfl⟩
       ·exact ⟨some A, cap, by simpa using e, fun h => by cases h⟩
      have Rm1 : Rel w m.fz m [] w := by
       refine ⟨Below.refl _ _, fun b hb => hr.fzlt b hb, fun _ h => h, fun _ h => .inl h, fun r p nd hn => by simp [nodeAt] at hn, fun r p nd hn => by simp [nodeAt] at hn, fun r p nd r2 p2 nd2 hn => by simp [nodeAt] at hn⟩
      have fin : ∀ (ys : List AV) (y : AV) (σ1 : St), runF G n F ys [] [] = some ([y], σ1) → ys.length = F.np → VRels w m.fz (RefR w m [] (Lof [])) ys args.toList → y.void = true →
       ∃ c w' m', Sim P w0 fz0 B m' las σ a w' ∧ σ.t = σ.t ∧ Ev m σ.h w m' σ.h w' ∧ σ.h.length = σ.h.length ∧ VRel w' m'.fz (RefR w' m' σ.h (Lof las)) (if F.fo then .emp else .lst []) c ∧ Lands P f args w c w' := by
       intro ys y σ1 hrun hl hya hy
       obtain ⟨m2, w2, cs, q1, q2, q3, q4, q5, q6⟩ := hF f F ys [] [] [y] σ1 hg hrun hl w m.fz m [] w args hya Rm1 ⟨rfl, by simp, fun l la top x h => by simp at h⟩
       have hbel : Below w.heap.size w w2 := q2.below
       have hcs2 : ∃ c, cs = [c] := by
        match cs, q1.1 with
        | [c], _ => exact ⟨c, rfl⟩
       obtain ⟨c, rfl⟩ := hcs2
       have hv := q1.2 0 y c rfl rfl
       have hk := below_keep hbel
       have hev : Ev m σ.h w m σ.h w2 :=
        ⟨HStep.refl m _, hk.1, hk.2.1, fun b o v hb' hcc => (World.cell?_of_block (a := ⟨b, o, none⟩) (hbel.block b (hr.fzlt b hb'))).trans hcc, fun _ h => h, fun b ds hb => hk.2.2.1 b _ hb rfl, hk.2.2.2⟩
       refine ⟨packC [c], w2, m, ⟨hs.tr.ev hev (fun _ _ h => h), hr.back (X := fun _ => False) hbel (fun _ h => h) (fun b hb => Nat.lt_of_lt_of_le (hr.fzlt b hb) hbel.size) (fun b hb => .inl (.inl hb)) (fun r p nd hn hi => ⟨hn, id⟩),
        hs.lps.ev' hev (fun l la hla => ?_), hs.dfs.keep hev.dfr, hs.bs.1, Nat.le_trans hs.bs.2 hev.sz⟩, rfl, hev, rfl, ?_, q6⟩
       ·obtain ⟨top, hla⟩ := hla
        have hlt : l < σ.lp.length := by rw [← hs.lps.len]; exact List.lt_of_some hla
        obtain ⟨_, _, r, hrr, _⟩ := hs.lps.ok l la top _ hla (List.getElem?_eq_getElem hlt)
        exact hbel.block la (Array.getElem?_eq_some_iff.1 hrr).1
       ·have : packC [c] = c := by simp [packC]
        rw [this]
        cases y <;> simp only [AV.void, Bool.false_eq_true] at hy
        ·rw [hv.inv_nils]
         split
         ·exact .base _ _ (.emp none)
         ·exact .base _ _ .lstn
        ·obtain ⟨A, e⟩ := hv.inv_emp; rw [e]
         split
         ·exact .base _ _ (.emp A)
         ·exact .base _ _ (.lst0 A 0 (fun _ => rfl))
      split at hx
      ·rename_i y1 σ1 y2 σ2 hrun1 hrun2
       split at hx
       ·rename_i hvoid
        simp only [Bool.and_eq_true] at hvoid
        simp only [Option.some.injEq, Prod.mk.injEq] at hx
        obtain ⟨rfl, rfl⟩ := hx
        obtain ⟨A, cap, rfl, hA⟩ := hc1
        cases A with
        | none =>
          have h0 := hA rfl
          subst h0
          refine fin [.nils] y1 σ1 hrun1 (by simpa using hnp) ⟨by rw [hc0]; rfl, fun j v c h1 h2 => ?_⟩ hvoid.1
          rw [hc0] at h2
          cases j with
          | zero => simp at h1 h2; subst h1; subst h2; exact .base _ _ .nils
          | succ j => simp at h1
        | some A =>
          refine fin [.ne] y2 σ2 hrun2 (by simpa using hnp) ⟨by rw [hc0]; rfl, fun j v c h1 h2 => ?_⟩ hvoid.2
          rw [hc0] at h2
          cases j with
          | zero => simp at h1 h2; subst h1; subst h2; exact .base _ _ (.ne A cap)
          | succ j => simp at h1
       ·cases hx
      ·cases hx
     split at hx
     ·rename_i rs σ1 hrun
      split at hx
      ·rename_i v1 hf hgive
       simp only [Option.some.injEq, Prod.mk.injEq] at hx
       obtain ⟨rfl, rfl⟩ := hx
       let X : Nat → Prop := fun r => r ∈ rootsL xs
       let m1 := m.freeze σ.h X
       have hr := hs.rel
       have Rm1 : Rel w m1.fz m1 [] w := by
        refine ⟨Below.refl _ _, ?_, fun _ h => h, fun _ h => .inl h, fun r p nd hn => by simp [nodeAt] at hn, fun r p nd hn => by simp [nodeAt] at hn, fun r p nd r2 p2 nd2 hn => by simp [nodeAt] at hn⟩
        rintro b (hb | ⟨r2, p2, nd2, hx, hn2, hi2, rfl⟩)
        ·exact hr.fzlt b hb
        ·exact (hr.nodes r2 p2 nd2 hn2).lt hi2
       have hargs1 : VRels w m1.fz (RefR w m1 [] (Lof [])) (treeBL 0 σ.h xs) args.toList :=
        tree_rels hr (fun v c hi hlt hex _ => by obtain ⟨r, hr⟩ := hex; exact absurd (hlt r hr) (Nat.not_lt_zero _)) hargs (fun r hr => .inr hr)
       obtain ⟨m2, w2, cs, q1, q2, q3, q4, q5, q6⟩ := hF f F _ [] [] rs σ1 hg hrun (by rw [treeBL_map]; simpa using hnp) w m1.fz m1 [] w args hargs1 Rm1 ⟨rfl, by simp, fun l la top x h => by simp at h⟩
       have hbel : Below w.heap.size w w2 := q2.below
       -- the results az data
       let m4 := m2.freeze σ1.h (fun _ => True)
       have Rm4 : Rel w m1.fz m4 [] w2 := q2.freeze _ (fun r p nd hn => by simp [nodeAt] at hn)
       have hres4 : VRels w2 m4.fz (fun _ _ => False) (treeBL 0 σ1.h rs) cs :=
        tree_rels q2 (fun v c hi hlt hex _ => by obtain ⟨r, hr⟩ := hex; exact absurd (hlt r hr) (Nat.not_lt_zero _)) q1 (fun r _ => .inr trivial)
       -- the frozen memory of the caller
       have main : ∀ (h0 : List Ob) (fz3 : Nat → Prop), give F.fo 0 σ1.h h0 b ss rs = some (v1, hf) → (∀ b, m.fz b → fz3 b) → (∀ b, fz3 b → b < w2.heap.size) → (∀ b, fz3 b → (m.fz b ∨ Blks m σ.h X b) ∨ w.heap.size ≤ b) →
        HStep m m σ.h h0 → h0.length = σ.h.length →
        Rel w0 fz0 { blk := m.blk, fz := fz3 } h0 w2 → (F.fo = false → VRels w2 fz3 (fun _ _ => False) (treeBL 0 σ1.h rs) cs) → (F.fo = true → rs.all AV.flats = false → ∀ b, fz3 b ↔ m2.fz b) →
        (∀ r p nd, nodeAt h0 r p = some nd → isNode nd = true → nodeAt σ.h r p = some nd) →
        ∃ c w' m', Sim P w0 fz0 B m' las { σ with h := hf } a w' ∧ ({ σ with h := hf } : St).t = σ.t ∧ Ev m σ.h w m' hf w' ∧ hf.length = σ.h.length ∧ VRel w' m'.fz (RefR w' m' hf (Lof las)) v1 c ∧ Lands P f args w c w' := by
        intro h0 fz3 hgive i1 i2 i3 i4 i5 i6 i7 i8 i9
        obtain ⟨m5, r1, r2, r3, r4⟩ := give_sound (m3 := { blk := m.blk, fz := fz3 }) (L := Lof las) q2 q1 hgive i6
         (fun hfo => ⟨(i7 hfo).1, fun j v c h1 h2 => ((i7 hfo).2 j v c h1 h2).mono (fun _ _ _ _ h => h) (fun _ h => h) (fun _ _ h => h.elim)⟩)
         (fun hfo hnf => ⟨fun b hb => (i8 hfo hnf b).2 hb, fun r nd _ hn hi => by
           have hlo := q2.lo r [] nd hn hi
           refine ⟨⟨Nat.le_trans hr.below.size hlo.1, fun hf => hlo.2 ((i8 hfo hnf _).1 hf)⟩, fun r2 p2 nd2 hn2 hi2 e => ?_⟩
           have h1 := (hr.nodes r2 p2 nd2 (i9 _ _ _ hn2 hi2)).lt hi2
           have h2 : (m.blk r2 p2).1 = (m2.blk r []).1 := e
           have h3 := hlo.1
           omega⟩)
        have hk := below_keep hbel
        have hev0 : Ev m σ.h w { blk := m.blk, fz := fz3 } h0 w2 := by
         refine ⟨?_, hk.1, hk.2.1, fun b o v hb' hcc => (World.cell?_of_block (a := ⟨b, o, none⟩) (hbel.block b (hr.fzlt b hb'))).trans hcc, i1, fun b ds hb => hk.2.2.1 b _ hb rfl, hk.2.2.2⟩
         intro r o ho
         obtain ⟨o', ho', hst⟩ := i4 r o ho
         exact ⟨o', ho', hst⟩
        have hev := hev0.trans r2
        refine ⟨packC cs, w2, m5, ⟨hs.tr.ev hev (fun _ _ h => h), r1, hs.lps.ev' hev (fun l la hla => ?_), hs.dfs.keep hev.dfr, hs.bs.1, Nat.le_trans hs.bs.2 hev.sz⟩, rfl, hev, r3.trans i5, r4, q6⟩
        obtain ⟨top, hla⟩ := hla
        have hlt : l < σ.lp.length := by rw [← hs.lps.len]; exact List.lt_of_some hla
        obtain ⟨_, _, r, hrr, _⟩ := hs.lps.ok l la top _ hla (List.getElem?_eq_getElem hlt)
        exact hbel.block la (Array.getElem?_eq_some_iff.1 hrr).1
       have hXfz : ∀ b, m4.fz b → (m.fz b ∨ Blks m σ.h X b) ∨ w.heap.size ≤ b := fun b hb => Rm4.fzge b hb
       have hm2fz : ∀ b, m2.fz b → (m.fz b ∨ Blks m σ.h X b) ∨ w.heap.size ≤ b := fun b hb => q2.fzge b hb
       have hsub2 : ∀ b, m.fz b → m2.fz b := fun b hb => q2.fzin b (.inl hb)
       have hfo4 : ∀ (h0 : List Ob), give F.fo 0 σ1.h h0 b ss rs = some (v1, hf) → HStep m m σ.h h0 → h0.length = σ.h.length → (∀ r p nd, nodeAt h0 r p = some nd → isNode nd = true → nodeAt σ.h r p = some nd ∧ ¬ X r) →
        ∃ c w' m', Sim P w0 fz0 B m' las { σ with h := hf } a w' ∧ ({ σ with h := hf } : St).t = σ.t ∧ Ev m σ.h w m' hf w' ∧ hf.length = σ.h.length ∧ VRel w' m'.fz (RefR w' m' hf (Lof las)) v1 c ∧ Lands P f args w c w' := by
        intro h0 hgive hst hlen hnd
        cases hfo : F.fo with
        | false =>
          exact main h0 m4.fz hgive (fun b hb => .inl (hsub2 b hb)) Rm4.fzlt hXfz hst hlen (hr.back hbel (fun b hb => .inl (hsub2 b hb)) Rm4.fzlt hXfz hnd) (fun _ => hres4) (fun h _ => by rw [hfo] at h; cases h) (fun r p nd hn hi => (hnd r p nd hn hi).1)
        | true =>
          exact main h0 m2.fz hgive hsub2 q2.fzlt hm2fz hst hlen (hr.back hbel hsub2 q2.fzlt hm2fz hnd) (fun h => by rw [hfo] at h; cases h) (fun _ _ b => Iff.rfl) (fun r p nd hn hi => (hnd r p nd hn hi).1)
       by_cases hfree : xs.all AV.free = true
       ·have hno : rootsL xs = [] := rootsL_nil (fun x hx => free_roots (List.all_eq_true.1 hfree x hx))
        rw [hfree, Bool.true_or, if_pos rfl] at hgive
        exact hfo4 σ.h hgive (HStep.refl _ _) rfl (fun r p nd hn hi => ⟨hn, by simp [X, hno]⟩)
       ·by_cases hflat : rs.all AV.flats = true
        ·rw [hflat, Bool.or_true, if_pos rfl] at hgive
         refine main σ.h m.fz hgive (fun _ h => h) (fun b hb => Nat.lt_of_lt_of_le (hr.fzlt b hb) hbel.size) (fun b hb => .inl (.inl hb)) (HStep.refl _ _) rfl
          (hr.back (X := fun _ => False) hbel (fun _ h => h) (fun b hb => Nat.lt_of_lt_of_le (hr.fzlt b hb) hbel.size) (fun b hb => .inl (.inl hb)) (fun r p nd hn hi => ⟨hn, id⟩)) (fun _ => ⟨hres4.1, fun j v c h1 h2 => ?_⟩) (fun _ h => by rw [hflat] at h; cases h) (fun r p nd hn hi => hn)
         rw [treeBL_map, List.getElem?_map] at h1
         cases hx' : rs[j]? with
         | none => simp [hx'] at h1
         | some x =>
           simp [hx'] at h1; subst h1
           exact .base _ _ (treeB_rel0 (flats_rel (q1.2 j x c hx' h2) (List.all_eq_true.1 hflat x (List.mem_of_getElem? hx'))))
        ·rw [if_neg (by simp only [Bool.not_eq_true] at hfree hflat; simp [hfree, hflat])] at hgive
         exact hfo4 _ hgive (dropRoots_step m σ.h _) (dropRoots_len _ _) (fun r p nd hn hi => dropRoots_node hn hi)
      ·cases hx
     ·cases hx
    ·-- shared
     split at hx
     ·rename_i rs σ1 hrun
      split at hx
      ·rename_i v1 hf hgive
       simp only [Option.some.injEq, Prod.mk.injEq] at hx
       obtain ⟨rfl, rfl⟩ := hx
       obtain ⟨m1, w1, cs, q1, q2, q3, q4, q5, q6⟩ := hF f F xs σ.h σ.lp rs σ1 hg hrun hnp w0 fz0 m las w args hargs hs.rel hs.lps
       have hlen : (σ1.h.take σ.h.length).length = σ.h.length := by simp [q5]
       have hnode : ∀ r p nd, nodeAt (σ1.h.take σ.h.length) r p = some nd → r < σ.h.length ∧ nodeAt σ1.h r p = some nd := by
        intro r p nd hn
        obtain ⟨o, e, hnav⟩ := nodeAt_eq.1 hn
        have hlt := List.lt_of_some e
        rw [hlen] at hlt
        rw [List.getElem?_take_of_lt hlt] at e
        exact ⟨hlt, nodeAt_eq.2 ⟨o, e, hnav⟩⟩
       let X : Nat → Prop := fun r => σ.h.length ≤ r
       have main : ∀ (m3 : Mem), m3.blk = m1.blk → (∀ b, m1.fz b → m3.fz b) → Rel w0 fz0 m3 (σ1.h.take σ.h.length) w1 → (F.fo = false → VRels w1 m3.fz (RefR w1 m3 (σ1.h.take σ.h.length) (Lof las)) (treeBL σ.h.length σ1.h rs) cs) → (F.fo = true → m3.fz = m1.fz) →
        ∃ c w' m', Sim P w0 fz0 B m' las { t := σ.t, h := hf, lp := σ1.lp } a w' ∧ ({ t := σ.t, h := hf, lp := σ1.lp } : St).t = σ.t ∧ Ev m σ.h w m' hf w' ∧ hf.length = σ.h.length ∧ VRel w' m'.fz (RefR w' m' hf (Lof las)) v1 c ∧ Lands P f args w c w' := by
        intro m3 i1 i2 i3 i4 i5
        obtain ⟨m5, r1, r2, r3, r4⟩ := give_sound (L := Lof las) q2 q1 hgive i3 i4
         (fun hfo _ => ⟨i2, fun r nd hBr hn hi => by
           have hlo := q2.lo r [] nd hn hi
           refine ⟨⟨hlo.1, by rw [i5 hfo]; exact hlo.2⟩, fun r2 p2 nd2 hn2 hi2 e => ?_⟩
           obtain ⟨h1, h2⟩ := hnode r2 p2 nd2 hn2
           rw [i1] at e
           have := (q2.inj _ _ _ _ _ _ h2 hi2 hn hi e).1
           omega⟩)
        have hst0 : HStep m m3 σ.h (σ1.h.take σ.h.length) := by
         have := q4.st.cut σ.h.length
         rw [List.take_length] at this
         intro r o ho
         obtain ⟨o', ho', hst⟩ := this r o ho
         refine ⟨o', ho', ?_⟩
         unfold OStep at hst ⊢
         rw [i1]; exact hst
        have hev0 : Ev m σ.h w m3 (σ1.h.take σ.h.length) w1 := ⟨hst0, q4.cel, q4.map, q4.fk, fun b hb => i2 b (q4.fz b hb), q4.dfr, q4.sz⟩
        have hev := hev0.trans r2
        have hl3 : Lps P w0 m3 las (σ1.h.take σ.h.length) w1 σ1.lp := by
         refine ⟨q3.len, q3.nd, fun l la top x h1 h2 => ?_⟩
         obtain ⟨g1, g0, r, g2, g3⟩ := q3.ok l la top x h1 h2
         have hlt : l < σ.lp.length := by rw [← hs.lps.len]; exact List.lt_of_some h1
         obtain ⟨_, k0, _⟩ := hs.lps.ok l la top _ h1 (List.getElem?_eq_getElem hlt)
         refine ⟨g1, by rw [hlen]; exact k0, r, g2, ?_⟩
         have e1 : (σ1.h.take σ.h.length).take top = σ1.h.take top := by rw [List.take_take, Nat.min_eq_left k0]
         rw [e1]
         have hev1 : Ev m1 (σ1.h.take top) w1 m3 (σ1.h.take top) w1 := by
          refine ⟨?_, (WKeep.refl w1).1, (WKeep.refl w1).2.1, FKeep.refl _ _, i2, fun _ _ h => h, Nat.le_refl _⟩
          intro r o ho
          refine ⟨o, ho, ?_⟩
          have := OStep.refl m1 r o
          unfold OStep at this ⊢
          rw [i1]; exact this
         exact g3.ev hev1
        exact ⟨packC cs, w1, m5, ⟨hs.tr.ev hev (fun _ _ h => h), r1, hl3.ev' r2 (fun _ _ _ => rfl), hs.dfs.keep hev.dfr, hs.bs.1, Nat.le_trans hs.bs.2 hev.sz⟩, rfl, hev, r3.trans hlen, r4, q6⟩
       cases hfo : F.fo with
       | false =>
         refine main (m1.freeze σ1.h X) rfl (fun b hb => .inl hb) (q2.freeze X (fun r p nd hn hi => ⟨(hnode r p nd hn).2, by have := (hnode r p nd hn).1; simp only [X]; omega⟩)) (fun _ => ?_) (fun h => by rw [hfo] at h; cases h)
         exact tree_rels q2 (fun v c hi hlt hex hr => RefR.take (m' := m1.freeze σ1.h X) rfl hi hlt hex hr) q1 (fun r _ => by rcases Nat.lt_or_ge r σ.h.length with h | h; exact .inl h; exact .inr h)
       | true =>
         exact main m1 rfl (fun _ h => h) (q2.congr (fun r p nd hn hi => (hnode r p nd hn).2)) (fun h => by rw [hfo] at h; cases h) (fun _ => rfl)
      ·cases hx
     ·cases hx
   ·cases hx
end
end Go.Mw
/- Soundness: rounds. -/
namespace Go.Mw
open Go.RowKit
section
variable {P : Program} {w0 : World} {fz0 : Nat → Prop} {B : Nat} {m m' : Mem} {w w' : World} {las : Las} {h h' : List Ob} {σ σ' : St} {a : Act}
theorem TR.kill {L : Nat → Nat → Prop} {ts : Array Value} : ∀ (ks : List Nat) (t : List AV), TR w m h L t ts → TR w m h L (kill ks t) ts := by
 intro ks
 induction ks with
 | nil => intro t ht; exact ht
 | cons k ks ih =>
   intro t ht
   unfold Go.Mw.kill
   rw [List.foldl_cons]
   refine ih _ ⟨by simpa using ht.size, fun i v c hv hc => ?_⟩
   by_cases e : k = i
   ·subst e
    have hlt : k < t.length := by have := List.lt_of_some hv; simpa using this
    rw [List.getElem?_set_self hlt] at hv
    cases hv; exact .base _ _ (.undef _)
   ·rw [List.getElem?_set_ne e] at hv
    exact ht.rel i v c hv hc
theorem TR.setPs {L : Nat → Nat → Prop} : ∀ (ps : List Nat) (xs : List AV) (cs : List Value) (t : List AV) (ts : Array Value), VRels w m.fz (RefR w m h L) xs cs → TR w m h L t ts →
 TR w m h L (setPs ps xs t) ((ps.zip cs).foldl (fun ts (p : Nat × Value) => ts.setIfInBounds p.1 p.2) ts) := by
 intro ps
 induction ps with
 | nil => intro xs cs t ts _ ht; cases xs <;> exact ht
 | cons p ps ih =>
   intro xs cs t ts hv ht
   match xs, cs, hv.1 with
   | [], [], _ => exact ht
   | x :: xs, c :: cs, hl =>
     simp only [Go.Mw.setPs, List.zip_cons_cons, List.foldl_cons]
     exact ih xs cs _ _ ⟨by simpa using hl, fun j v c' h1 h2 => hv.2 (j + 1) v c' (by simpa using h1) (by simpa using h2)⟩ (ht.put (hv.2 0 x c rfl rfl) p)
theorem freeSites_ev (base : Nat) (ks : List Nat) : Ev m h w m (freeSites base ks h) w :=
 ⟨dropRoots_step m h _, (WKeep.refl w).1, (WKeep.refl w).2.1, FKeep.refl _ _, fun _ h => h, fun _ _ h => h, Nat.le_refl _⟩
theorem Rel.freeSites (hr : Rel w0 fz0 m h w) (base : Nat) (ks : List Nat) : Rel w0 fz0 m (freeSites base ks h) w :=
 hr.congr (fun r p nd hn hi => (dropRoots_node hn hi).1)
theorem cut_ev (t : Nat) : Ev m (h.take t) w m h w := by
 refine ⟨fun r o ho => ?_, (WKeep.refl w).1, (WKeep.refl w).2.1, FKeep.refl _ _, fun _ h => h, fun _ _ h => h, Nat.le_refl _⟩
 have hlt : r < t := by have := List.lt_of_some ho; simp at this; omega
 rw [List.getElem?_take_of_lt hlt] at ho
 exact ⟨o, ho, OStep.refl _ _ _⟩
theorem Lof.mono {las : Las} {l l' la : Nat} (h : Lof (las.take l) l' la) : Lof las l' la := by
 obtain ⟨top, h⟩ := h
 have hlt : l' < l := by have := List.lt_of_some h; simp at this; omega
 rw [List.getElem?_take_of_lt hlt] at h
 exact ⟨top, h⟩
theorem Lps.setRec {lp : List Lp} (hl : Lps P w0 m las h w lp) {l la top : Nat} {x x' : Lp} {r r' : Loop} (h1 : las[l]? = some (la, top)) (h2 : lp[l]? = some x) (h3 : w.heap[la]? = some (.loop r)) (h4 : RecOk P w m (h.take top) (las.take l) x' r') :
 Lps P w0 m las h (w.putObj la (.loop r')) (lp.set l x') := by
 have hlt := (Array.getElem?_eq_some_iff.1 h3).1
 refine ⟨by simp [hl.len], hl.nd, fun l2 la2 top2 y e1 e2 => ?_⟩
 have hev : ∀ t, Ev m (h.take t) w m (h.take t) (w.putObj la (.loop r')) := fun t => (putRec_ev (m := m) (h := h) h3).cut t
 by_cases e : l = l2
 ·subst e
  rw [h1] at e1; cases e1
  rw [List.getElem?_set_self (List.lt_of_some h2)] at e2; cases e2
  obtain ⟨g1, g0, _⟩ := hl.ok l la top x h1 h2
  exact ⟨g1, g0, r', World.putObj_heap_same hlt, h4.ev (hev top)⟩
 ·rw [List.getElem?_set_ne e] at e2
  obtain ⟨g1, g0, r2, g2, g3⟩ := hl.ok l2 la2 top2 y e1 e2
  have hne : la2 ≠ la := by
   intro e3
   have e4 : (las.map (·.1))[l]? = some la := by rw [List.getElem?_map, h1]; rfl
   have e5 : (las.map (·.1))[l2]? = some la := by rw [List.getElem?_map, e1, ← e3]; rfl
   have hl1 := List.lt_of_some e4
   exact e ((List.getElem?_inj hl1 hl.nd).1 (e4.trans e5.symm))
  exact ⟨g1, g0, r2, by rw [World.putObj_heap_other hne]; exact g2, g3.ev (hev top2)⟩
theorem jump_of (e : Ex) : (jumpE e).bind jumpOf = jumpOf e := by cases e <;> rfl
theorem jump_none (e : Ex) : (jumpOf e).isNone = (jumpE e).isNone := by cases e <;> rfl
theorem yieldF_sound {G : Prg} {n : Nat} (hC : CodeS P (evC G n)) : YieldS P (yieldF G (n + 1)) := by
 intro l xs σ v σ' hx w0 fz0 B m las a w args la hs hargs hla
 obtain ⟨top, hla⟩ := hla
 simp only [yieldF] at hx
 cases hlp : σ.lp[l]? with
 | none => simp [hlp] at hx
 | some lp =>
   simp only [hlp] at hx
   split at hx
   ·rename_i hc
    obtain ⟨hb, hp, hn⟩ := hc
    obtain ⟨g1, g0, r, g2, g3⟩ := hs.lps.ok l la top lp hla hlp
    obtain ⟨sm, hasg, hbody⟩ := g3.asg
    split at hx
    ·rename_i σ1 hev1
     split at hx
     ·rename_i lp1 hlp1
      split at hx
      ·rename_i hc1
       split at hx
       ·rename_i e σ2 hev2
        split at hx
        ·rename_i lp2 hlp2
         simp only [Option.some.injEq, Prod.mk.injEq] at hx
         obtain ⟨rfl, rfl⟩ := hx
         -- the assignments
         have hsz : args.size = r.params.size := by
          have e1 : args.size = xs.length := by rw [← hargs.1]; simp
          have e2 : r.params.size = lp.ps.length := by rw [← g3.ps]; simp
          omega
         let ts : Array Value := (r.params.zip args).foldl (fun tmps (t, a) => tmps.setIfInBounds t a) r.tmps
         have hy : (Instr.yield la args).run P w = .ok (.round la r.fn ts r.assign r.body) w := run_yield g2 hsz
         let b : Frame := { (default : Frame) with fn := r.fn, kind := .normal, roundOf := some la }
         have hfr : Frame.round la r.fn ts r.assign r.body .normal = b.atR { tmps := ts, defers := [] } [.code r.assign, .beginRound, .code r.body] := by
          simp [Frame.round, Frame.atR, b]
         have hfev : Ev m σ.h w m (freeSites lp.base lp.ks σ.h) w := freeSites_ev _ _
         have htr0 : TR w m (freeSites lp.base lp.ks σ.h) (Lof las) (setPs lp.ps xs (kill lp.kt lp.t)) ts := by
          have t1 : TR w m σ.h (Lof las) (kill lp.kt lp.t) r.tmps := TR.kill _ _ (g3.tr.ev (cut_ev top) (fun _ _ h => h.mono))
          have t2 := (TR.setPs lp.ps xs args.toList _ _ hargs t1).ev hfev (fun _ _ h => h)
          have e1 : ts = (lp.ps.zip args.toList).foldl (fun ts (p : Nat × Value) => ts.setIfInBounds p.1 p.2) r.tmps := by
           simp only [ts]
           rw [← Array.foldl_toList, Array.toList_zip, g3.ps]
          rw [e1]; exact t2
         have hs0 : Sim P w0 fz0 w.heap.size m las { t := setPs lp.ps xs (kill lp.kt lp.t), h := freeSites lp.base lp.ks σ.h, lp := σ.lp } { tmps := ts, defers := [] } w :=
          ⟨htr0, hs.rel.freeSites _ _, hs.lps.ev' hfev (fun _ _ _ => rfl), ⟨[], rfl, List.nodup_nil, fun D hD => by cases hD⟩, hs.rel.below.size, Nat.le_refl _⟩
         have hro : RoundOk b las := fun la' h => by
          have : la = la' := by simpa [b] using h
          exact ⟨l, top, by rw [← this]; exact hla⟩
         obtain ⟨a1, w1, m1, s1, e1, l1, go1⟩ := hC lp.asg lp.base _ .nrm σ1 hev1 sm r.assign hasg w0 fz0 _ m las _ w hs0 b hro
         -- the round begins
         obtain ⟨k1, k0, r1, k2, k3⟩ := s1.lps.ok l la top lp1 hla hlp1
         have hst1 : r1.state = .ready := by rw [k3.st, hc1.1, hc1.2]; rfl
         have hbr := run_beginRound (P := P) k2 hst1
         have hev1' := putRec_ev (m := m1) (h := σ1.h) (r' := { r1 with state := .busy }) k2
         have hs1 : Sim P w0 fz0 w.heap.size m1 las { σ1 with lp := σ1.lp.set l { lp1 with busy := true } } a1 (w1.putObj la (.loop { r1 with state := .busy })) := by
          refine ⟨s1.tr.ev hev1' (fun _ _ h => h), s1.rel.putRec k2 rfl k1, s1.lps.setRec hla hlp1 k2 ⟨k3.asg, k3.ps, k3.tr, rfl, (fun h => by cases h), k3.pn⟩, s1.dfs.keep hev1'.dfr, s1.bs.1, Nat.le_trans s1.bs.2 hev1'.sz⟩
         obtain ⟨a2, w2, m2, s2, e2, l2, go2⟩ := hC lp.body lp.base _ e σ2 hev2 sm r.body hbody w0 fz0 _ m1 las a1 _ hs1 b hro
         -- its end
         obtain ⟨q1, q0, r2, q2, q3⟩ := s2.lps.ok l la top lp2 hla hlp2
         have her := run_endRound (P := P) (jumpOf e) q2
         have hev3 := putRec_ev (m := m2) (h := σ2.h) (r' := { r2 with state := if (jumpOf e).isNone then .ready else .done, pending := jumpOf e }) q2
         have hev : Ev m σ.h w m2 σ2.h _ := hfev.trans (e1.trans (hev1'.trans (e2.trans hev3)))
         refine ⟨.bool (jumpOf e).isNone, _, m2, ⟨hs.tr.ev hev (fun _ _ h => h), s2.rel.putRec q2 rfl q1, s2.lps.setRec hla hlp2 q2 ⟨q3.asg, q3.ps, q3.tr, ?_, fun _ => (jump_of e).symm, ?_⟩, hs.dfs.keep hev.dfr, hs.bs.1, Nat.le_trans hs.bs.2 hev.sz⟩, rfl, hev, ?_, ?_, r.fn, ts, r.assign, r.body, hy, fun c0 cs => ?_⟩
         ·simp [jump_none]
         ·cases e <;> simp [jumpE]
         ·exact l2.trans (l1.trans (dropRoots_len _ _))
         ·rw [jump_none]; exact .base _ _ (.bool _)
         ·have g := go1 [.beginRound, .code r.body] (c0 :: cs)
          rw [← hfr] at g
          refine Steps.trans g (.head (stepR_beginRound rfl hbr) ?_)
          have g2 := go2 [] (c0 :: cs)
          cases e with
          | nrm => exact Steps.trans g2 (.one (stepR_round_end rfl rfl her))
          | ret =>
            obtain ⟨kk, g2⟩ := g2
            exact g2.trans (.one (stepR_round_ret rfl rfl her))
          | ext id =>
            obtain ⟨kk, hx, g2⟩ := g2
            exact g2.trans (.one (stepR_round_exit rfl rfl (by rw [hx]; rfl) her))
        ·cases hx
       ·cases hx
      ·cases hx
     ·cases hx
    ·cases hx
   ·cases hx
end
end Go.Mw
