/- Steps of the machine at an operation. -/
import Derived.Test.YteookcnimfaelaaM08
set_option linter.unusedVariables false
set_option linter.unusedSimpArgs false
namespace Go.Mw
open Go.RowKit
section
variable {P : Program} {b : Frame} {a : Act} {k : List Item} {cs : List Frame} {w w' : World} {ops : Array Oper} {i : Nat} {rest : List Nat} {o : Oper}
theorem fin_atR (ho : ops[i]? = some o) (v : Value) : (b.atR a (.inRegion ops (i :: rest) :: k)).finish v = b.atR (a.put o.dst v) (.inRegion ops rest :: k) := by
 rw [Frame.finish_atR, ho]; rfl
theorem step_value {v : Value} (ho : ops[i]? = some o) (hw : Region.wanted o (yielded ops a.tmps) = true) (hd : ∀ c, o.op ≠ .defer c) (hr : (execOp a.eval o).run P w = .ok (.value v) w') :
 step P (lone (b.atR a (.inRegion ops (i :: rest) :: k)) cs w) = .next (lone (b.atR (a.put o.dst v) (.inRegion ops rest :: k)) cs w') := by
 refine step_lone_go ?_
 rw [stepGR_op ho hw, Oper.semAt_eq _ _ _ hd, ← fin_atR (b := b) (k := k) (rest := rest) ho]
 simp [stepG.apply, hr]
theorem step_skipv (ho : ops[i]? = some o) (hw : Region.wanted o (yielded ops a.tmps) = true) (hd : ∀ c, o.op ≠ .defer c) (hr : (execOp a.eval o).run P w = .ok .skip w') :
 step P (lone (b.atR a (.inRegion ops (i :: rest) :: k)) cs w) = .next (lone (b.atR (a.put o.dst undef) (.inRegion ops rest :: k)) cs w') := by
 refine step_lone_go ?_
 rw [stepGR_op ho hw, Oper.semAt_eq _ _ _ hd, ← fin_atR (b := b) (k := k) (rest := rest) ho]
 simp [stepG.apply, hr]
theorem step_enter {f : FuncId} {args : Array Value} (ho : ops[i]? = some o) (hw : Region.wanted o (yielded ops a.tmps) = true) (hd : ∀ c, o.op ≠ .defer c) (hr : (execOp a.eval o).run P w = .ok (.enter f args) w') :
 step P (lone (b.atR a (.inRegion ops (i :: rest) :: k)) cs w) = .next (lone (Frame.enter P f args .normal) (b.atR a (.inRegion ops (i :: rest) :: k) :: cs) w') := by
 refine step_lone_go ?_
 rw [stepGR_op ho hw, Oper.semAt_eq _ _ _ hd]
 simp [stepG.apply, hr, Frame.atR]
theorem step_round {l f : Nat} {tmps : Array Value} {asg body : Code} (ho : ops[i]? = some o) (hw : Region.wanted o (yielded ops a.tmps) = true) (hd : ∀ c, o.op ≠ .defer c) (hr : (execOp a.eval o).run P w = .ok (.round l f tmps asg body) w') :
 step P (lone (b.atR a (.inRegion ops (i :: rest) :: k)) cs w) = .next (lone (Frame.round l f tmps asg body .normal) (b.atR a (.inRegion ops (i :: rest) :: k) :: cs) w') := by
 refine step_lone_go ?_
 rw [stepGR_op ho hw, Oper.semAt_eq _ _ _ hd]
 simp [stepG.apply, hr, Frame.atR]
theorem step_unwanted (ho : ops[i]? = some o) (hw : Region.wanted o (yielded ops a.tmps) = false) :
 step P (lone (b.atR a (.inRegion ops (i :: rest) :: k)) cs w) = .next (lone (b.atR (a.put o.dst undef) (.inRegion ops rest :: k)) cs w) := by
 have := stepR_op_skip (P := P) (b := b) (a := a) (k := k) (cs := cs) (w := w) (ops := ops) (i := i) (rest := rest) (by simp [ho, hw])
 rw [ho] at this
 exact this
end
section
variable {P : Program} {w0 : World} {fz0 : Nat → Prop} {B : Nat} {m m' : Mem} {w w' : World} {las : Las} {h h' : List Ob} {σ : St} {a : Act}
theorem VRel.ev {L L' : Nat → Nat → Prop} (he : Ev m h w m' h' w') (hL : ∀ l la, L l la → L' l la) {v : AV} {c : Value} (hv : VRel w m.fz (RefR w m h L) v c) : VRel w' m'.fz (RefR w' m' h' L') v c :=
 hv.mono he.fk he.fz (fun v c hr => RefR.mono0 ⟨he.cel, he.map⟩ he.st hL hr)
theorem TR.ev {L L' : Nat → Nat → Prop} (he : Ev m h w m' h' w') (hL : ∀ l la, L l la → L' l la) {t : List AV} {ts : Array Value} (ht : TR w m h L t ts) : TR w' m' h' L' t ts :=
 ⟨ht.size, fun i v c hv hc => (ht.rel i v c hv hc).ev he hL⟩
theorem TR.put {L : Nat → Nat → Prop} {t : List AV} {ts : Array Value} (ht : TR w m h L t ts) {v : AV} {c : Value} (hv : VRel w m.fz (RefR w m h L) v c) (d : Nat) : TR w m h L (t.set d v) (ts.setIfInBounds d c) := by
 refine ⟨by simp [ht.size], fun i x y hx hy => ?_⟩
 by_cases e : d = i
 ·subst e
  have hd : d < t.length := by
   have := List.lt_of_some hx; simpa using this
  rw [List.getElem?_set_self hd] at hx
  rw [Array.getElem?_setIfInBounds_self, if_pos (by rw [ht.size]; exact hd)] at hy
  cases hx; cases hy; exact hv
 ·rw [List.getElem?_set_ne e] at hx
  rw [Array.getElem?_setIfInBounds_ne e] at hy
  exact ht.rel i x y hx hy
theorem TR.putO {L : Nat → Nat → Prop} (ht : TR w m σ.h L σ.t a.tmps) {v : AV} {c : Value} (hv : VRel w m.fz (RefR w m σ.h L) v c) (d : Option Nat) : TR w m (σ.put d v).h L (σ.put d v).t (a.put d c).tmps := by
 cases d with
 | none => exact ht
 | some d => exact ht.put hv d
theorem put_h (σ : St) (d : Option Nat) (v : AV) : (σ.put d v).h = σ.h := by cases d <;> rfl
theorem put_lp (σ : St) (d : Option Nat) (v : AV) : (σ.put d v).lp = σ.lp := by cases d <;> rfl
theorem Act.put_defs (a : Act) (d : Option Nat) (v : Value) : (a.put d v).defers = a.defers := by cases d <;> rfl
theorem Sim.put (hs : Sim P w0 fz0 B m las σ a w) {v : AV} {c : Value} (hv : VRel w m.fz (RefR w m σ.h (Lof las)) v c) (d : Option Nat) : Sim P w0 fz0 B m las (σ.put d v) (a.put d c) w := by
 refine ⟨hs.tr.putO hv d, by rw [put_h]; exact hs.rel, by rw [put_h, put_lp]; exact hs.lps, by rw [Act.put_defs]; exact hs.dfs, hs.bs⟩
theorem undef_rel {R : AV → Value → Prop} {fz : Nat → Prop} : VRel w fz R (.tup []) undef := .base _ _ (.tup _ _ rfl (fun j c v h => by simp at h))
theorem wanted_rel {L : Nat → Nat → Prop} (ht : TR w m σ.h L σ.t a.tmps) {ops : Array Oper} {o : Oper} {g : Option (Nat × Bool)} (hg : compG ops o.guard = some g) {b : Bool} (hw : wantedO g σ = some b) : Region.wanted o (yielded ops a.tmps) = b := by
 unfold Region.wanted
 cases hgo : o.guard with
 | none => simp [compG, hgo] at hg; subst hg; simp [wantedO] at hw; simp [hw]
 | some jw =>
   obtain ⟨j, want⟩ := jw
   simp only [compG, hgo] at hg
   cases hd : (ops[j]?).bind (·.dst) with
   | none => simp [hd] at hg
   | some t =>
     simp [hd] at hg
     subst hg
     simp only [wantedO] at hw
     cases ht1 : σ.t[t]? with
     | none => simp [ht1] at hw
     | some x =>
       have hlt : t < a.tmps.size := by rw [ht.size]; exact List.lt_of_some ht1
       have hr := ht.rel t x _ ht1 (Array.getElem?_eq_getElem hlt)
       simp only [yielded, hd, Option.bind_some, Array.getElem?_eq_getElem hlt]
       simp only [ht1] at hw
       split at hw
       ·rename_i b0 e; cases e
        rw [hr.inv_bool]
        simp at hw ⊢; exact hw
       ·rename_i e; cases e
        simp at hw; subst hw
        generalize a.tmps[t] = c0 at hr ⊢
        have : ∃ vs : Array Value, c0 = .tuple vs := by
         cases hr with
         | base _ _ h => cases h; exact ⟨_, rfl⟩
         | tup _ _ => exact ⟨_, rfl⟩
         | ref _ _ h => cases h
        obtain ⟨vs, rfl⟩ := this
        simp
       ·cases hw
theorem Lps.ev {lp : List Lp} (hl : Lps P w0 m las h w lp) (hk : WKeep w w') (hs : HStep m m' h h') (hf : FKeep w w' m.fz) (hz : ∀ b, m.fz b → m'.fz b) : Lps P w0 m' las h' w' lp := by
 refine ⟨hl.len, hl.nd, fun l la top x h1 h2 => ?_⟩
 obtain ⟨g1, g0, r, g2, g3⟩ := hl.ok l la top x h1 h2
 exact ⟨g1, Nat.le_trans g0 hs.len, r, hk.2.2.1 _ _ g2 rfl, ⟨g3.asg, g3.ps, g3.tr.ev ((Ev.of_keep hs hk hf hz).cut top) (fun _ _ h => h), g3.st, g3.pe, g3.pn⟩⟩
theorem Dfs.keep {ds : List Deferred} (hd : Dfs B w ds) (hk : ∀ (b : Nat) (ds : Option (List Deferred)), w.heap[b]? = some (.deferred ds) → w'.heap[b]? = some (.deferred ds)) : Dfs B w' ds := by
 obtain ⟨Ds, h1, h2, h3⟩ := hd
 exact ⟨Ds, h1, h2, fun D hD => ⟨(h3 D hD).1, hk _ _ (h3 D hD).2⟩⟩
theorem compI_nodefer {sm : List Nat} {o : Oper} {i : Ins} (h : compI P sm o = some i) : ∀ c, o.op ≠ .defer c := by
 intro c hc
 simp [compI, hc] at h
theorem ax_sound (hs : Sim P w0 fz0 B m las σ a w) {sm : List Nat} {o : Oper} {i : Ins} {b : Nat} {v : AV} {h' : List Ob} (hc : compI P sm o = some i) (hx : ax b i σ = some (v, h')) :
 ∃ (c : Value) (w' : World) (m' : Mem), (∀ (fr : Frame) (ops : Array Oper) (j : Nat) (rest : List Nat) (k : List Item) (cs : List Frame), ops[j]? = some o → Region.wanted o (yielded ops a.tmps) = true →
     Steps P (lone (fr.atR a (.inRegion ops (j :: rest) :: k)) cs w) (lone (fr.atR (a.put o.dst c) (.inRegion ops rest :: k)) cs w')) ∧
  Sim P w0 fz0 B m' las { σ with h := h' } a w' ∧ Ev m σ.h w m' h' w' ∧ h'.length = σ.h.length ∧ VRel w' m'.fz (RefR w' m' h' (Lof las)) v c := by
 obtain ⟨c, w', m', hrun, hr, hst, hk, hf, hz, hl, hv⟩ := op_sound hs.tr hs.rel hc hx
 have hev := Ev.of_keep hst hk hf hz
 refine ⟨c, w', m', fun fr ops j rest k cs ho hw => ?_, ⟨hs.tr.ev hev (fun _ _ h => h), hr, hs.lps.ev hk hst hf hz, hs.dfs.keep hev.dfr, hs.bs.1, Nat.le_trans hs.bs.2 hev.sz⟩, hev, hl, hv⟩
 rcases hrun with hrun | ⟨hrun, rfl⟩
 ·exact .one (step_value ho hw (compI_nodefer hc) hrun)
 ·exact .one (step_skipv ho hw (compI_nodefer hc) hrun)
end
end Go.Mw
/- The heap at calls and at loops. -/
namespace Go.Mw
open Go.RowKit
section
variable {P : Program} {w0 : World} {fz0 : Nat → Prop} {m m' : Mem} {w w' : World} {las : Las} {h h' : List Ob} {σ : St} {a : Act}
theorem not_rec_cells {w : World} {m : Mem} {r : Nat} {p : Path} {nd : AV} (hn : NodeF w m r p nd) (hi : isNode nd = true) {la : Nat} {o : Obj} (ho : w.heap[la]? = some o) (hr : isRec o = true) : (m.blk r p).1 ≠ la := by
 intro e
 cases nd <;> cases hi
 ·obtain ⟨_, arr, ty, h1, _⟩ := hn
  rw [e, ho] at h1; cases h1; cases hr
 ·obtain ⟨ents, clock, h1, _⟩ := hn
  rw [e, ho] at h1; cases h1; cases hr
theorem Rel.putRec (hr : Rel w0 fz0 m h w) {la : Nat} {o o' : Obj} (ho : w.heap[la]? = some o) (hrec : isRec o = true) (hla : w0.heap.size ≤ la) : Rel w0 fz0 m h (w.putObj la o') := by
 have hoth : ∀ k, k ≠ la → (w.putObj la o').heap[k]? = w.heap[k]? := fun k hk => World.putObj_heap_other hk
 refine hr.keep rfl (hr.below.trans ⟨rfl, rfl, rfl, by simp, fun k hk => hoth k (by omega)⟩) (by simp) (fun r p nd hn hi => hoth _ (not_rec_cells (hr.nodes r p nd hn) hi ho hrec)) (fun r p nd hn hi => hr.lo r p nd hn hi) ⟨fun b arr ty hb => ?_, fun b en ck hb => ?_⟩ ?_ (fun _ h => h)
  (fun b hb => by have := hr.fzlt b hb; simpa using this) hr.fzin hr.fzge
 ·have hne : b ≠ la := fun e => by subst e; rw [ho] at hb; cases hb; cases hrec
  exact ⟨arr, by rw [hoth b hne]; exact hb, rfl⟩
 ·have hne : b ≠ la := fun e => by subst e; rw [ho] at hb; cases hb; cases hrec
  exact ⟨en, ck, by rw [hoth b hne]; exact hb, fun i e he => ⟨e, he, rfl⟩⟩
 ·intro b oo v hb hc
  by_cases e : b = la
  ·subst e
   exfalso
   unfold World.cell? at hc
   simp only [ho] at hc
   cases o <;> first | (exact absurd hc (by intro hc; cases hc)) | cases hrec
  ·exact (World.cell?_of_block (a := ⟨b, oo, none⟩) (hoth b e)).trans hc
theorem putRec_ev {la : Nat} {r r' : Loop} (ho : w.heap[la]? = some (.loop r)) : Ev m h w m h (w.putObj la (.loop r')) := by
 have hoth : ∀ k, k ≠ la → (w.putObj la (.loop r')).heap[k]? = w.heap[k]? := fun k hk => World.putObj_heap_other hk
 refine ⟨HStep.refl m h, fun b arr ty hb => ?_, fun b en ck hb => ?_, fun b oo v hb hc => ?_, fun _ h => h, fun b ds hb => ?_, by simp⟩
 ·have hne : b ≠ la := fun e => by subst e; rw [ho] at hb; cases hb
  exact ⟨arr, by rw [hoth b hne]; exact hb, rfl⟩
 ·have hne : b ≠ la := fun e => by subst e; rw [ho] at hb; cases hb
  exact ⟨en, ck, by rw [hoth b hne]; exact hb, fun i e he => ⟨e, he, rfl⟩⟩
 ·by_cases e : b = la
  ·subst e
   exfalso
   unfold World.cell? at hc
   simp [ho] at hc
  ·exact (World.cell?_of_block (a := ⟨b, oo, none⟩) (hoth b e)).trans hc
 ·have hne : b ≠ la := fun e => by subst e; rw [ho] at hb; cases hb
  rw [hoth b hne]; exact hb
/-! ### What is frozen -/
def Blks (m : Mem) (h : List Ob) (X : Nat → Prop) (b : Nat) : Prop := ∃ r p nd, X r ∧ nodeAt h r p = some nd ∧ isNode nd = true ∧ (m.blk r p).1 = b
def Mem.freeze (m : Mem) (h : List Ob) (X : Nat → Prop) : Mem := { blk := m.blk, fz := fun b => m.fz b ∨ Blks m h X b }
theorem Rel.freeze (hr : Rel w0 fz0 m h w) (X : Nat → Prop) (ho : ∀ r p nd, nodeAt h' r p = some nd → isNode nd = true → nodeAt h r p = some nd ∧ ¬ X r) : Rel w0 fz0 (m.freeze h X) h' w := by
 have hc := hr.congr (h' := h') (fun r p nd hn hi => (ho r p nd hn hi).1)
 refine hc.keep rfl hr.below (Nat.le_refl _) (fun _ _ _ _ _ => rfl) (fun r p nd hn hi => ?_) (WKeep.refl w).zero (FKeep.refl w _) (fun b hb => .inl hb) ?_ (fun b hb => .inl (hr.fzin b hb)) ?_
 ·obtain ⟨h1, h2⟩ := ho r p nd hn hi
  have := hr.lo r p nd h1 hi
  refine ⟨this.1, fun hf => ?_⟩
  rcases hf with hf | ⟨r2, p2, nd2, hx, hn2, hi2, e⟩
  ·exact this.2 hf
  ·obtain ⟨e1, _⟩ := hr.inj r2 p2 nd2 r p nd hn2 hi2 h1 hi e
   subst e1; exact h2 hx
 ·rintro b (hb | ⟨r2, p2, nd2, hx, hn2, hi2, rfl⟩)
  ·exact hr.fzlt b hb
  ·exact (hr.nodes r2 p2 nd2 hn2).lt hi2
 ·rintro b (hb | ⟨r2, p2, nd2, hx, hn2, hi2, rfl⟩)
  ·exact hr.fzge b hb
  ·exact .inr (hr.lo r2 p2 nd2 hn2 hi2).1
theorem frz_one {c : AV} (h : c.one = true) : (frz c).one = true := by cases c <;> first | exact h | rfl | (simp [frz]; exact h)
theorem frzL_map : ∀ (xs : List AV), frzL xs = xs.map frz := by
 intro xs
 induction xs with
 | nil => rfl
 | cons x xs ih => simp [frzL, ih]
theorem frz_cells (e : AV) : (frz e).cells = e.cells.map frz := by
 cases e <;> simp [frz, AV.cells, frzL_map]
theorem frz_rel0 {fz : Nat → Prop} {c : AV} {v : Value} (h : VRel0 w fz c v) : VRel0 w fz (frz c) v := by
 induction h with
 | undef c => exact .undef c
 | bool b => exact .bool b
 | int k n => exact .int k n
 | str s => exact .str s
 | nilp => exact .nilp
 | nils => exact .lst0 none 0 (fun _ => rfl)
 | nilm => exact .nilm
 | nilf => exact .nilf
 | emp A => exact .lst0 A 0 (fun _ => rfl)
 | ne A cap => exact .lst0 (some A) cap (fun h => by cases h)
 | lstn => exact .lstn
 | lst xs A cap es vs hcap hfz hes hc hr ih => exact .lst xs A cap es vs hcap hfz hes hc hr
 | pfro cs A vs hfz hs hc hr ih => exact .pfro cs A vs hfz hs hc hr
 | fn f cs vs hl hr ih =>
   simp only [frz]
   refine .fn f _ vs (by simp [frzL_map, hl]) (fun j c v hc hv => ?_)
   simp only [frzL_map, List.getElem?_map] at hc
   cases hx : cs[j]? with
   | none => simp [hx] at hc
   | some x => simp [hx] at hc; subst hc; exact ih j x v hx hv
 | agg cs vs hl h1 hr ih =>
   simp only [frz]
   refine .agg _ vs (by simp [frzL_map, hl]) (fun j c v hc hv => ?_) (fun j c v hc hv => ?_) <;>
   ·simp only [frzL_map, List.getElem?_map] at hc
    cases hx : cs[j]? with
    | none => simp [hx] at hc
    | some x =>
      simp [hx] at hc; subst hc
      first
       | exact ⟨frz_one (h1 j x v hx hv).1, (h1 j x v hx hv).2⟩
       | exact ih j x v hx hv
 | tup cs vs hl hr ih => exact .tup cs vs hl hr
end
end Go.Mw
/- Owned rows as data. -/
namespace Go.Mw
open Go.RowKit
section
variable {P : Program} {w0 : World} {fz0 : Nat → Prop} {m m' : Mem} {w w' : World} {las : Las} {h h' : List Ob} {σ : St} {a : Act}
theorem cells_lt {e c : AV} {j : Nat} (h : e.cells[j]? = some c) : SizeOf.sizeOf c ≤ SizeOf.sizeOf e := by
 cases e <;> simp only [AV.cells] at h
 case agg cs =>
  have := List.sizeOf_lt_of_mem (List.mem_of_getElem? h)
  simp only [AV.agg.sizeOf_spec]; omega
 all_goals (rcases j with _ | j <;> simp at h; subst h; exact Nat.le_refl _)
theorem node_cell {es : Nat} {xs : List AV} {r : Nat} {q : Path} (hn : nodeAt h r q = some (.own es xs)) {i j : Nat} {e c : AV} (hi : xs[i]? = some e) (hj : e.cells[j]? = some c) : nodeAt h r (q ++ [(i, j)]) = some c :=
 nodeAt_app hn ((nav_cons ..).2 ⟨es, xs, e, c, rfl, hi, hj, nav_nil _⟩)
theorem cell_arr {b o : Nat} {arr : Array Value} {ty : TypeId} (hb : w.heap[b]? = some (.cells arr ty (0, 0))) : w.cell? ⟨b, o, none⟩ = arr[o]? := by
 simp [World.cell?, hb]
theorem row_lst (hr : Rel w0 fz0 m h w) {X : Nat → Prop} {es : Nat} {xs : List AV} {r : Nat} {q : Path} (hx : X r) (hn : nodeAt h r q = some (.own es xs))
 (ih : ∀ (i j : Nat) (e c : AV) (v : Value), xs[i]? = some e → e.cells[j]? = some c → CellR w m r (q ++ [(i, j)]) c v → VRel0 w (m.freeze h X).fz (frz c) v)
 {off len cap : Nat} {A : Addr} (hol : off + len ≤ xs.length) (hlc : len ≤ cap) (hA : cap = 0 ∨ A = ⟨(m.blk r q).1, (m.blk r q).2 + off * es, none⟩) :
 VRel0 w (m.freeze h X).fz (.lst (((xs.drop off).take len).map frz)) (.slice (some A) len cap) := by
 obtain ⟨hpos, arr, ty, ha, hcells⟩ := hr.nodes r q _ hn
 have hll : (((xs.drop off).take len).map frz).length = len := by simp; omega
 have hget : ∀ (i : Nat) (e : AV), (((xs.drop off).take len).map frz)[i]? = some e → i < len ∧ ∃ e0, xs[off + i]? = some e0 ∧ e = frz e0 := by
  intro i e hi
  have hlt := List.lt_of_some hi
  rw [hll] at hlt
  rw [List.getElem?_map, List.getElem?_take_of_lt hlt, List.getElem?_drop] at hi
  cases he : xs[off + i]? with
  | none => simp [he] at hi
  | some e0 => simp [he] at hi; exact ⟨hlt, e0, rfl, hi.symm⟩
 have key : ∀ (i : Nat) (e : AV) (j : Nat) (c : AV), (((xs.drop off).take len).map frz)[i]? = some e → e.cells[j]? = some c →
  A = ⟨(m.blk r q).1, (m.blk r q).2 + off * es, none⟩ ∧ j < es ∧ ∃ c0 v, c = frz c0 ∧ c0.one = true ∧ arr[(m.blk r q).2 + ((off + i) * es + j)]? = some v ∧ v.oneCell' = true ∧ VRel0 w (m.freeze h X).fz c v := by
  intro i e j c hi hj
  obtain ⟨hlt, e0, he0, rfl⟩ := hget i e hi
  rw [frz_cells, List.getElem?_map] at hj
  cases hc : e0.cells[j]? with
  | none => simp [hc] at hj
  | some c0 =>
    simp [hc] at hj; subst hj
    obtain ⟨k1, k2⟩ := hcells _ _ he0
    obtain ⟨k3, v, k4, k5, k6⟩ := k2 j c0 hc
    refine ⟨hA.resolve_left (by omega), by rw [← k1]; exact List.lt_of_some hc, c0, v, rfl, k3, k4, k5, ih _ _ _ _ _ he0 hc k6⟩
 have := VRel0.lst (w := w) (fz := (m.freeze h X).fz) (((xs.drop off).take len).map frz) A cap es (fun i j => (arr[(m.blk r q).2 + ((off + i) * es + j)]?).getD undef) (by rw [hll]; exact hlc) (fun h0 => ?_) (fun i e hi => ?_) (fun i e j c hi hj => ?_) (fun i e j c hi hj => ?_)
 ·rw [hll] at this; exact this
 ·rw [hll] at h0
  have := hA.resolve_left (by omega)
  rw [this]
  exact ⟨.inr ⟨r, q, _, hx, hn, rfl, rfl⟩, rfl⟩
 ·obtain ⟨hlt, e0, he0, rfl⟩ := hget i e hi
  rw [frz_cells, List.length_map]
  exact (hcells _ _ he0).1
 ·obtain ⟨eA, hjl, c0, v, rfl, k3, k4, k5, k6⟩ := key i e j c hi hj
  refine ⟨frz_one k3, by simp only [k4, Option.getD_some]; exact k5, ?_⟩
  rw [eA]
  simp only [cell_arr ha, k4, Option.getD_some]
  rw [← k4]; congr 1
  rw [Nat.add_mul]; omega
 ·obtain ⟨eA, hjl, c0, v, rfl, k3, k4, k5, k6⟩ := key i e j c hi hj
  simp only [k4, Option.getD_some]; exact k6
theorem frz_rel (hr : Rel w0 fz0 m h w) {X : Nat → Prop} : ∀ (n : Nat) (c : AV), SizeOf.sizeOf c ≤ n → ∀ (r : Nat) (q : Path) (v : Value), X r → nodeAt h r q = some c → CellR w m r q c v → VRel0 w (m.freeze h X).fz (frz c) v := by
 intro n
 induction n with
 | zero => intro c hc; exact absurd hc (by cases c <;> simp)
 | succ n ih =>
   intro c hc r q v hx hn hv
   have base : VRel0 w m.fz c v → VRel0 w (m.freeze h X).fz (frz c) v := fun h0 => frz_rel0 (h0.mono (fun _ _ _ _ h => h) (fun b hb => .inl hb))
   cases c
   case own es xs =>
    obtain ⟨A, cap, rfl, hlc, hA⟩ := hv
    have := row_lst hr (off := 0) (len := xs.length) (A := A) hx hn (fun i j e c v hi hj hcr => ih c (by
     have h1 := List.sizeOf_lt_of_mem (List.mem_of_getElem? hi)
     have h2 := cells_lt hj
     simp only [AV.own.sizeOf_spec] at hc
     omega) r _ v hx (node_cell hn hi hj) hcr) (by omega) hlc (hA.imp id (·.1))
    simpa [frz, frzL_map] using this
   case ownm es => exact .undef _
   case gone => exact .undef _
   all_goals exact base hv
theorem row_pfro (hr : Rel w0 fz0 m h w) {X : Nat → Prop} {es : Nat} {xs : List AV} {r : Nat} {q : Path} (hx : X r) (hn : nodeAt h r q = some (.own es xs)) {i j : Nat} {e : AV} (hi : xs[i]? = some e) :
 VRel0 w (m.freeze h X).fz (.pfro ((e.cells.drop j).map frz)) (.pointer (some ⟨(m.blk r q).1, (m.blk r q).2 + (i * es + j), none⟩)) := by
 obtain ⟨hpos, arr, ty, ha, hcells⟩ := hr.nodes r q _ hn
 obtain ⟨k1, k2⟩ := hcells i e hi
 have key : ∀ (t : Nat) (c : AV), ((e.cells.drop j).map frz)[t]? = some c → ∃ c0 v, c = frz c0 ∧ c0.one = true ∧ arr[(m.blk r q).2 + (i * es + (j + t))]? = some v ∧ v.oneCell' = true ∧ VRel0 w (m.freeze h X).fz c v := by
  intro t c hc
  rw [List.getElem?_map, List.getElem?_drop] at hc
  cases hc0 : e.cells[j + t]? with
  | none => simp [hc0] at hc
  | some c0 =>
    simp [hc0] at hc; subst hc
    obtain ⟨k3, v, k4, k5, k6⟩ := k2 _ c0 hc0
    exact ⟨c0, v, rfl, k3, k4, k5, frz_rel hr _ c0 (Nat.le_refl _) r _ v hx (node_cell hn hi hc0) k6⟩
 refine .pfro _ _ (fun t => (arr[(m.blk r q).2 + (i * es + (j + t))]?).getD undef) (.inr ⟨r, q, _, hx, hn, rfl, rfl⟩) rfl (fun t c hc => ?_) (fun t c hc => ?_)
 ·obtain ⟨c0, v, rfl, k3, k4, k5, k6⟩ := key t c hc
  refine ⟨frz_one k3, by simp only [k4, Option.getD_some]; exact k5, ?_⟩
  simp only [cell_arr ha, k4, Option.getD_some]
  rw [← k4]; congr 1; omega
 ·obtain ⟨c0, v, rfl, k3, k4, k5, k6⟩ := key t c hc
  simp only [k4, Option.getD_some]; exact k6
theorem tree_ref (hr : Rel w0 fz0 m h w) {X : Nat → Prop} {L : Nat → Nat → Prop} {v : AV} {c : Value} (hi : v.isRef = true) (hx : ∀ r ∈ rootsOf v, X r) (hv : RefR w m h L v c) : VRel0 w (m.freeze h X).fz (tree h v) c := by
 cases v <;> simp only [AV.isRef, Bool.false_eq_true] at hi
 case sl r st p ss off len =>
  simp only [tree]
  split
  ·rename_i es xs hn
   split
   ·rename_i hol
    obtain ⟨o, _, _, _, g4⟩ := hv
    obtain ⟨_, A, cap, rfl, hlc, hA⟩ := g4 _ _ hn
    exact row_lst hr (hx r (by simp [rootsOf])) (node_at hn) (fun i j e c v hi hj hcr => frz_rel hr _ c (Nat.le_refl _) r _ v (hx r (by simp [rootsOf])) (node_cell (node_at hn) hi hj) hcr) hol hlc (hA.imp id (·.1))
   ·exact .undef _
  ·exact .undef _
 case ptr r st p ss i j =>
  simp only [tree]
  split
  ·rename_i es xs hn
   split
   ·rename_i e he
    obtain ⟨o, _, _, _, g4⟩ := hv
    rw [g4 _ _ hn]
    exact row_pfro hr (hx r (by simp [rootsOf])) (node_at hn) he
   ·exact .undef _
  ·exact .undef _
 case mp => exact .undef _
 case ent => exact .undef _
 case yld => exact .undef _
theorem rootsL_mem {xs : List AV} {x : AV} {r : Nat} (hx : x ∈ xs) (hr : r ∈ rootsOf x) : r ∈ rootsL xs := by
 induction xs with
 | nil => cases hx
 | cons y ys ih =>
   simp only [rootsL, List.mem_append]
   rcases List.mem_cons.1 hx with rfl | h
   ·exact .inl hr
   ·exact .inr (ih h)
theorem treeBL_map (B : Nat) (h : List Ob) : ∀ (xs : List AV), treeBL B h xs = xs.map (treeB B h) := by
 intro xs
 induction xs with
 | nil => rfl
 | cons x xs ih => simp [treeBL, ih]
theorem treeB_rel0 {fz : Nat → Prop} {B : Nat} {h : List Ob} {c : AV} {v : Value} (hv : VRel0 w fz c v) : VRel0 w fz (treeB B h c) v := by
 induction hv with
 | undef c => exact .undef c
 | bool b => exact .bool b
 | int k n => exact .int k n
 | str s => exact .str s
 | nilp => exact .nilp
 | nils => exact .lst0 none 0 (fun _ => rfl)
 | nilm => exact .nilm
 | nilf => exact .nilf
 | emp A => exact .lst0 A 0 (fun _ => rfl)
 | ne A cap => exact .lst0 (some A) cap (fun h => by cases h)
 | lstn => exact .lstn
 | lst xs A cap es vs hcap hfz hes hc hr ih => exact .lst xs A cap es vs hcap hfz hes hc hr
 | pfro cs A vs hfz hs hc hr ih => exact .pfro cs A vs hfz hs hc hr
 | fn f cs vs hl hr ih =>
   simp only [treeB]
   refine .fn f _ vs (by simp [treeBL_map, hl]) (fun j c v hc hv => ?_)
   simp only [treeBL_map, List.getElem?_map] at hc
   cases hx : cs[j]? with
   | none => simp [hx] at hc
   | some x => simp [hx] at hc; subst hc; exact ih j x v hx hv
 | agg cs vs hl h1 hr ih =>
   simp only [treeB]
   have hone : ∀ x : AV, x.one = true → (treeB B h x).one = true := by
    intro x hx
    cases x <;> first | exact hx | rfl | (simp only [treeB]; split <;> first | rfl | (simp only [tree]; split <;> first | rfl | (split <;> rfl)))
   refine .agg _ vs (by simp [treeBL_map, hl]) (fun j c v hc hv => ?_) (fun j c v hc hv => ?_) <;>
   ·simp only [treeBL_map, List.getElem?_map] at hc
    cases hx : cs[j]? with
    | none => simp [hx] at hc
    | some x =>
      simp [hx] at hc; subst hc
      first
       | exact ⟨hone x (h1 j x v hx hv).1, (h1 j x v hx hv).2⟩
       | exact ih j x v hx hv
 | tup cs vs hl hr ih =>
   simp only [treeB]
   refine .tup _ vs (by simp [treeBL_map, hl]) (fun j c v hc hv => ?_)
   simp only [treeBL_map, List.getElem?_map] at hc
   cases hx : cs[j]? with
   | none => simp [hx] at hc
   | some x => simp [hx] at hc; subst hc; exact ih j x v hx hv
theorem treeB_one {B : Nat} {h : List Ob} {x : AV} (hx : x.one = true) : (treeB B h x).one = true := by
 cases x <;> first | exact hx | rfl | (simp only [treeB]; split <;> first | rfl | (simp only [tree]; split <;> first | rfl | (split <;> rfl)))
theorem treeB_rel (hr : Rel w0 fz0 m h w) {X : Nat → Prop} {L : Nat → Nat → Prop} {B : Nat} {R' : AV → Value → Prop}
 (hR : ∀ v c, v.isRef = true → (∀ r ∈ rootsOf v, r < B) → (∃ r, r ∈ rootsOf v) → RefR w m h L v c → R' v c) {v : AV} {c : Value} (hv : VRel w m.fz (RefR w m h L) v c) (hx : ∀ r ∈ rootsOf v, r < B ∨ X r) : VRel w (m.freeze h X).fz R' (treeB B h v) c := by
 induction hv with
 | base v c h0 => exact .base _ _ (treeB_rel0 (h0.mono (fun _ _ _ _ h => h) (fun b hb => .inl hb)))
 | fn f cs vs hl hr' ih =>
   simp only [treeB]
   refine .fn f _ vs (by simp [treeBL_map, hl]) (fun j c v hc hv => ?_)
   simp only [treeBL_map, List.getElem?_map] at hc
   cases hx' : cs[j]? with
   | none => simp [hx'] at hc
   | some x => simp [hx'] at hc; subst hc; exact ih j x v hx' hv (fun r hr => hx r (by simp only [rootsOf]; exact rootsL_mem (List.mem_of_getElem? hx') hr))
 | agg cs vs hl h1 hr' ih =>
   simp only [treeB]
   refine .agg _ vs (by simp [treeBL_map, hl]) (fun j c v hc hv => ?_) (fun j c v hc hv => ?_) <;>
   ·simp only [treeBL_map, List.getElem?_map] at hc
    cases hx' : cs[j]? with
    | none => simp [hx'] at hc
    | some x =>
      simp [hx'] at hc; subst hc
      first
       | exact ⟨treeB_one (h1 j x v hx' hv).1, (h1 j x v hx' hv).2⟩
       | exact ih j x v hx' hv (fun r hr => hx r (by simp only [rootsOf]; exact rootsL_mem (List.mem_of_getElem? hx') hr))
 | tup cs vs hl hr' ih =>
   simp only [treeB]
   refine .tup _ vs (by simp [treeBL_map, hl]) (fun j c v hc hv => ?_)
   simp only [treeBL_map, List.getElem?_map] at hc
   cases hx' : cs[j]? with
   | none => simp [hx'] at hc
   | some x => simp [hx'] at hc; subst hc; exact ih j x v hx' hv (fun r hr => hx r (by simp only [rootsOf]; exact rootsL_mem (List.mem_of_getElem? hx') hr))
 | ref v c hi hv =>
   cases v <;> simp only [AV.isRef, Bool.false_eq_true] at hi
   case sl r st p ss off len =>
    simp only [treeB]
    split
    ·rename_i hlt; exact .ref _ _ rfl (hR _ _ rfl (by simp [rootsOf, hlt]) ⟨r, by simp [rootsOf]⟩ hv)
    ·rename_i hge
     exact .base _ _ (tree_ref hr rfl (fun q hq => (hx q hq).resolve_left (by simp [rootsOf] at hq; subst hq; exact hge)) hv)
   case ptr r st p ss i j =>
    simp only [treeB]
    split
    ·rename_i hlt; exact .ref _ _ rfl (hR _ _ rfl (by simp [rootsOf, hlt]) ⟨r, by simp [rootsOf]⟩ hv)
    ·rename_i hge
     exact .base _ _ (tree_ref hr rfl (fun q hq => (hx q hq).resolve_left (by simp [rootsOf] at hq; subst hq; exact hge)) hv)
   case mp r st p ss =>
    simp only [treeB]
    split
    ·rename_i hlt; exact .ref _ _ rfl (hR _ _ rfl (by simp [rootsOf, hlt]) ⟨r, by simp [rootsOf]⟩ hv)
    ·exact .base _ _ (.undef _)
   case ent => exact .base _ _ (.undef _)
   case yld => exact .base _ _ (.undef _)
end
end Go.Mw
/- Soundness: what is promised; operations. -/
namespace Go.Mw
open Go.RowKit
inductive All2 {α β : Type} (R : α → β → Prop) : List α → List β → Prop
 | nil : All2 R [] []
 | cons {a : α} {b : β} {l : List α} {k : List β} (h : R a b) (t : All2 R l k) : All2 R (a :: l) (b :: k)
def VRels (w : World) (fz : Nat → Prop) (R : AV → Value → Prop) (xs : List AV) (cs : List Value) : Prop :=
 cs.length = xs.length ∧ ∀ (j : Nat) (v : AV) (c : Value), xs[j]? = some v → cs[j]? = some c → VRel w fz R v c
def RoundOk (fr : Frame) (las : Las) : Prop := ∀ la, fr.roundOf = some la → ∃ l, Lof las l la
def OpS (P : Program) (f : Ins → Nat → St → Option (AV × St)) : Prop :=
 ∀ (o : Oper) (sm : List Nat) (i : Ins) (b : Nat) (σ : St) (v : AV) (σ' : St), compO P sm o = some i → f i b σ = some (v, σ') →
  ∀ w0 fz0 B m las a w, Sim P w0 fz0 B m las σ a w → ∃ c w' m', Sim P w0 fz0 B m' las σ' a w' ∧ σ'.t = σ.t ∧ Ev m σ.h w m' σ'.h w' ∧ σ'.h.length = σ.h.length ∧ VRel w' m'.fz (RefR w' m' σ'.h (Lof las)) v c ∧
   ∀ (fr : Frame) (ops : Array Oper) (j : Nat) (rest : List Nat) (k : List Item) (cs : List Frame), ops[j]? = some o → Region.wanted o (yielded ops a.tmps) = true →
    Steps P (lone (fr.atR a (.inRegion ops (j :: rest) :: k)) cs w) (lone (fr.atR (a.put o.dst c) (.inRegion ops rest :: k)) cs w')
def CodeS (P : Program) (f : C → Nat → St → Option (Ex × St)) : Prop :=
 ∀ (c : C) (b : Nat) (σ : St) (e : Ex) (σ' : St), f c b σ = some (e, σ') → ∀ (sm : List Nat) (code : Code), compC P sm code = some (bare c) →
  ∀ w0 fz0 B m las a w, Sim P w0 fz0 B m las σ a w → ∀ (fr : Frame), RoundOk fr las → ∃ a' w' m', Sim P w0 fz0 B m' las σ' a' w' ∧ Ev m σ.h w m' σ'.h w' ∧ σ'.h.length = σ.h.length ∧
   ∀ (k : List Item) (cs : List Frame), Goes P (lone (fr.atR a (.code code :: k)) cs w) fr k cs a' w' e
def Lands (P : Program) (f : FuncId) (args : Array Value) (w : World) (c : Value) (w' : World) : Prop :=
 ∀ cs, ∃ frm, Steps P (lone (Frame.enter P f args .normal) cs w) (lone frm cs w') ∧ frm.fn = f ∧ frm.leaving P w' (.returned c)
def CallS (P : Program) (g : FuncId → List AV → Nat → List Nat → St → Option (AV × St)) : Prop :=
 ∀ (f : FuncId) (xs : List AV) (b : Nat) (ss : List Nat) (σ : St) (v : AV) (σ' : St), g f xs b ss σ = some (v, σ') →
  ∀ w0 fz0 B m las a w (args : Array Value), Sim P w0 fz0 B m las σ a w → VRels w m.fz (RefR w m σ.h (Lof las)) xs args.toList →
   ∃ c w' m', Sim P w0 fz0 B m' las σ' a w' ∧ σ'.t = σ.t ∧ Ev m σ.h w m' σ'.h w' ∧ σ'.h.length = σ.h.length ∧ VRel w' m'.fz (RefR w' m' σ'.h (Lof las)) v c ∧ Lands P f args w c w'
def YieldS (P : Program) (g : Nat → List AV → St → Option (AV × St)) : Prop :=
 ∀ (l : Nat) (xs : List AV) (σ : St) (v : AV) (σ' : St), g l xs σ = some (v, σ') →
  ∀ w0 fz0 B m las a w (args : Array Value) la, Sim P w0 fz0 B m las σ a w → VRels w m.fz (RefR w m σ.h (Lof las)) xs args.toList → Lof las l la →
   ∃ c w' m', Sim P w0 fz0 B m' las σ' a w' ∧ σ'.t = σ.t ∧ Ev m σ.h w m' σ'.h w' ∧ σ'.h.length = σ.h.length ∧ VRel w' m'.fz (RefR w' m' σ'.h (Lof las)) v c ∧
    ∃ fn tmps asg body, (Instr.yield la args).run P w = .ok (.round la fn tmps asg body) w ∧
     ∀ (c0 : Frame) (cs : List Frame), Steps P (lone (Frame.round la fn tmps asg body .normal) (c0 :: cs) w) (lone (c0.finish c) cs w')
def packC (cs : List Value) : Value := if h : cs.toArray.size = 1 then cs.toArray[0] else .tuple cs.toArray
def FunS (P : Program) (G : Prg) (r : IF → List AV → List Ob → List Lp → Option (List AV × St)) : Prop :=
 ∀ (f : FuncId) (F : IF) (xs : List AV) (h : List Ob) (lp : List Lp) (rs : List AV) (σ1 : St), G f = some F → r F xs h lp = some (rs, σ1) → xs.length = F.np →
  ∀ w0 fz0 m las w (args : Array Value), VRels w m.fz (RefR w m h (Lof las)) xs args.toList → Rel w0 fz0 m h w → Lps P w0 m las h w lp →
   ∃ m' w', ∃ (cs : List Value), VRels w' m'.fz (RefR w' m' σ1.h (Lof las)) rs cs ∧ Rel w0 fz0 m' σ1.h w' ∧ Lps P w0 m' las σ1.h w' σ1.lp ∧ Ev m h w m' σ1.h w' ∧ σ1.h.length = h.length + F.ns ∧ Lands P f args w (packC cs) w'
section
variable {P : Program} {w0 : World} {fz0 : Nat → Prop} {B : Nat} {m m' : Mem} {w w' : World} {las : Las} {h h' : List Ob} {σ σ' : St} {a : Act}
theorem opsE_sound {f : Ins → Nat → St → Option (AV × St)} (hf : OpS P f) {sm : List Nat} {ops : Array Oper} {b : Nat} : ∀ (l : List Nat) (rs : List Rop) (σ σ' : St) (m : Mem) (a : Act) (w : World),
 All2 (fun j r => ∃ o, ops[j]? = some o ∧ compR P sm ops o = some r) l rs → opsE f rs b σ = some σ' → Sim P w0 fz0 B m las σ a w →
 ∃ a' w' m', Sim P w0 fz0 B m' las σ' a' w' ∧ Ev m σ.h w m' σ'.h w' ∧ σ'.h.length = σ.h.length ∧
  ∀ (fr : Frame) (k : List Item) (cs : List Frame), Steps P (lone (fr.atR a (.inRegion ops l :: k)) cs w) (lone (fr.atR a' k) cs w') := by
 intro l
 induction l with
 | nil =>
   intro rs σ σ' m a w hF hx hs
   cases hF
   simp [opsE] at hx
   subst hx
   exact ⟨a, w, m, hs, Ev.refl _ _ _, rfl, fun fr k cs => .one stepR_region_end⟩
 | cons j l ih =>
   intro rs σ σ' m a w hF hx hs
   cases hF with
   | cons hj hF =>
     rename_i r rs
     obtain ⟨o, ho, hc⟩ := hj
     unfold compR at hc
     split at hc
     ·rename_i i g hi hg
      cases hc
      simp only [opsE] at hx
      split at hx
      ·rename_i hw
       have hwant := wanted_rel hs.tr hg hw
       split at hx
       ·rename_i v σ1 hev
        obtain ⟨c, w1, m1, s1, et, e1, l1, v1, go1⟩ := hf o sm i b σ v σ1 hi hev w0 fz0 B m las a w hs
        obtain ⟨a2, w2, m2, s2, e2, l2, go2⟩ := ih rs _ σ' m1 _ w1 hF hx (s1.put v1 o.dst)
        rw [put_h] at e2 l2
        exact ⟨a2, w2, m2, s2, e1.trans e2, l2.trans l1, fun fr k cs => (go1 fr ops j l k cs ho hwant).trans (go2 fr k cs)⟩
       ·cases hx
      ·rename_i hw
       have hwant := wanted_rel hs.tr hg hw
       obtain ⟨a2, w2, m2, s2, e2, l2, go2⟩ := ih rs _ σ' m _ w hF hx (hs.put undef_rel o.dst)
       rw [put_h] at e2 l2
       exact ⟨a2, w2, m2, s2, e2, l2, fun fr k cs => .head (step_unwanted ho hwant) (go2 fr k cs)⟩
      ·cases hx
     ·cases hc
theorem opds_rel {L : Nat → Nat → Prop} (ht : TR w m σ.h L σ.t a.tmps) : ∀ {xs : List Operand} {ys : List Opd}, opds xs = some ys → VRels w m.fz (RefR w m σ.h L) (σ.gets ys) (xs.map a.eval) := by
 intro xs
 induction xs with
 | nil => intro ys h; simp [opds] at h; subst h; exact ⟨rfl, fun j v c h => by simp [St.gets] at h⟩
 | cons x xs ih =>
   intro ys h
   simp only [opds] at h
   cases h1 : opd x with
   | none => simp [h1] at h
   | some y =>
     cases h2 : opds xs with
     | none => simp [h1, h2] at h
     | some zs =>
       simp [h1, h2] at h
       subst h
       obtain ⟨g1, g2⟩ := ih h2
       refine ⟨by simpa [St.gets] using g1, fun j v c hv hc => ?_⟩
       cases j with
       | zero => simp [St.gets] at hv hc; subst hv; subst hc; exact ht.get h1
       | succ j => exact g2 j v c (by simpa [St.gets] using hv) (by simpa using hc)
theorem VRels.app {R : AV → Value → Prop} {fz : Nat → Prop} {xs bs : List AV} {cs ds : List Value} (h : VRels w fz R xs cs) (k : VRels w fz R bs ds) : VRels w fz R (xs ++ bs) (cs ++ ds) := by
 refine ⟨by simp [h.1, k.1], fun j v c hv hc => ?_⟩
 rcases Nat.lt_or_ge j xs.length with hlt | hge
 ·rw [List.getElem?_append_left hlt] at hv
  rw [List.getElem?_append_left (by rw [h.1]; exact hlt)] at hc
  exact h.2 j v c hv hc
 ·rw [List.getElem?_append_right hge] at hv
  rw [List.getElem?_append_right (by rw [h.1]; exact hge), h.1] at hc
  exact k.2 _ v c hv hc
theorem run_callFunc {f : FuncId} {fn : Func} (hf : P.funcs[f]? = some fn) (h1 : (fn.name == "runtime.NumGoroutine") = false) (h2 : fn.body.isNone = false) (args : Array Value) : (callFunc f args).run P w = .ok (.enter f args) w := by
 have h1' : fn.name ≠ "runtime.NumGoroutine" := by simpa using h1
 have h2' : fn.body ≠ none := fun e => by rw [e] at h2; cases h2
 unfold callFunc
 simp [Sem.run_bind, program, Sem.run, hf, Result.andThen, h1', h2']
theorem call_step {c : Value} {f : FuncId} {args : Array Value} {o : Oper} (hL : Lands P f args w c w') (hd : ∀ c, o.op ≠ .defer c) (hr : (execOp a.eval o).run P w = .ok (.enter f args) w)
 (fr : Frame) (ops : Array Oper) (j : Nat) (rest : List Nat) (k : List Item) (cs : List Frame) (ho : ops[j]? = some o) (hw : Region.wanted o (yielded ops a.tmps) = true) :
 Steps P (lone (fr.atR a (.inRegion ops (j :: rest) :: k)) cs w) (lone (fr.atR (a.put o.dst c) (.inRegion ops rest :: k)) cs w') := by
 obtain ⟨frm, h1, h2, h3⟩ := hL (fr.atR a (.inRegion ops (j :: rest) :: k) :: cs)
 refine .head (step_enter ho hw hd hr) (h1.trans (.one ?_))
 rw [← fin_atR (b := fr) (k := k) (rest := rest) ho]
 exact step_leave_returned h3
theorem inv_fn {R : AV → Value → Prop} {fz : Nat → Prop} {f : FuncId} {cps : List AV} {c : Value} (h : VRel w fz R (.fn f cps) c) : ∃ vs : Array Value, c = .func (.func f) #[] vs ∧ VRels w fz R cps vs.toList := by
 cases h with
 | base _ _ h =>
   cases h with
   | fn _ _ vs hl hr => exact ⟨vs, rfl, by simpa using hl, fun j v c hv hc => .base _ _ (hr j v c hv (by simpa using hc))⟩
 | fn _ _ vs hl hr => exact ⟨vs, rfl, by simpa using hl, fun j v c hv hc => hr j v c hv (by simpa using hc)⟩
 | ref _ _ h => cases h
theorem compF_some {f : FuncId} {sm : List Nat} {r : C × List (Nat × Option (Bool × Nat)) × Nat} (h : compF P f sm = some r) : ∃ fn c, P.funcs[f]? = some fn ∧ fn.body = some c ∧ (fn.name == "runtime.NumGoroutine") = false ∧ compC P sm c = some r.1 ∧ compRes P fn.results.toList = some r.2.1 ∧ r.2.2 = fn.ntmps := by
 unfold compF at h
 split at h
 ·rename_i fn hf
  split at h
  ·rename_i c hb
   split at h
   ·rename_i hn
    split at h
    ·rename_i h1 h2; cases h; exact ⟨fn, c, hf, hb, hn, h1, h2, rfl⟩
    ·cases h
   ·cases h
  ·cases h
 ·cases h
theorem callF_some {G : Prg} {n : Nat} {f : FuncId} {xs : List AV} {b : Nat} {ss : List Nat} {r : AV × St} (h : callF G n f xs b ss σ = some r) : ∃ F, G f = some F := by
 cases n with
 | zero => simp [callF] at h
 | succ n =>
   simp only [callF] at h
   cases hg : G f with
   | none => simp [hg] at h
   | some F => exact ⟨F, rfl⟩
theorem evO_sound {G : Prg} (hG : Good P G) {n : Nat} (hK : CallS P (callF G n)) (hY : YieldS P (yieldF G n)) : OpS P (evO G (n + 1)) := by
 intro o sm i b σ v σ' hc hx w0 fz0 B m las a w hs
 have quiet : compI P sm o = some i → (match ax b i σ with
  | some (v, h) => some (v, { σ with h })
  | none => none) = some (v, σ') → ∃ c w' m', Sim P w0 fz0 B m' las σ' a w' ∧ σ'.t = σ.t ∧ Ev m σ.h w m' σ'.h w' ∧ σ'.h.length = σ.h.length ∧ VRel w' m'.fz (RefR w' m' σ'.h (Lof las)) v c ∧
  ∀ (fr : Frame) (ops : Array Oper) (j : Nat) (rest : List Nat) (k : List Item) (cs : List Frame), ops[j]? = some o → Region.wanted o (yielded ops a.tmps) = true →
   Steps P (lone (fr.atR a (.inRegion ops (j :: rest) :: k)) cs w) (lone (fr.atR (a.put o.dst c) (.inRegion ops rest :: k)) cs w') := by
  intro hc hx
  split at hx
  ·rename_i v1 h1 hax
   simp only [Option.some.injEq, Prod.mk.injEq] at hx
   obtain ⟨rfl, rfl⟩ := hx
   obtain ⟨c, w', m', go, s1, e1, l1, vr⟩ := ax_sound hs hc hax
   exact ⟨c, w', m', s1, rfl, e1, l1, vr, go⟩
  ·cases hx
 have noCall : compI P sm o = some i → evO G (n + 1) i b σ = (match ax b i σ with
  | some (v, h) => some (v, { σ with h })
  | none => none) := by
  intro hc
  cases i <;> first | rfl | skip
  all_goals
   exfalso
   simp only [compI] at hc
   split at hc <;> (first | cases hc | skip)
   all_goals (repeat' (split at hc)) <;> first | cases hc | (simp at hc)
 have hc0 : compO0 P sm o = some i := by
  cases h0 : compO0 P sm o with
  | none =>
    simp only [compO, h0, Option.getD_none, Option.some.injEq] at hc
    subst hc
    simp [evO, ax] at hx
  | some i0 => simp only [compO, h0, Option.getD_some, Option.some.injEq] at hc; rw [hc]
 replace hc := hc0
 clear hc0
 unfold compO0 at hc
 split at hc
 ·rename_i cl hop
  split at hc
  ·rename_i f hcal
   split at hc
   ·rename_i fn hfn
    split at hc
    ·rename_i hb
     cases has : opds cl.args.toList with
     | none => simp [has] at hc
     | some ys =>
       simp only [has, Option.map_some, Option.some.injEq] at hc
       subst hc
       simp only [evO] at hx
       have hargs := opds_rel hs.tr has
       rw [← Array.toList_map] at hargs
       obtain ⟨c, w', m', s1, et, e1, l1, vr, hL⟩ := hK f _ b _ σ v σ' hx w0 fz0 B m las a w (cl.args.map a.eval) hs hargs
       have hr : (execOp a.eval o).run P w = .ok (.enter f (cl.args.map a.eval)) w := by
        simp only [execOp, hop, resolve, hcal, Act.eval, Deferred.ofValue]
        simp [Sem.run_bind, invoke, Result.andThen, run_callFunc hfn hb.1 hb.2]
       exact ⟨c, w', m', s1, et, e1, l1, vr, fun fr ops j rest k cs ho hw => call_step hL (by rw [hop]; intro c h; cases h) hr fr ops j rest k cs ho hw⟩
    ·cases hc
   ·cases hc
  ·rename_i t hcal
   cases has : opds cl.args.toList with
   | none => simp [has] at hc
   | some ys =>
     simp only [has, Option.map_some, Option.some.injEq] at hc
     subst hc
     simp only [evO] at hx
     have hargs := opds_rel hs.tr has
     rw [← Array.toList_map] at hargs
     have hv := hs.tr.get (a := a) (x := .tmp t) (y := .t t) rfl
     split at hx
     ·rename_i f cps hg
      rw [hg] at hv
      obtain ⟨vs, e1, hcps⟩ := inv_fn hv
      obtain ⟨F, hF⟩ := callF_some hx
      obtain ⟨sm', hcF⟩ := hG f F hF
      obtain ⟨fn, code, hfn, hbd, hnm, _⟩ := compF_some hcF
      have hall := hargs.app hcps
      rw [show (cl.args.map a.eval).toList ++ vs.toList = (cl.args.map a.eval ++ vs).toList by simp] at hall
      obtain ⟨c, w', m', s1, et, e2, l1, vr, hL⟩ := hK f _ b _ σ v σ' hx w0 fz0 B m las a w (cl.args.map a.eval ++ vs) hs hall
      have hr : (execOp a.eval o).run P w = .ok (.enter f (cl.args.map a.eval ++ vs)) w := by
       simp only [execOp, hop, resolve, hcal, e1, Deferred.ofValue]
       simp [Sem.run_bind, invoke, Result.andThen, run_callFunc hfn hnm (by rw [hbd]; rfl)]
      exact ⟨c, w', m', s1, et, e2, l1, vr, fun fr ops j rest k cs ho hw => call_step hL (by rw [hop]; intro c h; cases h) hr fr ops j rest k cs ho hw⟩
     ·rename_i l hg
      rw [hg] at hv
      obtain ⟨la, e1, hla⟩ := hv.inv_ref rfl
      obtain ⟨c, w', m', s1, et, e2, l1, vr, fn, tmps, asg, body, hy, hst⟩ := hY l _ σ v σ' hx w0 fz0 B m las a w (cl.args.map a.eval) la hs hargs hla
      have hr : (execOp a.eval o).run P w = .ok (.round la fn tmps asg body) w := by
       simp only [execOp, hop, resolve, hcal, e1, Deferred.ofValue]
       simp [Sem.run_bind, invoke, Result.andThen, hy]
      refine ⟨c, w', m', s1, et, e2, l1, vr, fun fr ops j rest k cs ho hw => ?_⟩
      refine .head (step_round ho hw (by rw [hop]; intro c h; cases h) hr) ?_
      have := hst (fr.atR a (.inRegion ops (j :: rest) :: k)) cs
      rw [fin_atR ho] at this
      exact this
     ·cases hx
  ·rw [noCall hc] at hx; exact quiet hc hx
 ·rw [noCall hc] at hx; exact quiet hc hx
end
end Go.Mw
/- Soundness: functions. -/
namespace Go.Mw
open Go.RowKit
section
variable {P : Program} {w0 : World} {fz0 : Nat → Prop} {B : Nat} {m m' : Mem} {w w' : World} {las : Las} {h h' : List Ob} {σ σ' : St} {a : Act}
theorem All2.imp {α β : Type} {R S : α → β → Prop} {l : List α} {k : List β} (h : All2 R l k) (hi : ∀ a b, R a b → S a b) : All2 S l k := by
 induction h with
 | nil => exact .nil
 | cons h _ ih => exact .cons (hi _ _ h) ih
theorem run_mapM_list {α β : Type} (g : α → Sem β) : ∀ (l : List α) (rs : List β), All2 (fun a r => (g a).run P w = .ok r w) l rs → (l.mapM g).run P w = .ok rs w := by
 intro l
 induction l with
 | nil => intro rs h; cases h; simp
 | cons x l ih =>
   intro rs h
   cases h with
   | cons h1 h2 => simp [List.mapM_cons, h1, ih _ h2]
theorem res_rel (hr : Rel w0 fz0 m σ.h w) (ht : TR w m σ.h (Lof las) σ.t a.tmps) : ∀ {rv : List ResultVar} {res : List (Nat × Option (Bool × Nat))} {rs : List AV}, compRes P rv = some res → resT σ res = some rs →
 ∃ cs : List Value, VRels w m.fz (RefR w m σ.h (Lof las)) rs cs ∧
  All2 (fun (x : ResultVar) c => (match x with
   | .tmp t => (pure (a.tmps.getD t undef) : Sem Value)
   | .cell b t => do loadVar t (← asAddr (a.tmps.getD b undef)) : Sem Value).run P w = .ok c w) rv cs := by
 intro rv
 induction rv with
 | nil =>
   intro res rs h1 h2
   simp [compRes] at h1; subst h1
   simp [resT] at h2; subst h2
   exact ⟨[], ⟨rfl, fun j v c h => by simp at h⟩, .nil⟩
 | cons x rv ih =>
   intro res rs h1 h2
   have cons : ∀ {v : AV} {vs : List AV} {c : Value} {cs : List Value}, VRel w m.fz (RefR w m σ.h (Lof las)) v c → VRels w m.fz (RefR w m σ.h (Lof las)) vs cs → VRels w m.fz (RefR w m σ.h (Lof las)) (v :: vs) (c :: cs) := by
    intro v vs c cs h k
    refine ⟨by simp [k.1], fun j v' c' hv hc => ?_⟩
    cases j with
    | zero => simp at hv hc; subst hv; subst hc; exact h
    | succ j => exact k.2 j v' c' (by simpa using hv) (by simpa using hc)
   cases x with
   | tmp t =>
     simp only [compRes] at h1
     cases h3 : compRes P rv with
     | none => simp [h3] at h1
     | some r3 =>
       simp [h3] at h1; subst h1
       simp only [resT] at h2
       cases h4 : σ.t[t]? with
       | none => simp [h4] at h2
       | some v =>
         cases h5 : resT σ r3 with
         | none => simp [h4, h5] at h2
         | some vs =>
           simp [h4, h5] at h2; subst h2
           obtain ⟨cs, k1, k2⟩ := ih h3 h5
           have hlt : t < a.tmps.size := by rw [ht.size]; exact List.lt_of_some h4
           have hv := ht.rel t v _ h4 (Array.getElem?_eq_getElem hlt)
           exact ⟨a.tmps[t] :: cs, cons hv k1, .cons (by simp [Array.getD, hlt]) k2⟩
   | cell b t =>
     simp only [compRes] at h1
     split at h1
     ·rename_i ag n r3 g1 g2 g3
      split at h1
      ·rename_i g4
       cases h1
       simp only [resT] at h2
       split at h2
       ·rename_i v hh vs g5 g6
        cases h2
        obtain ⟨cs, k1, k2⟩ := ih g3 g6
        obtain ⟨_, c, k3, k4⟩ := ld_q (P := P) (a := a) (o := { dst := none, op := .load t (.tmp b), type := 0, pos := "", after := #[], guard := none }) ht hr rfl g1 g2 g4 rfl g5
        refine ⟨c :: cs, cons k4 k1, .cons ?_ k2⟩
        simp only [execOp, Act.eval, Instr.loadAt, Sem.run_bind] at k3
        cases hp : a.tmps.getD b undef <;> simp only [hp] at k3 ⊢
        case pointer q =>
         cases q with
         | none => simp [Instr.sureAddr, Result.andThen, stuck, Sem.run] at k3
         | some A =>
           simp only [Instr.sureAddr, asAddr, Sem.run_bind, Sem.run_pure, Result.andThen] at k3 ⊢
           generalize (loadVar t A).run P w = r at k3 ⊢
           cases r <;> simp at k3
           obtain ⟨rfl, rfl⟩ := k3
           rfl
        all_goals (simp [Instr.sureAddr, Result.andThen, stuck, Sem.run] at k3)
       ·cases h2
      ·cases h1
     ·cases h1
theorem results_rel (hr : Rel w0 fz0 m σ.h w) (ht : TR w m σ.h (Lof las) σ.t a.tmps) {fn : Func} {res : List (Nat × Option (Bool × Nat))} {rs : List AV} (h1 : compRes P fn.results.toList = some res) (h2 : resT σ res = some rs) :
 ∃ cs : List Value, VRels w m.fz (RefR w m σ.h (Lof las)) rs cs ∧ (results fn a.tmps).run P w = .ok (packC cs) w := by
 obtain ⟨cs, k1, k2⟩ := res_rel hr ht h1 h2
 refine ⟨cs, k1, ?_⟩
 unfold results
 rw [Sem.run_bind, Array.mapM_eq_mapM_toList, map_eq_pure_bind, Sem.run_bind, run_mapM_list _ _ cs (k2.imp (fun x c h => by cases x <;> exact h))]
 simp only [Result.andThen, Sem.run_pure, packC]
theorem putDfr_ev {la : Nat} {r : Option (List Deferred)} {r' : Obj} (ho : w.heap[la]? = some (.deferred r)) :
 (∀ (b : Nat) (arr : Array Value) (ty : TypeId), w.heap[b]? = some (.cells arr ty (0, 0)) → ∃ arr' : Array Value, (w.putObj la r').heap[b]? = some (.cells arr' ty (0, 0)) ∧ arr'.size = arr.size) ∧
 (∀ (b : Nat) (ents : Array MapEntry) (clock : Nat), w.heap[b]? = some (.map ents clock) → ∃ (ents' : Array MapEntry) (clock' : Nat), (w.putObj la r').heap[b]? = some (.map ents' clock') ∧ ∀ (i : Nat) (e : MapEntry), ents[i]? = some e → ∃ e' : MapEntry, ents'[i]? = some e' ∧ e'.born = e.born) ∧ FKeep w (w.putObj la r') m.fz := by
 have hoth : ∀ k, k ≠ la → (w.putObj la r').heap[k]? = w.heap[k]? := fun k hk => World.putObj_heap_other hk
 refine ⟨fun b arr ty hb => ?_, fun b en ck hb => ?_, fun b oo v hb hc => ?_⟩
 ·have hne : b ≠ la := fun e => by subst e; rw [ho] at hb; cases hb
  exact ⟨arr, by rw [hoth b hne]; exact hb, rfl⟩
 ·have hne : b ≠ la := fun e => by subst e; rw [ho] at hb; cases hb
  exact ⟨en, ck, by rw [hoth b hne]; exact hb, fun i e he => ⟨e, he, rfl⟩⟩
 ·by_cases e : b = la
  ·subst e
   exfalso
   unfold World.cell? at hc
   simp [ho] at hc
  ·exact (World.cell?_of_block (a := ⟨b, oo, none⟩) (hoth b e)).trans hc
def takeAll (Ds : List Nat) (w : World) : World := Ds.foldl (fun w D => w.putObj D (.deferred none)) w
theorem take_marks (hB : w0.heap.size ≤ B) {lp : List Lp} : ∀ (Ds : List Nat) (w : World), Rel w0 fz0 m h w → Lps P w0 m las h w lp → Ds.Nodup → (∀ D ∈ Ds, B ≤ D ∧ w.heap[D]? = some (.deferred (some []))) →
 Rel w0 fz0 m h (takeAll Ds w) ∧ Lps P w0 m las h (takeAll Ds w) lp ∧ (∀ k, k < B → (takeAll Ds w).heap[k]? = w.heap[k]?) ∧ (takeAll Ds w).heap.size = w.heap.size ∧ WKeep0 w (takeAll Ds w) ∧ FKeep w (takeAll Ds w) m.fz ∧
 ∀ (fr : Frame) (cs : List Frame), fr.mode = .returning → fr.defers = Ds.map mark → Steps P (lone fr cs w) (lone { fr with defers := [] } cs (takeAll Ds w)) := by
 intro Ds
 induction Ds with
 | nil =>
   intro w hr hl _ _
   refine ⟨hr, hl, fun _ _ => rfl, rfl, (WKeep.refl w).zero, FKeep.refl _ _, fun fr cs hm hd => ?_⟩
   have : ({ fr with defers := [] } : Frame) = fr := by
    have : fr.defers = [] := by simpa using hd
    cases fr; simp_all
   rw [this]; exact .refl _ _
 | cons D Ds ih =>
   intro w hr hl hnd hD
   obtain ⟨hBD, hDw⟩ := hD D (List.mem_cons_self ..)
   have hk := run_takeDeferred (P := P) hDw
   have hr1 := hr.putRec (o' := .deferred none) hDw rfl (Nat.le_trans hB hBD)
   have hoth : ∀ k, k ≠ D → (w.putObj D (.deferred none)).heap[k]? = w.heap[k]? := fun k hk => World.putObj_heap_other hk
   have hev := putDfr_ev (m := m) (r' := .deferred none) hDw
   have hl1 : Lps P w0 m las h (w.putObj D (.deferred none)) lp := by
    refine ⟨hl.len, hl.nd, fun l la top x e1 e2 => ?_⟩
    obtain ⟨g1, g0, r, g2, g3⟩ := hl.ok l la top x e1 e2
    have hne : la ≠ D := fun e => by subst e; rw [hDw] at g2; cases g2
    exact ⟨g1, g0, r, by rw [hoth la hne]; exact g2, g3.asg, g3.ps, ⟨g3.tr.size, fun i v c h1 h2 => (g3.tr.rel i v c h1 h2).mono hev.2.2 (fun _ h => h) (fun v c hr => RefR.mono0 ⟨hev.1, hev.2.1⟩ (HStep.refl _ _) (fun _ _ h => h) hr)⟩, g3.st, g3.pe, g3.pn⟩
   obtain ⟨h3, h4, h5, h6, h7, h8, h9⟩ := ih (w.putObj D (.deferred none)) hr1 hl1 (List.nodup_cons.1 hnd).2 (fun E hE => by
    obtain ⟨e1, e2⟩ := hD E (List.mem_cons_of_mem _ hE)
    have hne : E ≠ D := fun e => by subst e; exact (List.nodup_cons.1 hnd).1 hE
    exact ⟨e1, by rw [hoth E hne]; exact e2⟩)
   refine ⟨h3, h4, fun k hkk => ?_, ?_, ⟨fun b arr ty hb => ?_, fun b en ck hb => ?_⟩, hev.2.2.trans (fun _ h => h) h8, fun fr cs hm hd => ?_⟩
   ·exact (h5 k hkk).trans (hoth k (by omega))
   ·exact h6.trans (by simp)
   ·obtain ⟨a1, q1, s1⟩ := hev.1 b arr ty hb
    obtain ⟨a2, q2, s2⟩ := h7.1 b a1 ty q1
    exact ⟨a2, q2, s2.trans s1⟩
   ·obtain ⟨e1, c1, q1, k1⟩ := hev.2.1 b en ck hb
    obtain ⟨e2, c2, q2, k2⟩ := h7.2 b e1 c1 q1
    refine ⟨e2, c2, q2, fun i e he => ?_⟩
    obtain ⟨e', g1, g2⟩ := k1 i e he
    obtain ⟨e'', g3, g4⟩ := k2 i e' g1
    exact ⟨e'', g3, g4.trans g2⟩
   ·have h1 := step_collected (P := P) (fr := fr) (cs := cs) (d := mark D) (r := D) (ds := Ds.map mark) (calls := []) (by rw [hm]; intro h; cases h) (by rw [hd]; rfl) rfl hk
    exact .head h1 (h9 { fr with defers := [] ++ Ds.map mark } cs hm (by simp))
theorem grow_ev (ns : Nat) : Ev m h w m (h ++ List.replicate ns goneOb) w := by
 refine ⟨fun r o ho => ⟨o, by rw [List.getElem?_append_left (List.lt_of_some ho)]; exact ho, OStep.refl _ _ _⟩, (WKeep.refl w).1, (WKeep.refl w).2.1, FKeep.refl _ _, fun _ h => h, fun _ _ h => h, Nat.le_refl _⟩
theorem Rel.gones (hr : Rel w0 fz0 m h w) (ns : Nat) : Rel w0 fz0 m (h ++ List.replicate ns goneOb) w := by
 refine hr.congr (fun r p nd hn hi => ?_)
 obtain ⟨o, e, hnav⟩ := nodeAt_eq.1 hn
 rcases Nat.lt_or_ge r h.length with hlt | hge
 ·rw [List.getElem?_append_left hlt] at e; exact nodeAt_eq.2 ⟨o, e, hnav⟩
 ·rw [List.getElem?_append_right hge] at e
  have := List.eq_of_mem_replicate (List.mem_of_getElem? e)
  subst this
  exact (nav_gone hnav hi).elim
theorem RecOk.ev {lp : Lp} {r : Loop} {ls : Las} (he : Ev m h w m' h' w') (hk : RecOk P w m h ls lp r) : RecOk P w' m' h' ls lp r :=
 ⟨hk.asg, hk.ps, hk.tr.ev he (fun _ _ h => h), hk.st, hk.pe, hk.pn⟩
theorem Lps.ev' {lp : List Lp} (hl : Lps P w0 m las h w lp) (he : Ev m h w m' h' w') (hh : ∀ l la, Lof las l la → w'.heap[la]? = w.heap[la]?) : Lps P w0 m' las h' w' lp := by
 refine ⟨hl.len, hl.nd, fun l la top x h1 h2 => ?_⟩
 obtain ⟨g1, g0, r, g2, g3⟩ := hl.ok l la top x h1 h2
 exact ⟨g1, Nat.le_trans g0 he.st.len, r, by rw [hh l la ⟨top, h1⟩]; exact g2, g3.ev (he.cut top)⟩
theorem runF_sound {G : Prg} (hG : Good P G) {n : Nat} (hC : CodeS P (evC G n)) : FunS P G (runF G (n + 1)) := by
 intro f F xs h lp rs σ1 hF hx hnp w0 fz0 m las w args hargs hr hl
 obtain ⟨sm, hcF⟩ := hG f F hF
 obtain ⟨fn, code, hfn, hbd, hnm, hcc, hres, hnt⟩ := compF_some hcF
 simp only at hcc hres hnt
 let σ0 : St := { t := xs ++ List.replicate (F.nt - F.np) (.tup []), h := h ++ List.replicate F.ns goneOb, lp }
 have key : ∃ e, (e = .nrm ∨ e = .ret) ∧ evC G n F.body h.length σ0 = some (e, σ1) ∧ resT σ1 F.res = some rs := by
  simp only [runF] at hx
  split at hx
  ·rename_i σ2 hev
   split at hx
   ·rename_i rs' hre; cases hx; exact ⟨.nrm, .inl rfl, hev, hre⟩
   ·cases hx
  ·rename_i σ2 hev
   split at hx
   ·rename_i rs' hre; cases hx; exact ⟨.ret, .inr rfl, hev, hre⟩
   ·cases hx
  ·cases hx
 obtain ⟨e, he, hev, hre⟩ := key
 have hasz : args.size = F.np := by rw [← hnp, ← hargs.1]; simp
 let a0 : Act := { tmps := args ++ Array.replicate (fn.ntmps - args.size) undef, defers := [] }
 have hgev : Ev m h w m σ0.h w := grow_ev F.ns
 have hs0 : Sim P w0 fz0 w.heap.size m las σ0 a0 w := by
  refine ⟨⟨?_, fun i v c hv hc => ?_⟩, hr.gones _, hl.ev' hgev (fun _ _ _ => rfl), ⟨[], rfl, List.nodup_nil, fun D hD => by cases hD⟩, hr.below.size, Nat.le_refl _⟩
  ·simp only [a0, σ0, Array.size_append, Array.size_replicate, List.length_append, List.length_replicate]; omega
  ·simp only [σ0] at hv
   simp only [a0] at hc
   rcases Nat.lt_or_ge i xs.length with hlt | hge
   ·rw [List.getElem?_append_left hlt] at hv
    rw [Array.getElem?_append_left (by omega)] at hc
    exact (hargs.2 i v c hv (by rw [Array.getElem?_toList]; exact hc)).ev hgev (fun _ _ h => h)
   ·rw [List.getElem?_append_right hge] at hv
    have e1 := List.eq_of_mem_replicate (List.mem_of_getElem? hv)
    rw [Array.getElem?_append_right (by omega), Array.getElem?_replicate] at hc
    split at hc
    ·cases hc; subst e1; exact undef_rel
    ·cases hc
 let b : Frame := { (default : Frame) with fn := f, kind := .normal, roundOf := none }
 obtain ⟨a1, w1, m1, s1, e1, l1, go⟩ := hC F.body h.length σ0 e σ1 hev sm code hcc w0 fz0 _ m las a0 w hs0 b (fun la h => by cases h)
 obtain ⟨Ds, hDs, hnd, hD⟩ := s1.dfs
 have henter : Frame.enter P f args .normal = b.atR a0 [.code code] := by
  simp [Frame.enter, Frame.atR, hfn, hbd, b, a0]
 -- the returning frame
 have hret : ∀ cs, ∃ todo, Steps P (lone (Frame.enter P f args .normal) cs w) (lone { b.atR a1 todo with mode := .returning } cs w1) := by
  intro cs
  have := go [] cs
  rw [← henter] at this
  rcases he with rfl | rfl
  ·exact ⟨[], Steps.trans this (.one (stepR_end rfl))⟩
  ·obtain ⟨k0, hk⟩ := this
   exact ⟨.code .ret :: k0, hk.trans (.one (stepR_ret rfl))⟩
 obtain ⟨t1, t2, t3, t4, t5, t6, t7⟩ := take_marks (P := P) (las := las) hr.below.size Ds w1 s1.rel s1.lps hnd hD
 have htr : TR (takeAll Ds w1) m1 σ1.h (Lof las) σ1.t a1.tmps := ⟨s1.tr.size, fun i v c h1 h2 => (s1.tr.rel i v c h1 h2).mono t6 (fun _ h => h) (fun v c hr => RefR.mono0 t5 (HStep.refl _ _) (fun _ _ h => h) hr)⟩
 obtain ⟨cs, c1, c2⟩ := results_rel t1 htr hres hre
 refine ⟨m1, takeAll Ds w1, cs, c1, t1, t2, ?_, ?_, fun stk => ?_⟩
 ·have e2 := hgev.trans e1
  refine ⟨e2.st, fun b arr ty hb => ?_, fun b en ck hb => ?_, e2.fk.trans e2.fz t6, e2.fz, fun b ds hb => ?_, by rw [t4]; exact e2.sz⟩
  ·obtain ⟨a1, q1, s1⟩ := e2.cel b arr ty hb
   obtain ⟨a2, q2, s2⟩ := t5.1 b a1 ty q1
   exact ⟨a2, q2, s2.trans s1⟩
  ·obtain ⟨e1, c1, q1, k1⟩ := e2.map b en ck hb
   obtain ⟨e2, c2, q2, k2⟩ := t5.2 b e1 c1 q1
   refine ⟨e2, c2, q2, fun i e he => ?_⟩
   obtain ⟨e', g1, g2⟩ := k1 i e he
   obtain ⟨e'', g3, g4⟩ := k2 i e' g1
   exact ⟨e'', g3, g4.trans g2⟩
  ·rw [t3 b (Array.getElem?_eq_some_iff.1 hb).1]; exact e2.dfr b ds hb
 ·rw [l1]; simp [σ0]
 ·obtain ⟨todo, hst⟩ := hret stk
  refine ⟨{ { b.atR a1 todo with mode := .returning } with defers := [] }, hst.trans (t7 _ stk rfl hDs), rfl, rfl, rfl, rfl, fn, hfn, c2⟩
end
end Go.Mw
