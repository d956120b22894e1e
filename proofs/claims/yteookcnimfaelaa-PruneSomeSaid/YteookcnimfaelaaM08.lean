/- Maps that are written. -/
import Derived.Test.YteookcnimfaelaaM07
import Derived.AtR
import Derived.RangeFuncRecord
import Derived.RangeFuncNested
set_option linter.unusedVariables false
set_option linter.unusedSimpArgs false
namespace Go.Mw
open Go.RowKit
section
variable {P : Program} {sm : List Nat} {o : Oper} {a : Act} {w0 : World} {fz0 : Nat → Prop} {m : Mem} {w : World} {L : Nat → Nat → Prop} {σ : St} {base : Nat} {i : Ins} {v : AV} {h' : List Ob}
variable {fz : Nat → Prop} {R R' : AV → Value → Prop} {w' : World}
theorem free2_rel {v : AV} {c : Value} (h : VRel w fz R v c) (hf : v.free2 = true) : VRel0 w fz v c := by
 cases h with
 | base _ _ h => exact h
 | ref _ _ hv _ => cases v <;> simp [AV.isRef, AV.free2, AV.free1] at hv hf
 | fn f cs vs hl hr =>
   simp only [AV.free2, List.all_eq_true] at hf
   exact .fn f cs vs hl (fun j d u hd hu => free1_rel (hr j d u hd hu) (hf d (List.mem_of_getElem? hd)))
 | agg cs vs hl h1 hr =>
   simp only [AV.free2, List.all_eq_true] at hf
   refine .agg cs vs hl h1 (fun j d u hd hu => ?_)
   have h2 := hf d (List.mem_of_getElem? hd)
   have h3 := hr j d u hd hu
   split at h2
   ·rename_i f ds
    exact plain_rel h3 (by simpa [AV.plain] using h2)
   ·exact free1_rel h3 h2
 | tup cs vs hl hr => simp [AV.free2, AV.free1] at hf
theorem free_rel {v : AV} {c : Value} (h : VRel w fz R v c) (hf : v.free = true) : VRel0 w fz v c := by
 cases h with
 | base _ _ h => exact h
 | tup cs vs hl hr =>
   simp only [AV.free, List.all_eq_true] at hf
   exact .tup cs vs hl (fun j d u hd hu => free2_rel (hr j d u hd hu) (hf d (List.mem_of_getElem? hd)))
 | ref v c hv h => exact free2_rel (.ref v c hv h) (by cases v <;> first | exact hf | cases hv)
 | fn f cs vs hl hr => exact free2_rel (.fn f cs vs hl hr) hf
 | agg cs vs hl h1 hr => exact free2_rel (.agg cs vs hl h1 hr) hf
theorem ba_beq (a b : ByteArray) : (a == b) = true ↔ a = b := by
 cases a with | mk a => cases b with | mk b =>
 show (a == b) = true ↔ _
 simp
theorem eqCell_eq {k : Nat} {x y : AV} (h : eqCell k x y = some true) : x = y := by
 unfold eqCell at h
 split at h
 ·simp only [Option.some.injEq, beq_iff_eq] at h; rw [h]
 ·split at h
  ·rename_i hk; simp only [Option.some.injEq, beq_iff_eq] at h; rw [h, hk]
  ·cases h
 ·simp only [Option.some.injEq, ba_beq] at h; rw [h]
 ·cases h
theorem eqCells_eq : ∀ {ks : List Nat} {xs ys : List AV}, eqCells ks xs ys = some true → xs = ys := by
 intro ks
 induction ks with
 | nil => intro xs ys h; cases xs <;> cases ys <;> simp [eqCells] at h ⊢
 | cons k ks ih =>
   intro xs ys h
   cases xs with
   | nil => cases ys <;> simp [eqCells] at h
   | cons x xs =>
     cases ys with
     | nil => simp [eqCells] at h
     | cons y ys =>
       simp only [eqCells] at h
       split at h
       ·rename_i h1; rw [eqCell_eq h1, ih h]
       ·split at h <;> cases h
       ·cases h
theorem keyEq_eq {kk : KK} {x y : AV} (h : keyEq kk x y = some true) : x = y := by
 unfold keyEq at h
 split at h
 ·rw [eqCells_eq h]
 ·exact eqCell_eq h
 ·cases h
theorem cell_kind {k : Nat} {x : AV} {b : Bool} (h : eqCell k x x = some b) : (∃ b, x = .bool b) ∨ (∃ q n, x = .int q n) ∨ ∃ s, x = .str s := by
 unfold eqCell at h
 split at h
 ·exact .inl ⟨_, rfl⟩
 ·exact .inr (.inl ⟨_, _, rfl⟩)
 ·exact .inr (.inr ⟨_, rfl⟩)
 ·cases h
theorem cell_val {k : Nat} {x : AV} {b : Bool} (h : eqCell k x x = some b) {c c' : Value} (hc : VRel w fz R x c) (hc' : VRel w' fz R' x c') (n : Nat) : c = c' ∧ Instr.sameBits n c c = true := by
 rcases cell_kind h with ⟨b, rfl⟩ | ⟨q, n, rfl⟩ | ⟨s, rfl⟩
 ·rw [hc.inv_bool, hc'.inv_bool]; exact ⟨rfl, by cases n <;> simp [Instr.sameBits]⟩
 ·rw [hc.inv_int, hc'.inv_int]; exact ⟨rfl, by simp [Instr.sameBits]⟩
 ·rw [hc.inv_str, hc'.inv_str]; exact ⟨rfl, by cases n <;> simp [Instr.sameBits, ba_beq]⟩
theorem cells_val : ∀ {ks : List Nat} {xs : List AV} {b : Bool}, eqCells ks xs xs = some b → ∀ (j : Nat) (x : AV), xs[j]? = some x → ∃ k b', eqCell k x x = some b' := by
 intro ks
 induction ks with
 | nil => intro xs b h j x hx; cases xs <;> simp [eqCells] at h hx
 | cons k ks ih =>
   intro xs b h j x hx
   cases xs with
   | nil => simp at hx
   | cons y ys =>
     simp only [eqCells] at h
     split at h
     ·rename_i h1
      cases j with
      | zero => simp at hx; subst hx; exact ⟨k, _, h1⟩
      | succ j => exact ih h j x (by simpa using hx)
     ·rename_i h1
      split at h
      ·rename_i h2
       cases j with
       | zero => simp at hx; subst hx; exact ⟨k, _, h1⟩
       | succ j => exact ih h2 j x (by simpa using hx)
      ·cases h
     ·cases h
theorem key_val {kk : KK} {k : AV} (h : KeyOk kk k) {c c' : Value} (hc : VRel w fz R k c) (hc' : VRel w' fz R' k c') : c = c' ∧ Instr.sameBits 10000 c c = true := by
 obtain ⟨b, h⟩ := h
 obtain ⟨fl, ks⟩ := kk
 cases fl
 rotate_left
 ·obtain ⟨xs, ys, rfl, e3, h⟩ := keyEq_agg h
  cases e3
  obtain ⟨X, rfl, hX, _, rX⟩ := hc.inv_agg
  obtain ⟨Y, rfl, hY, _, rY⟩ := hc'.inv_agg
  have key := fun j (hj : j < xs.length) => cells_val h j xs[j] (List.getElem?_eq_getElem hj)
  refine ⟨?_, ?_⟩
  ·congr 1
   apply Array.ext (by omega)
   intro j h1 h2
   obtain ⟨k, b', h3⟩ := key j (by omega)
   have hj : j < xs.length := by omega
   exact (cell_val h3 (rX j _ _ (List.getElem?_eq_getElem hj) (Array.getElem?_eq_getElem h1)) (rY j _ _ (List.getElem?_eq_getElem hj) (Array.getElem?_eq_getElem h2)) 0).1
  ·simp only [Instr.sameBits, beq_self_eq_true, Bool.true_and, List.all_eq_true, List.mem_iff_getElem?, Prod.forall]
   rintro x y ⟨j, hj⟩
   rw [List.getElem?_zip_eq_some] at hj
   obtain ⟨h1, h2⟩ := hj
   rw [h1] at h2; cases h2
   have hjl : j < xs.length := by rw [← hX]; simpa using List.lt_of_some h1
   obtain ⟨k, b', h3⟩ := key j hjl
   have h4 := rX j _ x (List.getElem?_eq_getElem hjl) (by rw [← Array.getElem?_toList]; exact h1)
   exact (cell_val h3 h4 h4 9999).2
 ·match ks, h with
  | [q], h => exact cell_val (show eqCell q k k = some b from h) hc hc' 10000
  | [], h => exact absurd h (by cases k <;> simp [keyEq])
  | _ :: _ :: _, h => exact absurd h (by cases k <;> simp [keyEq])
def setMap (w : World) (b : Nat) (ents : Array MapEntry) (clock : Nat) : World := { w with heap := w.heap.setIfInBounds b (.map ents clock) }
theorem setMap_other (w : World) (b : Nat) (ents : Array MapEntry) (clock k : Nat) (h : k ≠ b) : (setMap w b ents clock).heap[k]? = w.heap[k]? := by
 simp only [setMap, Array.getElem?_setIfInBounds]
 rw [if_neg (fun e => h e.symm)]
theorem setMap_self {w : World} {b : Nat} {ob : Obj} (ents : Array MapEntry) (clock : Nat) (h : w.heap[b]? = some ob) : (setMap w b ents clock).heap[b]? = some (.map ents clock) := by
 simp only [setMap, Array.getElem?_setIfInBounds]
 simp [(Array.getElem?_eq_some_iff.1 h).1]
theorem setMap_size (w : World) (b : Nat) (ents : Array MapEntry) (clock : Nat) : (setMap w b ents clock).heap.size = w.heap.size := by simp [setMap]
theorem setMap_same {w : World} {b : Nat} {ents : Array MapEntry} {clock : Nat} (h : w.heap[b]? = some (.map ents clock)) : setMap w b ents clock = w := by
 have : w.heap.setIfInBounds b (.map ents clock) = w.heap := by
  apply Array.ext (by simp)
  intro k h1 h2
  have h3 := Array.getElem?_eq_getElem h1
  by_cases e : b = k
  ·subst e
   simp only [Array.getElem_setIfInBounds_self]
   exact ((Array.getElem?_eq_some_iff.1 h).2).symm
  ·rw [Array.getElem_setIfInBounds_ne (h := e)]
 simp only [setMap, this]
theorem OStep.keepm {r : Nat} {o : Ob} {p : Path} {es es' : List (AV × AV)} {c : AV} (hu : upd o.c p (.ownm es') = some c) (hn : nav o.c p = some (.ownm es)) (hl : es.length ≤ es'.length) : OStep m m r o { o with c } := by
 have hvo : ∀ cs, AV.ownm es' ≠ .agg cs := by intro cs h; cases h
 refine .inr ⟨rfl, .inr ⟨rfl, fun q nd' hq hi => ?_⟩⟩
 simp only at hq
 by_cases hp : p <+: q
 ·obtain ⟨t, rfl⟩ := hp
  rw [nav_upd_self p _ _ _ hvo hu t] at hq
  cases t with
  | nil => rw [nav_nil] at hq; cases hq; exact ⟨_, by rw [List.append_nil]; exact hn, ⟨es, rfl, hl⟩, rfl⟩
  | cons x t => obtain ⟨i, j⟩ := x; simp [nav] at hq
 ·rcases nav_upd_other p _ _ _ hvo hu q nd' hp hq with ⟨es1, xs1, xs1', g1, g2, rfl, g4, g5⟩ | g
  ·exact ⟨_, g2, ⟨xs1, rfl, by omega⟩, rfl⟩
  ·exact ⟨nd', g, compat_refl _, rfl⟩
theorem setMap_sound {h hf : List Ob} (hr : Rel w0 fz0 m h w) {r st ss : Nat} {p : Path} {es es' : List (AV × AV)} {ents ents' : Array MapEntry} {clock clock' : Nat} (hnd : node h r st p ss = some (.ownm es))
 (hso : setOb h r p (.ownm es') false = some hf) (hb : w.heap[(m.blk r p).1]? = some (.map ents clock)) (hlen : es.length ≤ es'.length)
 (hkeep : ∀ (i : Nat) (e : MapEntry), ents[i]? = some e → ∃ e' : MapEntry, ents'[i]? = some e' ∧ e'.born = e.born)
 (hE : Ents w m.fz es' ents'.toList) (hbn : ∀ (i : Nat) (e : MapEntry), ents'[i]? = some e → e.born < clock') (hin : ∀ (i j : Nat) (ei ej : MapEntry), ents'[i]? = some ei → ents'[j]? = some ej → ei.born = ej.born → i = j) :
 Rel w0 fz0 m hf (setMap w (m.blk r p).1 ents' clock') ∧ HStep m m h hf ∧ WKeep w (setMap w (m.blk r p).1 ents' clock') ∧ FKeep w (setMap w (m.blk r p).1 ents' clock') m.fz ∧ hf.length = h.length := by
 obtain ⟨o, c, ho, hu, rfl⟩ := setOb_some hso
 have hlo := hr.lo _ _ _ (node_at hnd) rfl
 have hfk : FKeep w (setMap w (m.blk r p).1 ents' clock') m.fz := by
  intro b off v hbf hc
  have hne : b ≠ (m.blk r p).1 := fun e => hlo.2 (e ▸ hbf)
  exact (World.cell?_of_block (a := ⟨b, off, none⟩) (setMap_other _ _ _ _ _ hne)).trans hc
 have hwk : WKeep w (setMap w (m.blk r p).1 ents' clock') := by
  refine ⟨fun b arr ty hh => ?_, fun b en ck hh => ?_, fun b o hh ho => ?_, by rw [setMap_size]; exact Nat.le_refl _⟩
  rotate_left 2
  ·have hne : b ≠ (m.blk r p).1 := fun e => by subst e; rw [hb] at hh; cases hh; cases ho
   rw [setMap_other _ _ _ _ _ hne]; exact hh
  ·have hne : b ≠ (m.blk r p).1 := fun e => by subst e; rw [hb] at hh; cases hh
   exact ⟨arr, by rw [setMap_other _ _ _ _ _ hne]; exact hh, rfl⟩
  ·by_cases e : b = (m.blk r p).1
   ·subst e; rw [hb] at hh; cases hh
    exact ⟨ents', clock', setMap_self _ _ hb, hkeep⟩
   ·exact ⟨en, ck, by rw [setMap_other _ _ _ _ _ e]; exact hh, fun i e he => ⟨e, he, rfl⟩⟩
 have hnav : nav o.c p = some (.ownm es) := by
  obtain ⟨o1, e1, e2⟩ := nodeAt_eq.1 (node_at hnd)
  rw [ho] at e1; cases e1; exact e2
 have hrl := List.lt_of_some ho
 refine ⟨hr.putMap (es' := es') (node_at hnd) (hr.below.trans ⟨rfl, rfl, rfl, by rw [setMap_size]; exact Nat.le_refl _, fun k hk => setMap_other _ _ _ _ _ (by omega)⟩) (by rw [setMap_size]; exact Nat.le_refl _)
  (fun k hk _ => setMap_other _ _ _ _ _ hk) hwk ?_ ?_ ?_, ?_, hwk, hfk, by simp⟩
 ·refine ⟨ents', clock', setMap_self _ _ hb, by simpa using hE.1, fun i k v hi => ?_, hbn, hin⟩
  have hlt : i < ents'.toList.length := by rw [hE.1]; exact List.lt_of_some hi
  have := hE.2 i k v _ hi (List.getElem?_eq_getElem hlt)
  exact ⟨_, by rw [← Array.getElem?_toList]; exact List.getElem?_eq_getElem hlt, this.1.mono hfk (fun _ h => h), this.2.mono hfk (fun _ h => h)⟩
 ·intro r2 o2 hne ho2 hi
  rw [List.getElem?_set_ne (fun h => hne h.symm)] at ho2
  exact ⟨o2, ho2, rfl⟩
 ·exact ⟨o, _, ho, by rw [List.getElem?_set_self hrl], hu⟩
 ·intro r2 o2 ho2
  by_cases e : r2 = r
  ·subst e
   rw [ho] at ho2; cases ho2
   exact ⟨_, by rw [List.getElem?_set_self hrl]; rfl, OStep.keepm hu hnav hlen⟩
  ·exact ⟨o2, by rw [List.getElem?_set_ne (fun h => e h.symm)]; exact ho2, OStep.refl _ _ _⟩
theorem Ents.set {es : List (AV × AV)} {ents : Array MapEntry} (h : Ents w fz es ents.toList) {i : Nat} {k v v' : AV} {c : Value} (hi : es[i]? = some (k, v)) (hv : VRel0 w fz v' c) :
 Ents w fz (es.set i (k, v')) (ents.modify i fun e => { e with val := c }).toList := by
 refine ⟨by simpa using h.1, fun j k2 v2 e hj he => ?_⟩
 rw [Array.getElem?_toList, Array.getElem?_modify] at he
 by_cases hij : i = j
 ·subst hij
  rw [List.getElem?_set_self (List.lt_of_some hi)] at hj
  cases hj
  rw [if_pos rfl] at he
  cases hx : ents[i]? with
  | none => simp [hx] at he
  | some e0 =>
    simp only [hx, Option.map_some, Option.some.injEq] at he
    subst he
    have := h.2 i k v e0 hi (by rw [Array.getElem?_toList]; exact hx)
    exact ⟨this.1, hv⟩
 ·rw [List.getElem?_set_ne hij] at hj
  rw [if_neg hij] at he
  exact h.2 j k2 v2 e hj (by rw [Array.getElem?_toList]; exact he)
theorem Ents.push {es : List (AV × AV)} {ents : Array MapEntry} (h : Ents w fz es ents.toList) {k v : AV} {ck c : Value} {n : Nat} (hk : VRel0 w fz k ck) (hv : VRel0 w fz v c) :
 Ents w fz (es ++ [(k, v)]) (ents.push { key := ck, val := c, born := n }).toList := by
 have hl : ents.size = es.length := by simpa using h.1
 refine ⟨by simp [hl], fun j k2 v2 e hj he => ?_⟩
 rw [Array.getElem?_toList, Array.getElem?_push] at he
 by_cases hjl : j = es.length
 ·subst hjl
  rw [List.getElem?_append_right (Nat.le_refl _)] at hj
  simp at hj
  obtain ⟨rfl, rfl⟩ := hj
  rw [if_pos hl.symm] at he
  cases he
  exact ⟨hk, hv⟩
 ·rw [if_neg (by omega)] at he
  have hlt := (Array.getElem?_eq_some_iff.1 he).1
  rw [List.getElem?_append_left (by omega)] at hj
  exact h.2 j k2 v2 e hj (by rw [Array.getElem?_toList]; exact he)
theorem modify_born {ents : Array MapEntry} {i : Nat} {f : MapEntry → MapEntry} (hf : ∀ e, (f e).born = e.born) {j : Nat} {e : MapEntry} (h : (ents.modify i f)[j]? = some e) : ∃ e0, ents[j]? = some e0 ∧ e.born = e0.born := by
 rw [Array.getElem?_modify] at h
 split at h
 ·cases hx : ents[j]? with
  | none => simp [hx] at h
  | some e0 => simp [hx] at h; subst h; exact ⟨e0, rfl, hf e0⟩
 ·exact ⟨e, h, rfl⟩
theorem modify_keep {ents : Array MapEntry} {i : Nat} {f : MapEntry → MapEntry} (hf : ∀ e, (f e).born = e.born) {j : Nat} {e : MapEntry} (h : ents[j]? = some e) : ∃ e', (ents.modify i f)[j]? = some e' ∧ e'.born = e.born := by
 rw [Array.getElem?_modify]
 split
 ·exact ⟨f e, by simp [h], hf e⟩
 ·exact ⟨e, h, rfl⟩
theorem ok_mup (ht : TR w m σ.h L σ.t a.tmps) (hr : Rel w0 fz0 m σ.h w) {t kt e : TypeId} {x y z : Operand} {x' y' z' : Opd} {kk : KK} (ho : o.op = .mapUpdate t x y z ∨ o.op = .insert t x y z)
 (hu : P.underlying t = some (.map kt e)) (hk : keyT P kt = some kk) (h1 : opd x = some x') (h2 : opd y = some y') (h3 : opd z = some z')
 (hx : ax base (.mup kk x' y' z') σ = some (v, h')) : OpOk P o a w0 fz0 m σ.h w L v h' := by
 have hb := ht.get (a := a) h1
 have hd := ht.get (a := a) h2
 have hv := ht.get (a := a) h3
 simp only [ax] at hx
 generalize hg : σ.get x' = g at hx hb
 cases g <;> simp only [reduceCtorEq] at hx
 rename_i r st p ss
 split at hx
 ·rename_i es hnd
  split at hx
  ·rename_i hfr
   obtain ⟨ents, clock, k1, k2, k3, k4⟩ := hr.ents hnd
   obtain ⟨ob, g1, g2, g3, g4⟩ := hb.inv_ref rfl
   have eA := g4 _ hnd
   have hv0 := free_rel hv hfr.1
   have hk0 := free_rel hd hfr.2
   obtain ⟨hkey, rr, hfk, hx⟩ := findK_some (f := fun q => match q with
    | (some i) => match es[i]? with
      | some (k', _) => (setOb σ.h r p (.ownm (es.set i (k', σ.get z'))) false).map (AV.undef, ·)
      | none => none
    | none => (setOb σ.h r p (.ownm (es ++ [(σ.get y', σ.get z')])) false).map (AV.undef, ·)) hx
   have hck := run_checkKey (P := P) (w := w) false hk hkey hd
   have hrun := run_findKey (P := P) (w := w) hk hd k2 hfk
   have fin : ∀ (es' : List (AV × AV)) (hf : List Ob) (ents' : Array MapEntry) (clock' : Nat), setOb σ.h r p (.ownm es') false = some hf → es.length ≤ es'.length →
    (∀ (i : Nat) (e : MapEntry), ents[i]? = some e → ∃ e' : MapEntry, ents'[i]? = some e' ∧ e'.born = e.born) → Ents w m.fz es' ents'.toList →
    (∀ (i : Nat) (e : MapEntry), ents'[i]? = some e → e.born < clock') → (∀ (i j : Nat) (ei ej : MapEntry), ents'[i]? = some ei → ents'[j]? = some ej → ei.born = ej.born → i = j) →
    (Instr.mapUpdate t (a.eval x) (a.eval y) (a.eval z)).run P w = .ok () (setMap w (m.blk r p).1 ents' clock') → OpOk P o a w0 fz0 m σ.h w L .undef hf := by
    intro es' hf ents' clock' hso q1 q2 q3 q4 q5 q6
    obtain ⟨s1, s2, s3, s4, s5⟩ := setMap_sound hr hnd hso k1 q1 q2 q3 q4 q5
    refine ⟨undef, _, m, .inr ⟨?_, rfl⟩, s1, s2, s3, s4, fun _ h => h, s5, .base _ _ (.undef _)⟩
    rcases ho with ho | ho <;> simp [execOp, ho, q6]
   split at hx
   ·rename_i i
    split at hx
    ·rename_i k' v0 hi
     cases hso : setOb σ.h r p (.ownm (es.set i (k', σ.get z'))) false with
     | none => simp [hso] at hx
     | some hf =>
       simp only [hso, Option.map_some, Option.some.injEq, Prod.mk.injEq] at hx
       obtain ⟨rfl, rfl⟩ := hx
       obtain ⟨_, _, k2', v2', f1, f2⟩ := findKey_ok hfk i rfl
       simp only [Nat.sub_zero] at f1
       rw [hi] at f1; cases f1
       have hlt : i < ents.size := by rw [← Array.length_toList, k2.1]; exact List.lt_of_some hi
       have he0 := Array.getElem?_eq_getElem hlt
       have hkr := (k2.2 i _ _ _ hi (by rw [Array.getElem?_toList]; exact he0)).1
       have := keyEq_eq f2
       subst this
       obtain ⟨ev, hsb⟩ := key_val hkey hd (VRel.base (R := fun _ _ => False) _ _ hkr)
       have hsame : ents.modify i (fun e => { e with key := a.eval y, val := a.eval z }) = ents.modify i (fun e => { e with val := a.eval z }) := by
        apply Array.ext (by simp)
        intro j q1 q2
        simp only [Array.getElem_modify]
        split
        ·rename_i hij; subst hij; exact congrArg (fun c => ({ key := c, val := a.eval z, born := ents[i].born } : MapEntry)) ev
        ·rfl
       refine fin _ _ (ents.modify i (fun e => { e with val := a.eval z })) clock hso (by simp) (fun j e he => modify_keep (f := fun e => { e with val := a.eval z }) (fun _ => rfl) he) (k2.set hi hv0)
        (fun j e he => by obtain ⟨e0, h0, h1⟩ := modify_born (f := fun e => { e with val := a.eval z }) (fun _ => rfl) he; rw [h1]; exact k3 j e0 h0)
        (fun j1 j2 e1 e2 he1 he2 he => by
          obtain ⟨e3, h3, h5⟩ := modify_born (f := fun e => { e with val := a.eval z }) (fun _ => rfl) he1
          obtain ⟨e4, h4, h6⟩ := modify_born (f := fun e => { e with val := a.eval z }) (fun _ => rfl) he2
          exact k4 j1 j2 e3 e4 h3 h4 (by rw [← h5, ← h6, he])) ?_
       rw [← hsame]
       have hrun' : (Instr.findKey kt (a.eval y) ents.toList).run P w = .ok (some (i, ents[i].val)) w := by
        rw [hrun]; simp only [Option.bind_some]; rw [Array.getElem?_toList, he0]; rfl
       simp only [Instr.mapUpdate, eA, Sem.run_bind, run_underlying hu, Result.andThen, getObj, Sem.run, k1, hck, hrun', he0, Option.map_some, Option.getD_some, Instr.keyThatStays, ← ev, hsb, if_true, setObj, setMap, Sem.run_pure]
    ·cases hx
   ·cases hso : setOb σ.h r p (.ownm (es ++ [(σ.get y', σ.get z')])) false with
    | none => simp [hso] at hx
    | some hf =>
      simp only [hso, Option.map_some, Option.some.injEq, Prod.mk.injEq] at hx
      obtain ⟨rfl, rfl⟩ := hx
      have hpush : ∀ (j : Nat) (e : MapEntry), (ents.push { key := a.eval y, val := a.eval z, born := clock })[j]? = some e → (j = ents.size ∧ e.born = clock) ∨ (ents[j]? = some e) := by
       intro j e he
       rw [Array.getElem?_push] at he
       split at he
       ·rename_i h; cases he; exact .inl ⟨h, rfl⟩
       ·exact .inr he
      refine fin _ _ (ents.push { key := a.eval y, val := a.eval z, born := clock }) (clock + 1) hso (by simp) (fun j e he => ⟨e, by
       rw [Array.getElem?_push, if_neg (by have := (Array.getElem?_eq_some_iff.1 he).1; omega)]; exact he, rfl⟩) (k2.push hk0 hv0)
       (fun j e he => by
         rcases hpush j e he with ⟨_, h⟩ | h
         ·omega
         ·have := k3 j e h; omega)
       (fun j1 j2 e1 e2 he1 he2 he => by
         rcases hpush j1 e1 he1 with ⟨h3, h4⟩ | h3 <;> rcases hpush j2 e2 he2 with ⟨h5, h6⟩ | h5
         ·omega
         ·have := k3 j2 e2 h5; omega
         ·have := k3 j1 e1 h3; omega
         ·exact k4 _ _ _ _ h3 h5 he) ?_
      simp only [Option.bind_none] at hrun
      simp only [Instr.mapUpdate, eA, Sem.run_bind, run_underlying hu, Result.andThen, getObj, Sem.run, k1, hck, hrun, setObj, setMap, Sem.run_pure]
  ·cases hx
 ·cases hx
theorem ok_men (ht : TR w m σ.h L σ.t a.tmps) (hr : Rel w0 fz0 m σ.h w) {t kt e : TypeId} {x y : Operand} {x' y' : Opd} {kk : KK} {z : AV} (ho : o.op = .mapEntry t x y)
 (hu : P.underlying t = some (.map kt e)) (hk : keyT P kt = some kk) (hz : zeroT P e = some z) (h1 : opd x = some x') (h2 : opd y = some y')
 (hx : ax base (.men kk z x' y') σ = some (v, h')) : OpOk P o a w0 fz0 m σ.h w L v h' := by
 obtain ⟨d, zv, hi0, hzv, hov⟩ := zeroT_some hz
 have hb := ht.get (a := a) h1
 have hd := ht.get (a := a) h2
 have hzr : VRel0 w m.fz z zv := ofV_rel hov
 simp only [ax] at hx
 generalize hg : σ.get x' = g at hx hb
 cases g <;> simp only [reduceCtorEq] at hx
 rename_i r st p ss
 split at hx
 ·rename_i es hnd
  split at hx
  ·rename_i hfr
   obtain ⟨ents, clock, k1, k2, k3, k4⟩ := hr.ents hnd
   obtain ⟨ob, g1, g2, g3, g4⟩ := hb.inv_ref rfl
   have eA := g4 _ hnd
   have hk0 := free_rel hd hfr.1
   obtain ⟨hkey, rr, hfk, hx⟩ := findK_some (f := fun q => match q with
    | (some i) => match es[i]? with
      | some (_, v) => some (AV.tup [v, .ent r st p ss i], σ.h)
      | none => none
    | none => (setOb σ.h r p (.ownm (es ++ [(σ.get y', z)])) false).map (AV.tup [z, .ent r st p ss es.length], ·)) hx
   have hck := run_checkKey (P := P) (w := w) false hk hkey hd
   have hrun := run_findKey (P := P) (w := w) hk hd k2 hfk
   have htup : ∀ (w' : World) (hf : List Ob) (v0 : AV) (c0 : Value) (i n : Nat), VRel0 w' m.fz v0 c0 → RefR w' m hf L (.ent r st p ss i) (.int .i64 n) → VRel w' m.fz (RefR w' m hf L) (.tup [v0, .ent r st p ss i]) (.tuple #[c0, goInt n]) := by
    intro w' hf v0 c0 i n q1 q2
    refine .tup _ _ rfl (fun j d u hd hu => ?_)
    match j with
    | 0 => simp at hd hu; subst hd; subst hu; exact .base _ _ q1
    | 1 => simp at hd hu; subst hd; subst hu; exact .ref _ _ rfl q2
    | j + 2 => simp at hd
   split at hx
   ·rename_i i
    split at hx
    ·rename_i k' v0 hi
     simp only [Option.some.injEq, Prod.mk.injEq] at hx
     obtain ⟨rfl, rfl⟩ := hx
     obtain ⟨_, _, k2', v2', f1, f2⟩ := findKey_ok hfk i rfl
     simp only [Nat.sub_zero] at f1
     rw [hi] at f1; cases f1
     have hlt : i < ents.size := by rw [← Array.length_toList, k2.1]; exact List.lt_of_some hi
     have he0 := Array.getElem?_eq_getElem hlt
     have hkr := (k2.2 i _ _ _ hi (by rw [Array.getElem?_toList]; exact he0))
     have := keyEq_eq f2
     subst this
     obtain ⟨ev, hsb⟩ := key_val hkey hd (VRel.base (R := fun _ _ => False) _ _ hkr.1)
     have hsame : ents.modify i (fun e => { e with key := a.eval y }) = ents := by
      apply Array.ext (by simp)
      intro j q1 q2
      simp only [Array.getElem_modify]
      split
      ·rename_i hij; subst hij; exact congrArg (fun c => ({ key := c, val := ents[i].val, born := ents[i].born } : MapEntry)) ev
      ·rfl
     have hrun' : (Instr.findKey kt (a.eval y) ents.toList).run P w = .ok (some (i, ents[i].val)) w := by
      rw [hrun]; simp only [Option.bind_some]; rw [Array.getElem?_toList, he0]; rfl
     refine OpOk.quiet hr (c := .tuple #[ents[i].val, goInt ents[i].born]) ?_ (htup _ _ _ _ _ _ hkr.2 ⟨ob, g1, g2, g3, fun es2 hn2 => ⟨ents, clock, ents[i], k1, he0, rfl⟩⟩)
     have hm : (Instr.mapEntry t (a.eval x) (a.eval y)).run P w = .ok (.tuple #[ents[i].val, goInt ents[i].born]) (setMap w (m.blk r p).1 (ents.modify i (fun e => { e with key := a.eval y })) clock) := by
      simp only [Instr.mapEntry, eA, Sem.run_bind, run_underlying hu, Result.andThen, getObj, Sem.run, k1, hck, hrun', he0, Option.map_some, Option.getD_some, Instr.keyThatStays, ← ev, hsb, if_true, setObj, setMap, Sem.run_pure]
     rw [hsame, setMap_same k1] at hm
     simp [execOp, ho, hm]
    ·cases hx
   ·cases hso : setOb σ.h r p (.ownm (es ++ [(σ.get y', z)])) false with
    | none => simp [hso] at hx
    | some hf =>
      simp only [hso, Option.map_some, Option.some.injEq, Prod.mk.injEq] at hx
      obtain ⟨rfl, rfl⟩ := hx
      have hpush : ∀ (j : Nat) (e : MapEntry), (ents.push { key := a.eval y, val := zv, born := clock })[j]? = some e → (j = ents.size ∧ e.born = clock) ∨ (ents[j]? = some e) := by
       intro j e he
       rw [Array.getElem?_push] at he
       split at he
       ·rename_i h; cases he; exact .inl ⟨h, rfl⟩
       ·exact .inr he
      obtain ⟨s1, s2, s3, s4, s5⟩ := setMap_sound (clock' := clock + 1) hr hnd hso k1 (by simp) (fun j e he => ⟨e, by
       rw [Array.getElem?_push, if_neg (by have := (Array.getElem?_eq_some_iff.1 he).1; omega)]; exact he, rfl⟩) (k2.push hk0 hzr)
       (fun j e he => by
         rcases hpush j e he with ⟨_, h⟩ | h
         ·omega
         ·have := k3 j e h; omega)
       (fun j1 j2 e1 e2 he1 he2 he => by
         rcases hpush j1 e1 he1 with ⟨h3, h4⟩ | h3 <;> rcases hpush j2 e2 he2 with ⟨h5, h6⟩ | h5
         ·omega
         ·have := k3 j2 e2 h5; omega
         ·have := k3 j1 e1 h3; omega
         ·exact k4 _ _ _ _ h3 h5 he)
      have hl : ents.size = es.length := by simpa using k2.1
      obtain ⟨o2, e1, e2⟩ := s2 r ob g1
      obtain ⟨t1, t2⟩ := e2.le g2 g3
      refine ⟨.tuple #[zv, goInt clock], _, m, .inl ?_, s1, s2, s3, s4, fun _ h => h, s5, htup _ _ _ _ _ _ (hzr.mono s4 (fun _ h => h)) ⟨o2, e1, t1, t2, fun es2 hn2 => ⟨_, _, _, setMap_self _ _ k1, by rw [Array.getElem?_push, if_pos hl.symm], rfl⟩⟩⟩
      simp only [Option.bind_none] at hrun
      have hm : (Instr.mapEntry t (a.eval x) (a.eval y)).run P w = .ok (.tuple #[zv, goInt clock]) (setMap w (m.blk r p).1 (ents.push { key := a.eval y, val := zv, born := clock }) (clock + 1)) := by
       simp only [Instr.mapEntry, eA, Sem.run_bind, run_underlying hu, Result.andThen, getObj, Sem.run, k1, hck, hrun, run_zeroValue hi0 hzv, setObj, setMap, Sem.run_pure]
      simp [execOp, ho, hm]
  ·cases hx
 ·cases hx
theorem ok_est (ht : TR w m σ.h L σ.t a.tmps) (hr : Rel w0 fz0 m σ.h w) {t : TypeId} {x y z : Operand} {x' y' z' : Opd} (ho : o.op = .entryStore t x y z)
 (h1 : opd x = some x') (h2 : opd y = some y') (h3 : opd z = some z')
 (hx : ax base (.est x' y' z') σ = some (v, h')) : OpOk P o a w0 fz0 m σ.h w L v h' := by
 have hb := ht.get (a := a) h1
 have hd := ht.get (a := a) h2
 have hv := ht.get (a := a) h3
 simp only [ax] at hx
 generalize hg : σ.get x' = g at hx hb
 generalize hg2 : σ.get y' = g2 at hx hd
 split at hx
 ·rename_i r st p ss r' st' p' ss' i
  split at hx
  ·rename_i hc
   obtain ⟨rfl, rfl, rfl, rfl, hfr⟩ := hc
   split at hx
   ·rename_i es hnd
    split at hx
    ·rename_i k v0 hi
     obtain ⟨ents, clock, k1, k2, k3, k4⟩ := hr.ents hnd
     obtain ⟨ob, _, _, _, g4⟩ := hb.inv_ref rfl
     have eA := g4 _ hnd
     obtain ⟨_, _, _, _, g5⟩ := hd.inv_ref rfl
     obtain ⟨ents2, clock2, e0, q1, q2, q3⟩ := g5 _ hnd
     rw [k1] at q1; cases q1
     have hv0 := free_rel hv hfr
     cases hso : setOb σ.h r' p' (.ownm (es.set i (k, σ.get z'))) false with
     | none => simp [hso] at hx
     | some hf =>
       simp only [hso, Option.map_some, Option.some.injEq, Prod.mk.injEq] at hx
       obtain ⟨rfl, rfl⟩ := hx
       obtain ⟨s1, s2, s3, s4, s5⟩ := setMap_sound (ents' := ents.modify i (fun e => { e with val := a.eval z })) (clock' := clock) hr hnd hso k1 (by simp) (fun j e he => modify_keep (f := fun e => { e with val := a.eval z }) (fun _ => rfl) he) (k2.set hi hv0)
        (fun j e he => by obtain ⟨e0, h0, h1⟩ := modify_born (f := fun e => { e with val := a.eval z }) (fun _ => rfl) he; rw [h1]; exact k3 j e0 h0)
        (fun j1 j2 e1 e2 he1 he2 he => by
          obtain ⟨e3, h3, h5⟩ := modify_born (f := fun e => { e with val := a.eval z }) (fun _ => rfl) he1
          obtain ⟨e4, h4, h6⟩ := modify_born (f := fun e => { e with val := a.eval z }) (fun _ => rfl) he2
          exact k4 j1 j2 e3 e4 h3 h4 (by rw [← h5, ← h6, he]))
       refine ⟨undef, _, m, .inr ⟨?_, rfl⟩, s1, s2, s3, s4, fun _ h => h, s5, .base _ _ (.undef _)⟩
       have hfi : ents.findIdx? (fun e => (e.born : Int) == (e0.born : Int)) = some i := by
        obtain ⟨hil, hie⟩ := Array.getElem?_eq_some_iff.1 q2
        rw [Array.findIdx?_eq_some_iff_getElem]
        refine ⟨hil, by rw [hie]; simp, fun j hj => ?_⟩
        have hjl : j < ents.size := by omega
        simp only [beq_iff_eq, Bool.not_eq_true]
        intro hh
        have := k4 j i _ _ (Array.getElem?_eq_getElem hjl) q2 (by omega)
        omega
       have hm : (Instr.entryStore t (a.eval x) (a.eval y) (a.eval z)).run P w = .ok () (setMap w (m.blk r' p').1 (ents.modify i (fun e => { e with val := a.eval z })) clock) := by
        simp only [Instr.entryStore, eA, q3, Sem.run_bind, Result.andThen, getObj, Sem.run, k1, asInt, asIntOf, Sem.run_pure, hfi, setObj, setMap]
       simp [execOp, ho, hm]
    ·cases hx
   ·cases hx
  ·cases hx
 ·cases hx
end
end Go.Mw
/- One theorem for all operations that are no call of a function. -/
namespace Go.Mw
open Go.RowKit
theorem map_opd {x : Operand} {f : Opd → Ins} {i : Ins} (h : (opd x).map f = some i) : ∃ y, opd x = some y ∧ i = f y := by
 cases hx : opd x with
 | none => simp [hx] at h
 | some y => simp [hx] at h; exact ⟨y, rfl, h.symm⟩
theorem op_sound {P : Program} {sm : List Nat} {o : Oper} {a : Act} {w0 : World} {fz0 : Nat → Prop} {m : Mem} {w : World} {L : Nat → Nat → Prop} {σ : St} {base : Nat} {i : Ins} {v : AV} {h' : List Ob}
 (ht : TR w m σ.h L σ.t a.tmps) (hr : Rel w0 fz0 m σ.h w) (hc : compI P sm o = some i) (hx : ax base i σ = some (v, h')) : OpOk P o a w0 fz0 m σ.h w L v h' := by
 have hc0 := hc
 cases ho : o.op with
 | move x => exact ok_mov ht hr (.inl ho) (by simpa only [compI, ho] using hc) hx
 | assign x => exact ok_mov ht hr (.inr ho) (by simpa only [compI, ho] using hc) hx
 | pick c x y => exact ok_pick ht hr ho hc hx
 | unOp op t x => exact ok_un ht hr ho hc hx
 | build t ps => exact ok_bld ht hr ho hc hx
 | alloc t =>
   simp only [compI, ho] at hc
   split at hc <;> try cases hc
   rename_i h1 h2 h3
   exact ok_alc ht hr ho h3 hx
 | box t x =>
   simp only [compI, ho] at hc
   split at hc <;> try cases hc
   rename_i h1 h2 h3
   split at hx
   ·exact ok_box ht hr ho h3 hx
   ·exact ok_bxf ht hr ho h3 hx
 | buildSlice t len ps =>
   simp only [compI, ho] at hc
   split at hc <;> try cases hc
   rename_i hu
   split at hc <;> try cases hc
   rename_i h1 h2 h3 h4
   split at hc <;> try cases hc
   rename_i h5
   exact ok_bsl ht hr ho hu h2 h3 h4 h5.2 h5.1 hx
 | load t x =>
   simp only [compI, ho] at hc
   split at hc <;> try cases hc
   rename_i h1 h2 h3
   split at hc <;> try cases hc
   rename_i h5
   exact ok_ld ht hr ho h1 h2 h5 h3 hx
 | store t x y =>
   simp only [compI, ho] at hc
   split at hc <;> try cases hc
   rename_i h1 h2 h3
   exact ok_sto ht hr ho h1 h2 h3 hx
 | binOp op t x y yt =>
   simp only [compI, ho] at hc
   split at hc <;> try cases hc
   rename_i h1 h2
   split at hc
   ·cases hc; exact ok_bin ht hr ho h1 h2 hx
   ·cases hc; exact ok_bin ht hr ho h1 h2 hx
   ·rename_i hu
    cases op <;> simp only [reduceCtorEq] at hc <;> cases hc
    ·exact ok_beq (neg := false) ht hr ho hu h1 h2 hx
    ·exact ok_beq (neg := true) ht hr ho hu h1 h2 hx
   ·rename_i hu
    cases op <;> simp only [reduceCtorEq] at hc <;> cases hc
    ·exact ok_nilc (neg := false) ht hr ho hu h1 h2 hx
    ·exact ok_nilc (neg := true) ht hr ho hu h1 h2 hx
   ·split at hc <;> try cases hc
    rename_i hk
    split at hc <;> try cases hc
    rename_i hg
    cases op <;> simp only [reduceCtorEq] at hc <;> cases hc
    ·exact ok_eqa (neg := false) ht hr ho hk hg h1 h2 hx
    ·exact ok_eqa (neg := true) ht hr ho hk hg h1 h2 hx
   ·split at hc <;> try cases hc
    rename_i hk
    split at hc <;> try cases hc
    rename_i hg
    cases op <;> simp only [reduceCtorEq] at hc <;> cases hc
    ·exact ok_eqa (neg := false) ht hr ho hk hg h1 h2 hx
    ·exact ok_eqa (neg := true) ht hr ho hk hg h1 h2 hx
   ·cases hc
 | convert src dst x =>
   simp only [compI, ho] at hc
   split at hc <;> try cases hc
   rename_i h1 h2 h3
   exact ok_cvi ht hr ho h1 h2 h3 hx
 | makeFunc fn first caps =>
   cases fn with
   | func f =>
     simp only [compI, ho] at hc
     split at hc <;> try cases hc
     rename_i h1
     cases h2 : opds caps.toList with
     | none => simp [h2] at hc
     | some ys =>
       simp only [h2, Option.map_some, Option.some.injEq] at hc
       subst hc
       exact ok_mkf ht hr ho h1 h2 hx
   | _ => simp only [compI, ho] at hc; cases hc
 | makeMap t r =>
   cases r with
   | none =>
     simp only [compI, ho] at hc
     cases hs : site sm o.dst with
     | none => simp [hs] at hc
     | some s =>
       simp only [hs, Option.map_some, Option.some.injEq] at hc
       subst hc
       exact ok_mkm ht hr ho hx
   | some r => simp only [compI, ho] at hc; cases hc
 | makeSlice t l c =>
   simp only [compI, ho] at hc
   split at hc <;> try cases hc
   rename_i hu
   split at hc <;> try cases hc
   rename_i h1 h2 h3 h4 h5
   split at hc <;> try cases hc
   rename_i h6
   exact ok_mks ht hr ho hu h2 h3 h6.1 h6.2 h4 h5 hx
 | slice t x lo hi mx =>
   simp only [compI, ho] at hc
   split at hc
   ·rename_i hu
    split at hc <;> try cases hc
    rename_i h1 h2 h3 h4 h5
    exact ok_sli ht hr ho hu h1 h2 h3 h4 h5 hx
   ·rename_i hu
    split at hc <;> try cases hc
    rename_i h1 h2 h3
    exact ok_ssl ht hr ho hu h1 h2 h3 hx
   ·cases hc
 | fieldAddr t x f =>
   simp only [compI, ho] at hc
   split at hc <;> try cases hc
   rename_i hu
   split at hc <;> try cases hc
   rename_i h1 h2
   split at hc <;> try cases hc
   rename_i h3
   exact ok_fad ht hr ho hu h1 h2 h3 hx
 | field t x f =>
   simp only [compI, ho] at hc
   split at hc <;> try cases hc
   rename_i hu
   split at hc <;> try cases hc
   rename_i h1 h2
   split at hc <;> try cases hc
   rename_i h3 h4
   split at hc <;> try cases hc
   exact ok_fld ht hr ho hu h1 h2 h3 h4 hx
 | indexAddr t x y =>
   simp only [compI, ho] at hc
   split at hc
   ·rename_i hu
    split at hc <;> try cases hc
    rename_i h1 h2 h3
    exact ok_iad ht hr ho hu h2 h3 h1 hx
   ·rename_i hu
    split at hc <;> try cases hc
    rename_i h1 h2 h3
    exact ok_iaa ht hr ho hu h2 h3 h1 hx
   ·cases hc
 | index t x y =>
   simp only [compI, ho] at hc
   split at hc
   ·rename_i hu
    split at hc <;> try cases hc
    rename_i h1 h2
    exact ok_idx ht hr ho hu h1 h2 hx
   ·rename_i hu
    split at hc <;> try cases hc
    rename_i h1 h2 h3 h4
    split at hc <;> try cases hc
    exact ok_ixa ht hr ho hu h3 h4 h1 h2 hx
   ·cases hc
 | lookup t x y ok =>
   simp only [compI, ho] at hc
   split at hc <;> try cases hc
   rename_i hu
   split at hc <;> try cases hc
   rename_i h1 h2 h3 h4
   exact ok_lok ht hr ho hu h1 h2 h3 h4 hx
 | mapUpdate t x y z =>
   simp only [compI, ho] at hc
   split at hc <;> try cases hc
   rename_i hu
   split at hc <;> try cases hc
   rename_i h1 h2 h3 h4
   exact ok_mup ht hr (.inl ho) hu h1 h2 h3 h4 hx
 | insert t x y z =>
   simp only [compI, ho] at hc
   split at hc <;> try cases hc
   rename_i hu
   split at hc <;> try cases hc
   rename_i h1 h2 h3 h4
   exact ok_mup ht hr (.inr ho) hu h1 h2 h3 h4 hx
 | mapEntry t x y =>
   simp only [compI, ho] at hc
   split at hc <;> try cases hc
   rename_i hu
   split at hc <;> try cases hc
   rename_i h1 h2 h3 h4
   exact ok_men ht hr ho hu h1 h2 h3 h4 hx
 | entryStore t x y z =>
   simp only [compI, ho] at hc
   split at hc <;> try cases hc
   rename_i h1 h2 h3
   exact ok_est ht hr ho h1 h2 h3 hx
 | extract x k =>
   simp only [compI, ho] at hc
   obtain ⟨y, h1, rfl⟩ := map_opd hc
   exact ok_ext ht hr ho h1 hx
 | call c =>
   obtain ⟨cal, args, ts⟩ := c
   simp only [compI, ho] at hc
   split at hc
   ·rename_i h1 h2 h3
    split at hc
    ·rename_i hu
     obtain ⟨y, h4, rfl⟩ := map_opd hc
     exact ok_lenl ht hr ho h4 h2 h3 hu hx
    ·rename_i hu
     obtain ⟨y, h4, rfl⟩ := map_opd hc
     exact ok_lens ht hr ho h4 h2 h3 hu hx
    ·rename_i hu
     obtain ⟨y, h4, rfl⟩ := map_opd hc
     exact ok_lenm ht hr ho h4 h2 h3 hu hx
    ·cases hc
   ·rename_i h1 h2 h3
    split at hc <;> try cases hc
    rename_i hu hv
    split at hc <;> try cases hc
    rename_i g1 g2 g3 g4 g5
    split at hc <;> try cases hc
    rename_i g6
    exact ok_app ht hr ho h2 h3 hu hv g2 g3 g6.1 g6.2 g4 g5 hx
   ·rename_i h1 h2 h3
    split at hc <;> try cases hc
    rename_i hu hv
    split at hc <;> try cases hc
    rename_i g1 g2 g3
    exact ok_cpy ht hr ho h2 h3 hu g1 g2 g3 hx
   ·rename_i h1 h2
    split at hc <;> try cases hc
    rename_i g1 g2
    exact ok_mxn (mx := true) ht hr ho rfl h2 g1 g2 hx
   ·rename_i h1 h2
    split at hc <;> try cases hc
    rename_i g1 g2
    exact ok_mxn (mx := false) ht hr ho rfl h2 g1 g2 hx
   ·cases hc
 | _ => simp only [compI, ho] at hc; cases hc
end Go.Mw
/- Evaluation. No theorem about the model here. -/
namespace Go.Mw
mutual
def rootsOf : AV → List Nat
 | .sl r _ _ _ _ _ => [r]
 | .ptr r _ _ _ _ _ => [r]
 | .mp r _ _ _ => [r]
 | .ent r _ _ _ _ => [r]
 | .agg cs => rootsL cs
 | .tup cs => rootsL cs
 | .fn _ cs => rootsL cs
 | _ => []
def rootsL : List AV → List Nat
 | [] => []
 | x :: xs => rootsOf x ++ rootsL xs
end
mutual
def treeB (B : Nat) (h : List Ob) : AV → AV
 | .sl r st p ss off len => if r < B then .sl r st p ss off len else tree h (.sl r st p ss off len)
 | .ptr r st p ss i j => if r < B then .ptr r st p ss i j else tree h (.ptr r st p ss i j)
 | .mp r st p ss => if r < B then .mp r st p ss else .undef
 | .ent .. => .undef
 | .yld _ => .undef
 | .gone => .undef
 | .own _ _ => .undef
 | .ownm _ => .undef
 | .agg cs => .agg (treeBL B h cs)
 | .tup cs => .tup (treeBL B h cs)
 | .fn f cs => .fn f (treeBL B h cs)
 | .nils => .lst []
 | .emp => .lst []
 | .ne => .lst []
 | v => v
def treeBL (B : Nat) (h : List Ob) : List AV → List AV
 | [] => []
 | x :: xs => treeB B h x :: treeBL B h xs
end
def goneOb : Ob := { st := 0, ss := 0, c := .gone }
def dropRoots (h : List Ob) (rs : List Nat) : List Ob :=
 rs.foldl (fun h r => h.modify r fun o => { o with c := .gone }) h
def kill (ts : List Nat) (t : List AV) : List AV := ts.foldl (fun t i => t.set i .undef) t
def freeSites (base : Nat) (ss : List Nat) (h : List Ob) : List Ob := dropRoots h (ss.map (base + ·))
def setPs : List Nat → List AV → List AV → List AV
 | p :: ps, v :: vs, t => setPs ps vs (t.set p v)
 | _, _, t => t
def wantedO (g : Option (Nat × Bool)) (σ : St) : Option Bool :=
 match g with
 | none => some true
 | some (t, want) => match σ.t[t]? with
   | some (.bool b) => some (b == want)
   | some (.tup []) => some false
   | _ => none
def resT (σ : St) : List (Nat × Option (Bool × Nat)) → Option (List AV)
 | [] => some []
 | (t, none) :: rs => match σ.t[t]?, resT σ rs with
   | some v, some vs => some (v :: vs)
   | _, _ => none
 | (t, some (ag, n)) :: rs => match ax 0 (.ld ag n (.t t)) σ, resT σ rs with
   | some (v, _), some vs => some (v :: vs)
   | _, _ => none
def AV.void : AV → Bool
 | .nils | .emp => true
 | _ => false
def splits (F : IF) (xs : List AV) : Bool :=
 match F.split, xs with
 | true, [.lst []] => true
 | _, _ => false
def packV : List AV → AV
 | [v] => v
 | vs => .tup vs
def give (fo : Bool) (B : Nat) (h1 h0 : List Ob) (b : Nat) (ss : List Nat) (rs : List AV) : Option (AV × List Ob) :=
 match fo, rs, ss with
 | true, [.sl r st [] _ off len], [s] => if B ≤ r then
    match node h1 r st [] 0 with
    | some (.own es xs) => if off = 0 ∧ len = xs.length ∧ xs.all (fun e : AV => e.cells.all AV.plain) = true then
       match newOb h0 (b + s) (.own es xs) with
       | some (h, st') => some (.sl (b + s) st' [] 0 0 len, h)
       | none => none
      else none
    | _ => none
   else none
 | true, [.nils], _ => some (.emp, h0)
 | true, [.emp], _ => some (.emp, h0)
 | true, _, _ => none
 | false, rs, _ => some (packV (treeBL B h1 rs), h0)
def Ins.opds : Ins → List Opd
 | .mov x | .bxf x | .box _ _ x | .ld _ _ x | .un _ x | .cvi _ x | .fad _ x | .fld _ _ _ x | .ext x _ | .lens x | .lenl x | .lenm x => [x]
 | .pick c a b => [c, a, b]
 | .alc .. | .mkm _ | .bad => []
 | .bld _ ps => ps.map (·.2.2)
 | .bsl _ _ _ xs => xs
 | .sto _ a x | .bin _ a x | .beq _ a x | .nilc _ a x | .eqa _ _ a x | .mks _ _ _ _ a x | .iad _ a x | .iaa _ _ a x | .idx a x | .ixa _ _ _ a x | .lok _ _ _ a x | .men _ _ a x | .app _ _ _ a x | .mxn _ a x | .cpy a x => [a, x]
 | .mup _ a k x => [a, k, x]
 | .est a k x => [a, k, x]
 | .mkf _ cs => cs
 | .sli _ x lo hi mx => [x] ++ lo.toList ++ hi.toList ++ mx.toList
 | .ssl x lo hi => [x] ++ lo.toList ++ hi.toList
 | .call _ az _ => az
 | .calv f az _ => f :: az
def Ins.sites : Ins → List Nat
 | .alc s _ _ | .box s _ _ | .bsl s _ _ _ | .mkm s | .mks s _ _ _ _ _ | .app s _ _ _ _ => [s]
 | .call _ _ ss => ss
 | .calv _ _ ss => ss
 | _ => []
def Ins.dry : Ins → Bool
 | .mov _ | .pick .. | .bin .. | .beq .. | .eqa .. | .un .. | .cvi .. | .mkf .. | .ssl .. | .fld .. | .idx .. | .ixa .. | .ext .. | .lens .. | .mxn .. | .bxf .. | .bad => true
 | _ => false
def Ins.calm : Ins → Bool
 | .bld .. | .ld .. | .nilc .. | .sli .. | .fad .. | .iad .. | .iaa .. | .lok .. | .lenl .. | .lenm .. => true
 | i => i.dry
def foot (G : Prg) (b : Nat) (i : Ins) (σ : St) : Option (List Nat) :=
 match i with
 | .call f az ss => match G f with
   | some F => if F.pure then some (ss.map (b + ·) ++ rootsL (σ.gets az)) else none
   | none => none
 | .calv x az ss => match σ.get x with
   | .fn f cs => match G f with
     | some F => if F.pure then some (ss.map (b + ·) ++ rootsL (σ.gets az ++ cs)) else none
     | none => none
   | _ => none
 | i => if i.dry then some [] else some (i.sites.map (b + ·) ++ rootsL (σ.gets i.opds))
def apart (a b : Option (List Nat)) : Bool :=
 match a, b with
 | some [], _ => true
 | _, some [] => true
 | some a, some b => a.all fun r => !b.contains r
 | _, _ => false
def opsE (f : Ins → Nat → St → Option (AV × St)) : List Rop → Nat → St → Option St
 | [], _, σ => some σ
 | o :: os, b, σ => match wantedO o.g σ with
   | some true => match f o.i b σ with
     | some (v, σ1) => opsE f os b (σ1.put o.d v)
     | none => none
   | some false => opsE f os b (σ.put o.d (.tup []))
   | none => none
def drwE (G : Prg) (f : Ins → Nat → St → Option (AV × St)) : List Rop → Nat → St → Option (St × List (Option (List Nat)))
 | [], _, σ => some (σ, [])
 | o :: os, b, σ => match wantedO o.g σ with
   | some true => match f o.i b σ with
     | some (v, σ1) => match drwE G f os b (σ1.put o.d v) with
       | some (σ2, fs) => some (σ2, foot G b o.i σ :: fs)
       | none => none
     | none => none
   | some false => match drwE G f os b (σ.put o.d (.tup [])) with
     | some (σ2, fs) => some (σ2, some [] :: fs)
     | none => none
   | none => none
inductive Sft where
 | no | rd (r : Nat) (q : Path) | ap (r : Nat) (p : Path) (os : List Nat)
def sftI (b : Nat) (i : Ins) (σ : St) : Sft :=
 match i with
 | .fad _ x => match σ.get x with
   | .ptr r _ p _ _ _ => .rd r p
   | _ => .no
 | .iad _ x _ => match σ.get x with
   | .sl r _ p _ _ _ => .rd r p
   | _ => .no
 | .ld false 1 a => match σ.get a with
   | .ptr r _ p _ i j => match nodeAt σ.h r (p ++ [(i, j)]) with
     | some (.own ..) => .rd r (p ++ [(i, j)])
     | _ => .no
   | _ => .no
 | .app s _ _ x y => match σ.get x with
   | .sl r _ p _ _ _ => .ap r p ((b + s) :: rootsOf (σ.get y))
   | _ => .no
 | _ => .no
def soft1 (r : Nat) (q : Path) (r' : Nat) (p : Path) (os : List Nat) : Bool := !os.contains r && (r != r' || !p.isPrefixOf q)
def soft (a b : Sft) : Bool :=
 match a, b with
 | .rd r q, .ap r' p os => soft1 r q r' p os
 | .ap r' p os, .rd r q => soft1 r q r' p os
 | _, _ => false
def sftE (f : Ins → Nat → St → Option (AV × St)) : List Rop → Nat → St → List Sft
 | [], _, _ => []
 | o :: os, b, σ => match wantedO o.g σ with
   | some true => match f o.i b σ with
     | some (v, σ1) => sftI b o.i σ :: sftE f os b (σ1.put o.d v)
     | none => []
   | some false => .no :: sftE f os b (σ.put o.d (.tup []))
   | none => []
def frz1 (t : Nat) (σ : St) : St :=
 match σ.t[t]? with
 | some v => { σ with t := σ.t.set t (treeB 0 σ.h v), h := dropRoots σ.h (rootsOf v) }
 | none => σ
def mv1 (b t s : Nat) (σ : St) : St :=
 match σ.t[t]? with
 | some (.sl r st [] ss 0 len) => match node σ.h r st [] ss, σ.h[r]?, σ.h[b + s]? with
   | some (.own es xs), some o1, some o => match o.c with
     | .gone => if r ≠ b + s ∧ len = xs.length then
        { σ with t := σ.t.set t (.sl (b + s) (o.st + 1) [] 0 0 len), h := (σ.h.set r { o1 with c := .gone }).set (b + s) { st := o.st + 1, ss := 0, c := .own es xs } }
       else σ
     | _ => σ
   | _, _, _ => σ
 | _ => σ
def jumpE : Ex → Option Ex
 | .nrm => none
 | e => some e
mutual
def evC (G : Prg) : Nat → C → Nat → St → Option (Ex × St)
 | 0, _, _, _ => none
 | n + 1, c, b, σ => match c with
   | .skip => some (.nrm, σ)
   | .reg ops => match opsE (evO G n) ops b σ with
     | some σ1 => some (.nrm, σ1)
     | none => none
   | .drw ops prs => match drwE G (evO G n) ops b σ with
     | some (σ1, fs) => if prs.all (fun p => apart (fs.getD p.1 none) (fs.getD p.2 none)) = true then some (.nrm, σ1) else none
     | none => none
   | .drs ops prs => match drwE G (evO G n) ops b σ with
     | some (σ1, fs) => if prs.all (fun p => apart (fs.getD p.1 none) (fs.getD p.2 none) || soft ((sftE (evO G n) ops b σ).getD p.1 .no) ((sftE (evO G n) ops b σ).getD p.2 .no)) = true then some (.nrm, σ1) else none
     | none => none
   | .seq x y => match evC G n x b σ with
     | some (.nrm, σ1) => evC G n y b σ1
     | r => r
   | .cond x c d => match σ.get x with
     | .bool true => evC G n c b σ
     | .bool false => evC G n d b σ
     | _ => none
   | .blk id c => match evC G n c b σ with
     | some (.ext i, σ1) => if i = id then some (.nrm, σ1) else some (.ext i, σ1)
     | r => r
   | .loop kt ks c => match evC G n c b { σ with t := kill kt σ.t, h := freeSites b ks σ.h } with
     | some (.nrm, σ1) => evC G n (.loop kt ks c) b σ1
     | r => r
   | .rngf f ps kt ks asg body => match σ.get f with
     | .fn g cs =>
       match callF G n g (.yld σ.lp.length :: cs) b [] { σ with lp := σ.lp ++ [{ base := b, t := σ.t, ps, kt, ks, asg, body, pend := none, busy := false }] } with
       | some (_, σ1) => match σ1.lp[σ.lp.length]? with
         | some lp => if lp.busy then none else some (match lp.pend with
           | none => .nrm
           | some e => e, { t := σ.t, h := σ1.h, lp := σ1.lp.take σ.lp.length })
         | none => none
       | none => none
     | _ => none
   | .exit id => some (.ext id, σ)
   | .ret => some (.ret, σ)
   | .frzt t c => evC G n c b (frz1 t σ)
   | .mvt t s c => evC G n c b (mv1 b t s σ)
termination_by structural n => n
def evO (G : Prg) : Nat → Ins → Nat → St → Option (AV × St)
 | 0, _, _, _ => none
 | n + 1, i, b, σ => match i with
   | .call f az ss => callF G n f (σ.gets az) b ss σ
   | .calv x az ss => match σ.get x with
     | .fn f cs => callF G n f (σ.gets az ++ cs) b ss σ
     | .yld l => yieldF G n l (σ.gets az) σ
     | _ => none
   | i => match ax b i σ with
     | some (v, h) => some (v, { σ with h })
     | none => none
termination_by structural n => n
def callF (G : Prg) : Nat → FuncId → List AV → Nat → List Nat → St → Option (AV × St)
 | 0, _, _, _, _, _ => none
 | n + 1, f, az, b, ss, σ => match G f with
   | some F => if az.length = F.np then
      if F.pure then if splits F (treeBL 0 σ.h az) then match runF G n F [.nils] [] [], runF G n F [.ne] [] [] with
       | some ([x], _), some ([y], _) => if x.void && y.void then some (if F.fo then .emp else .lst [], σ) else none
       | _, _ => none
      else match runF G n F (treeBL 0 σ.h az) [] [] with
       | some (rs, σ1) =>
         match give F.fo 0 σ1.h (if az.all AV.free || rs.all AV.flats then σ.h else dropRoots σ.h (rootsL az)) b ss rs with
         | some (v, h) => some (v, { σ with h })
         | none => none
       | none => none
      else match runF G n F az σ.h σ.lp with
       | some (rs, σ1) => match give F.fo σ.h.length σ1.h (σ1.h.take σ.h.length) b ss rs with
         | some (v, h) => some (v, { t := σ.t, h, lp := σ1.lp })
         | none => none
       | none => none
     else none
   | none => none
termination_by structural n => n
def runF (G : Prg) : Nat → IF → List AV → List Ob → List Lp → Option (List AV × St)
 | 0, _, _, _, _ => none
 | n + 1, F, az, h, lp => match evC G n F.body h.length { t := az ++ List.replicate (F.nt - F.np) (.tup []), h := h ++ List.replicate F.ns goneOb, lp } with
   | some (.nrm, σ1) => match resT σ1 F.res with
     | some rs => some (rs, σ1)
     | none => none
   | some (.ret, σ1) => match resT σ1 F.res with
     | some rs => some (rs, σ1)
     | none => none
   | _ => none
termination_by structural n => n
def yieldF (G : Prg) : Nat → Nat → List AV → St → Option (AV × St)
 | 0, _, _, _ => none
 | n + 1, l, az, σ => match σ.lp[l]? with
   | some lp => if lp.busy = false ∧ lp.pend.isNone = true ∧ az.length = lp.ps.length then
      match evC G n lp.asg lp.base { t := setPs lp.ps az (kill lp.kt lp.t), h := freeSites lp.base lp.ks σ.h, lp := σ.lp } with
      | some (.nrm, σ1) => match σ1.lp[l]? with
        | some lp1 => if lp1.busy = false ∧ lp1.pend.isNone = true then
           match evC G n lp.body lp.base { σ1 with lp := σ1.lp.set l { lp1 with busy := true } } with
           | some (e, σ2) => match σ2.lp[l]? with
             | some lp2 => some (.bool (jumpE e).isNone, { t := σ.t, h := σ2.h, lp := σ2.lp.set l { lp2 with busy := false, pend := jumpE e } })
             | none => none
           | none => none
          else none
        | none => none
      | _ => none
     else none
   | none => none
termination_by structural n => n
end
end Go.Mw
/- From the model's code to the abstract one; what ties a frame of the machine to an abstract state. -/
namespace Go.Mw
open Go.RowKit
def bare : C → C
 | .seq a b => .seq (bare a) (bare b)
 | .cond x a b => .cond x (bare a) (bare b)
 | .blk id c => .blk id (bare c)
 | .loop _ _ c => .loop [] [] (bare c)
 | .rngf f ps _ _ a b => .rngf f ps [] [] (bare a) (bare b)
 | .frzt _ c => bare c
 | .drs ops prs => .drw ops prs
 | .mvt _ _ c => bare c
 | c => c
def siteL (sm : List Nat) (d : Option Nat) : List Nat :=
 match d with
 | some d => if sm.contains d then [sm.idxOf d] else []
 | none => []
def compO0 (P : Program) (sm : List Nat) (o : Oper) : Option Ins :=
 match o.op with
 | .call c => match c.callee with
   | .value (.func f) => match P.funcs[f]? with
     | some fn => if (fn.name == "runtime.NumGoroutine") = false ∧ fn.body.isNone = false then (opds c.args.toList).map fun xs => .call f xs (siteL sm o.dst) else none
     | none => none
   | .value (.tmp t) => (opds c.args.toList).map fun xs => .calv (.t t) xs (siteL sm o.dst)
   | _ => compI P sm o
 | _ => compI P sm o
def compO (P : Program) (sm : List Nat) (o : Oper) : Option Ins := some ((compO0 P sm o).getD .bad)
def compG (ops : Array Oper) (g : Option (Nat × Bool)) : Option (Option (Nat × Bool)) :=
 match g with
 | none => some none
 | some (j, want) => match (ops[j]?).bind (·.dst) with
   | some t => some (some (t, want))
   | none => none
def compR (P : Program) (sm : List Nat) (ops : Array Oper) (o : Oper) : Option Rop :=
 match compO P sm o, compG ops o.guard with
 | some i, some g => some { d := o.dst, i, g }
 | _, _ => none
def compRs (P : Program) (sm : List Nat) (ops : Array Oper) : List Oper → Option (List Rop)
 | [] => some []
 | o :: os => match compR P sm ops o, compRs P sm ops os with
   | some r, some rs => some (r :: rs)
   | _, _ => none
/-! ### Regions whose order is drawn -/
def Opd.tmps : Opd → List Nat
 | .t n => [n]
 | .c _ => []
def Rop.reads (r : Rop) : List Nat := r.i.opds.flatMap Opd.tmps ++ (match r.g with | some (t, _) => [t] | none => [])
def Rop.tfree (x y : Rop) : Bool :=
 (match x.d with | some d => !(y.reads.contains d) && y.d != some d | none => true) && (match y.d with | some d => !(x.reads.contains d) | none => true)
def behind (ops : Array Oper) (i j : Nat) : Bool := ((Region.before ops).getD j 0).testBit i
def pairsOf (n : Nat) : List (Nat × Nat) := (List.range n).flatMap fun j => (List.range j).map fun i => (i, j)
def freePairs (ops : Array Oper) : List (Nat × Nat) := (pairsOf ops.size).filter fun p => !behind ops p.1 p.2
def easy (x y : Rop) : Bool := x.i.dry || y.i.dry || (x.i.calm && y.i.calm)
def zeq : AV → AV → Bool
 | .int a n, .int b m => a == b && n == m
 | .bool a, .bool b => a == b
 | .nils, .nils => true
 | .lst [], .lst [] => true
 | _, _ => false
theorem zeq_eq {x y : AV} (h : zeq x y = true) : x = y := by
 unfold zeq at h
 split at h
 ·simp only [Bool.and_eq_true, beq_iff_eq] at h; rw [h.1, h.2]
 ·simp only [beq_iff_eq] at h; rw [h]
 ·rfl
 ·rfl
 ·cases h
def viewPair : Ins → Ins → Bool
 | .lok kk z ok _ _, .men kk' z' _ _ => !ok && kk == kk' && zeq z z'
 | .men kk' z' _ _, .lok kk z ok _ _ => !ok && kk == kk' && zeq z z'
 | _, _ => false
def goodOrder (md : Region.Mode) (ops : Array Oper) (l : List Nat) : Bool :=
 (List.range ops.size).all fun i => match ops[i]? with
   | some o => l.contains i && o.after.all fun e => !Region.binds md e || (decide (e.on < ops.size) && decide (l.idxOf e.on < l.idxOf i))
   | none => false
def orderOk (ops : Array Oper) : Bool :=
 [Region.Mode.any, .text, .gc].all fun md => goodOrder md ops (Region.linearise md ops 0)
def drawOk (ops : Array Oper) (rs : List Rop) : Bool :=
 (ops.toList.zipIdx.all fun x => x.1.after.all fun e => !Region.binds .any e || decide (e.on < x.2)) && orderOk ops &&
 (freePairs ops).all fun p => match rs[p.1]?, rs[p.2]? with
   | some x, some y => x.tfree y
   | _, _ => false
def hardPairs (ops : Array Oper) (rs : List Rop) : List (Nat × Nat) :=
 (freePairs ops).filter fun p => match rs[p.1]?, rs[p.2]? with
   | some x, some y => !(easy x y || viewPair x.i y.i)
   | _, _ => true
def compC (P : Program) (sm : List Nat) : Code → Option C
 | .skip => some .skip
 | .region _ ops draw => match compRs P sm ops ops.toList with
   | some rs => if draw then (if drawOk ops rs = true then some (.drw rs (hardPairs ops rs)) else none) else some (.reg rs)
   | none => none
 | .seq a b => match compC P sm a, compC P sm b with
   | some x, some y => some (.seq x y)
   | _, _ => none
 | .cond c a b => match opd c, compC P sm a, compC P sm b with
   | some c, some x, some y => some (.cond c x y)
   | _, _, _ => none
 | .block id a => (compC P sm a).map (.blk id)
 | .loop a => (compC P sm a).map (.loop [] [])
 | .rangeFunc f ps a b => match f, compC P sm a, compC P sm b with
   | .tmp t, some x, some y => some (.rngf (.t t) ps.toList [] [] x y)
   | _, _, _ => none
 | .exit id => some (.exit id)
 | .ret => some .ret
 | _ => none
def compRes (P : Program) : List ResultVar → Option (List (Nat × Option (Bool × Nat)))
 | [] => some []
 | .tmp t :: rs => (compRes P rs).map ((t, none) :: ·)
 | .cell a t :: rs => match aggT P t, szT P t, compRes P rs with
   | some ag, some n, some rs => if ag = true ∨ n = 1 then some ((a, some (ag, n)) :: rs) else none
   | _, _, _ => none
def compF (P : Program) (f : FuncId) (sm : List Nat) : Option (C × List (Nat × Option (Bool × Nat)) × Nat) :=
 match P.funcs[f]? with
 | some fn => match fn.body with
   | some c => if (fn.name == "runtime.NumGoroutine") = false then match compC P sm c, compRes P fn.results.toList with
      | some c, some rs => some (c, rs, fn.ntmps)
      | _, _ => none
     else none
   | none => none
 | none => none
def Good (P : Program) (G : Prg) : Prop := ∀ f F, G f = some F → ∃ sm, compF P f sm = some (bare F.body, F.res, F.nt)
/-! ### Frames -/
abbrev Las := List (Nat × Nat)
def Lof (las : Las) (l la : Nat) : Prop := ∃ top, las[l]? = some (la, top)
def mark (D : Nat) : Deferred := { target := .collected D, args := #[] }
def Dfs (B : Nat) (w : World) (ds : List Deferred) : Prop := ∃ Ds : List Nat, ds = Ds.map mark ∧ Ds.Nodup ∧ ∀ D ∈ Ds, B ≤ D ∧ w.heap[D]? = some (.deferred (some []))
def jumpOf : Ex → Option Code
 | .nrm => none
 | .ext id => some (.exit id)
 | .ret => some .ret
structure RecOk (P : Program) (w : World) (m : Mem) (h : List Ob) (las : Las) (lp : Lp) (r : Loop) : Prop where
 asg : ∃ sm, compC P sm r.assign = some (bare lp.asg) ∧ compC P sm r.body = some (bare lp.body)
 ps : r.params.toList = lp.ps
 tr : TR w m h (Lof las) lp.t r.tmps
 st : r.state = if lp.busy then .busy else if lp.pend.isNone then .ready else .done
 pe : lp.busy = false → r.pending = (lp.pend.bind jumpOf)
 pn : lp.pend ≠ some .nrm
structure Lps (P : Program) (w0 : World) (m : Mem) (las : Las) (h : List Ob) (w : World) (lp : List Lp) : Prop where
 len : las.length = lp.length
 nd : (las.map (·.1)).Nodup
 ok : ∀ (l la top : Nat) (x : Lp), las[l]? = some (la, top) → lp[l]? = some x → w0.heap.size ≤ la ∧ top ≤ h.length ∧ ∃ r, w.heap[la]? = some (.loop r) ∧ RecOk P w m (h.take top) (las.take l) x r
structure Sim (P : Program) (w0 : World) (fz0 : Nat → Prop) (B : Nat) (m : Mem) (las : Las) (σ : St) (a : Act) (w : World) : Prop where
 tr : TR w m σ.h (Lof las) σ.t a.tmps
 rel : Rel w0 fz0 m σ.h w
 lps : Lps P w0 m las σ.h w σ.lp
 dfs : Dfs B w a.defers
 bs : w0.heap.size ≤ B ∧ B ≤ w.heap.size
structure Ev (m : Mem) (h : List Ob) (w : World) (m' : Mem) (h' : List Ob) (w' : World) : Prop where
 st : HStep m m' h h'
 cel : ∀ (b : Nat) (arr : Array Value) (ty : TypeId), w.heap[b]? = some (.cells arr ty (0, 0)) → ∃ arr' : Array Value, w'.heap[b]? = some (.cells arr' ty (0, 0)) ∧ arr'.size = arr.size
 map : ∀ (b : Nat) (ents : Array MapEntry) (clock : Nat), w.heap[b]? = some (.map ents clock) → ∃ (ents' : Array MapEntry) (clock' : Nat), w'.heap[b]? = some (.map ents' clock') ∧ ∀ (i : Nat) (e : MapEntry), ents[i]? = some e → ∃ e' : MapEntry, ents'[i]? = some e' ∧ e'.born = e.born
 fk : FKeep w w' m.fz
 fz : ∀ b, m.fz b → m'.fz b
 dfr : ∀ (b : Nat) (ds : Option (List Deferred)), w.heap[b]? = some (.deferred ds) → w'.heap[b]? = some (.deferred ds)
 sz : w.heap.size ≤ w'.heap.size
def Goes (P : Program) (M : Machine) (fr : Frame) (k : List Item) (cs : List Frame) (a' : Act) (w' : World) : Ex → Prop
 | .nrm => Steps P M (lone (fr.atR a' k) cs w')
 | .ext id => ∃ k0, (∀ k, exitTo id (k0 ++ k) = exitTo id k) ∧ Steps P M (lone (fr.atR a' (.code (.exit id) :: (k0 ++ k))) cs w')
 | .ret => ∃ k0, Steps P M (lone (fr.atR a' (.code .ret :: k0)) cs w')
theorem Ev.refl (m : Mem) (h : List Ob) (w : World) : Ev m h w m h w :=
 ⟨HStep.refl m h, (WKeep.refl w).1, (WKeep.refl w).2.1, FKeep.refl w _, fun _ h => h, fun _ _ h => h, Nat.le_refl _⟩
theorem FKeep.trans {w w1 w2 : World} {f f1 : Nat → Prop} (h : FKeep w w1 f) (hf : ∀ b, f b → f1 b) (k : FKeep w1 w2 f1) : FKeep w w2 f :=
 fun b o v hb hc => k b o v (hf b hb) (h b o v hb hc)
theorem Ev.trans {m m1 m2 : Mem} {h h1 h2 : List Ob} {w w1 w2 : World} (x : Ev m h w m1 h1 w1) (y : Ev m1 h1 w1 m2 h2 w2) : Ev m h w m2 h2 w2 := by
 refine ⟨x.st.trans y.st, fun b arr ty hb => ?_, fun b ents clock hb => ?_, x.fk.trans x.fz y.fk, fun b hb => y.fz b (x.fz b hb), fun b ds hb => y.dfr b ds (x.dfr b ds hb), Nat.le_trans x.sz y.sz⟩
 ·obtain ⟨a1, h1, s1⟩ := x.cel b arr ty hb
  obtain ⟨a2, h2, s2⟩ := y.cel b a1 ty h1
  exact ⟨a2, h2, s2.trans s1⟩
 ·obtain ⟨e1, c1, h1, k1⟩ := x.map b ents clock hb
  obtain ⟨e2, c2, h2, k2⟩ := y.map b e1 c1 h1
  refine ⟨e2, c2, h2, fun i e he => ?_⟩
  obtain ⟨e', g1, g2⟩ := k1 i e he
  obtain ⟨e'', g3, g4⟩ := k2 i e' g1
  exact ⟨e'', g3, g4.trans g2⟩
theorem Ev.of_keep {m m' : Mem} {h h' : List Ob} {w w' : World} (hs : HStep m m' h h') (hk : WKeep w w') (hf : FKeep w w' m.fz) (hz : ∀ b, m.fz b → m'.fz b) : Ev m h w m' h' w' :=
 ⟨hs, hk.1, hk.2.1, hf, hz, fun b ds hb => hk.2.2.1 b _ hb rfl, hk.2.2.2⟩
theorem HStep.cut {m m' : Mem} {h h' : List Ob} (hs : HStep m m' h h') (t : Nat) : HStep m m' (h.take t) (h'.take t) := by
 intro r o ho
 have hlt : r < t := by
  have := List.lt_of_some ho
  simp at this; omega
 rw [List.getElem?_take_of_lt hlt] at ho ⊢
 exact hs r o ho
theorem Ev.cut {m m' : Mem} {h h' : List Ob} {w w' : World} (he : Ev m h w m' h' w') (t : Nat) : Ev m (h.take t) w m' (h'.take t) w' := { he with st := he.st.cut t }
theorem HStep.len {m m' : Mem} {h h' : List Ob} (hs : HStep m m' h h') : h.length ≤ h'.length := by
 rcases Nat.eq_zero_or_pos h.length with h0 | h0
 ·omega
 ·obtain ⟨o', ho', _⟩ := hs (h.length - 1) _ (List.getElem?_eq_getElem (by omega))
  have := List.lt_of_some ho'
  omega
end Go.Mw
