/- New rows. -/
import Derived.Test.YtlkjckdddfckeaaM04
namespace Go.Mw
open Go.RowKit
set_option linter.unusedVariables false
set_option linter.unusedSimpArgs false

section
variable {P : Program} {sm : List Nat} {o : Oper} {a : Act} {w0 : World} {fz0 : Nat → Prop} {m : Mem} {w : World} {L : Nat → Nat → Prop} {σ : St} {base : Nat} {i : Ins} {v : AV} {h' : List Ob}

theorem newOb_some {h h' : List Ob} {r st : Nat} {c : AV} (hk : newOb h r c = some (h', st)) : ∃ o, h[r]? = some o ∧ o.c = .gone ∧ st = o.st + 1 ∧ h' = h.set r { st := o.st + 1, ss := 0, c } := by
  unfold newOb at hk
  cases ho : h[r]? with
  | none => simp [ho] at hk
  | some o =>
    simp only [ho] at hk
    split at hk
    · rename_i hc; cases hk; exact ⟨o, rfl, hc, rfl, rfl⟩
    · cases hk

theorem alloc_wkeep (w : World) (ob : Obj) : WKeep w (w.alloc ob) :=
  ⟨fun b arr ty hh => ⟨arr, by rw [Below.heap_alloc _ _ _ (Array.getElem?_eq_some_iff.1 hh).1]; exact hh, rfl⟩,
   fun b ents clock hh => ⟨ents, clock, by rw [Below.heap_alloc _ _ _ (Array.getElem?_eq_some_iff.1 hh).1]; exact hh, fun i e he => ⟨e, he, rfl⟩⟩,
   fun b o hh _ => by rw [Below.heap_alloc _ _ _ (Array.getElem?_eq_some_iff.1 hh).1]; exact hh, by show _ ≤ (w.heap.push ob).size; simp⟩
theorem alloc_new (w : World) (ob : Obj) : (w.alloc ob).heap[w.heap.size]? = some ob := by
  show (w.heap.push ob)[w.heap.size]? = _
  simp
theorem alloc_size (w : World) (ob : Obj) : (w.alloc ob).heap.size = w.heap.size + 1 := by show (w.heap.push ob).size = _; simp

/-- A new object takes the place of one that is gone: references hold on. -/
theorem HStep.new {m m' : Mem} {h h' : List Ob} {s st : Nat} {c : AV} (hk : newOb h s c = some (h', st)) (hb : ∀ r p, r ≠ s → r < h.length → m'.blk r p = m.blk r p) : HStep m m' h h' := by
  obtain ⟨o, ho, hg, rfl, rfl⟩ := newOb_some hk
  intro r2 o2 ho2
  by_cases e : r2 = s
  · subst e
    rw [ho] at ho2; cases ho2
    exact ⟨_, by rw [List.getElem?_set_self (List.lt_of_some ho)], .inl (by simp)⟩
  · exact ⟨o2, by rw [List.getElem?_set_ne (fun h => e h.symm)]; exact ho2, OStep.same (fun p nd _ _ => hb r2 p e (List.lt_of_some ho2))⟩

/-- A new row in a new block: its cells are what was taken. -/
theorem newRow_sound {m1 : Mem} {h1 h2 : List Ob} {cs : List AV} {s st es : Nat} {xs' : List AV} {U : Array Value} {ty : TypeId} (hr1 : Rel w0 fz0 m1 (h1 ++ temps cs) w) (hpos : 0 < es)
    (hnew : newOb h1 s (.own es xs') = some (h2, st)) (hes : ∀ (i : Nat) (e : AV), xs'[i]? = some e → e.cells.length = es) (hU1 : ∀ (j : Nat) (u : Value), U[j]? = some u → u.oneCell' = true) (hUl : xs'.length * es ≤ U.size)
    (hcell : ∀ (i j : Nat) (e c : AV), xs'[i]? = some e → e.cells[j]? = some c → ∃ u, U[i * es + j]? = some u ∧ c.one = true ∧
      ((isNode c = false ∧ VRel0 w m1.fz c u) ∨ (∃ es' ys, cs[i * es + j]? = some c ∧ c = .own es' ys ∧ SliceAt w m1 (h1.length + (i * es + j)) [] es' 0 ys.length u))) :
    ∃ m2 : Mem, Rel w0 fz0 m2 h2 (w.alloc (.cells U ty)) ∧ HStep m1 m2 h1 h2 ∧ m2.fz = m1.fz ∧ m2.blk s [] = (w.heap.size, 0) ∧ WKeep w (w.alloc (.cells U ty)) ∧ FKeep w (w.alloc (.cells U ty)) m1.fz ∧ h2.length = h1.length := by
  obtain ⟨ob, hob, hgone, rfl, rfl⟩ := newOb_some hnew
  have hsl := List.lt_of_some hob
  have hwk := alloc_wkeep w (.cells U ty)
  have hfk : FKeep w (w.alloc (.cells U ty)) m1.fz := by
    intro b off u hb hc
    exact (World.cell?_of_block (a := ⟨b, off, none⟩) (Below.heap_alloc w _ b (hr1.fzlt b hb))).trans hc
  let xs0 : List AV := xs'.map fun _ => .agg (List.replicate es .gone)
  let h0 : List Ob := (h1 ++ temps cs).set s { st := 0, ss := 0, c := .own es xs0 }
  have hsl' : s < (h1 ++ temps cs).length := by simp; omega
  have hr2 := hr1.newRoot (h' := h0) (w' := w.alloc (.cells U ty)) s (.own es xs0) (hr1.below.alloc hr1.below.size _) (by rw [alloc_size]; omega) (fun k hk => Below.heap_alloc _ _ _ hk)
    ⟨_, by simp only [h0]; rw [List.getElem?_set_self hsl'], rfl⟩
    (.inl ⟨es, xs0, U, ty, rfl, hpos, alloc_new _ _, by simpa [xs0] using hUl, hU1, fun i e he => by
      simp only [xs0, List.getElem?_map] at he
      cases hx : xs'[i]? with
      | none => simp [hx] at he
      | some e' =>
        simp [hx] at he
        subst he
        refine ⟨by simp [AV.cells], fun j d hd => ?_⟩
        simp only [AV.cells] at hd
        exact (List.eq_of_mem_replicate (List.mem_of_getElem? hd))⟩)
    (fun r2 o2 hne ho2 hi => ⟨o2, by simp only [h0] at ho2; rw [List.getElem?_set_ne (fun h => hne h.symm)] at ho2; exact ho2, rfl⟩)
  have hbs : setBlk m1 s (w.heap.size, 0) s [] = (w.heap.size, 0) := by simp [setBlk]
  have hbne : ∀ r p, r ≠ s → setBlk m1 s (w.heap.size, 0) r p = m1.blk r p := fun r p h => by simp [setBlk, h]
  have hn0 : nodeAt h0 s [] = some (.own es xs0) := nodeAt_eq.2 ⟨_, by simp only [h0]; rw [List.getElem?_set_self hsl'], nav_nil _⟩
  let tf : Nat → Nat → Option (Nat × Path) := fun i j => if i < xs'.length ∧ j < es then match cs[i * es + j]? with
    | some c => if isNode c then match (xs'[i]?).bind (·.cells[j]?) with
      | some d => if isNode d then some (h1.length + (i * es + j), []) else none
      | none => none
      else none
    | none => none
    else none
  have htf : ∀ i j T q, tf i j = some (T, q) → i < xs'.length ∧ j < es ∧ T = h1.length + (i * es + j) ∧ q = [] := by
    intro i j T q h
    simp only [tf] at h
    split at h
    · rename_i hc
      split at h
      · split at h
        · split at h
          · split at h
            · cases h; exact ⟨hc.1, hc.2, rfl, rfl⟩
            · cases h
          · cases h
        · cases h
      · cases h
    · cases h
  have hput := hr2.put (h' := h1.set s { st := ob.st + 1, ss := 0, c := .own es xs' }) (w' := w.alloc (.cells U ty)) (arr := U) (arr' := U) (ty := ty) hn0 hr2.below (Nat.le_refl _) (fun _ _ _ => rfl) (WKeep.refl _)
    (by show (w.alloc (.cells U ty)).heap[(setBlk m1 s (w.heap.size, 0) s []).1]? = _; rw [hbs]; exact alloc_new _ _)
    (by show (w.alloc (.cells U ty)).heap[(setBlk m1 s (w.heap.size, 0) s []).1]? = _; rw [hbs]; exact alloc_new _ _) tf (xs' := xs') hes ?_ ?_ ?_ (.inl rfl) ?_ ?_
  rotate_left
  · intro i j e c he hc
    obtain ⟨u, k1, k2, k3⟩ := hcell i j e c he hc
    have hil := List.lt_of_some he
    have hjl : j < es := by rw [← hes i e he]; exact List.lt_of_some hc
    refine ⟨k2, u, ?_, hU1 _ _ k1, ?_⟩
    · show U[(setBlk m1 s (w.heap.size, 0) s []).2 + (i * es + j)]? = some u
      rw [hbs]; simpa using k1
    · rcases k3 with ⟨k3, k4⟩ | ⟨es', ys, k5, rfl, k6⟩
      · refine .inl ⟨?_, k3, ?_⟩
        · cases ht : tf i j with
          | none => rfl
          | some Tq =>
            exfalso
            simp only [tf] at ht
            rw [if_pos ⟨hil, hjl⟩] at ht
            split at ht
            · split at ht
              · rw [he] at ht
                simp only [Option.bind_some, hc] at ht
                rw [k3] at ht
                simp at ht
              · cases ht
            · cases ht
        · have k4' := k4.mono hfk (fun _ h => h)
          cases c <;> first | exact k4' | exact True.intro | (simp [isNode] at k3)
      · refine .inr (.inr ⟨h1.length + (i * es + j), [], ?_, ?_, rfl, ?_⟩)
        · simp only [tf]
          rw [if_pos ⟨hil, hjl⟩, k5]
          simp only [isNode, if_true]
          rw [he]
          simp only [Option.bind_some, hc, isNode, if_true]
        · obtain ⟨o', e1, e2⟩ := nodeAt_eq.1 (temps_get k5 rfl h1)
          refine nodeAt_eq.2 ⟨o', ?_, e2⟩
          simp only [h0]
          rw [List.getElem?_set_ne (by omega)]
          exact e1
        · simp only [CellR]
          exact k6.mono hwk (hbne _ _ (by omega))
  · intro i j T q h
    obtain ⟨_, _, rfl, _⟩ := htf i j T q h
    omega
  · intro i j i' j' T q T' q' e1 e2 hne
    obtain ⟨a1, a2, rfl, rfl⟩ := htf _ _ _ _ e1
    obtain ⟨b1, b2, rfl, rfl⟩ := htf _ _ _ _ e2
    refine .inl (fun he => hne ?_)
    have he : i * es + j = i' * es + j' := by omega
    have hi : i = i' := by
      rcases Nat.lt_trichotomy i i' with h | h | h
      · have : (i + 1) * es ≤ i' * es := Nat.mul_le_mul_right _ h
        rw [Nat.add_mul] at this; omega
      · exact h
      · have : (i' + 1) * es ≤ i * es := Nat.mul_le_mul_right _ h
        rw [Nat.add_mul] at this; omega
    subst hi
    have : j = j' := by omega
    subst this; rfl
  · intro r2 o2 hne ho2 hi2
    rw [List.getElem?_set_ne (fun h => hne h.symm)] at ho2
    have hlt2 := List.lt_of_some ho2
    refine ⟨o2, ?_, rfl, fun i' j' T q h => ?_⟩
    · simp only [h0]
      rw [List.getElem?_set_ne (fun h => hne h.symm), List.getElem?_append_left hlt2]; exact ho2
    · obtain ⟨_, _, rfl, _⟩ := htf i' j' T q h
      omega
  · exact ⟨_, _, by simp only [h0]; rw [List.getElem?_set_self hsl'], by rw [List.getElem?_set_self hsl], upd_nil _ _⟩
  refine ⟨_, hput, HStep.new hnew (fun r p hne _ => ?_), rfl, ?_, hwk, hfk, by simp⟩
  · show putBlk { blk := setBlk m1 s (w.heap.size, 0), fz := m1.fz } s [] tf r p = _
    rw [putBlk_ne hne]; exact hbne r p hne
  · show putBlk { blk := setBlk m1 s (w.heap.size, 0), fz := m1.fz } s [] tf s [] = _
    rw [putBlk_self]; exact hbs

theorem remake_cells {h : List Ob} {n : Nat} {v : AV} {vs cs : List AV} (hv : vcells h n v = some vs) (hl : cs.length = vs.length) (h1 : ∀ c ∈ cs, c.one = true) : (remake v cs).cells = cs := by
  unfold vcells at hv
  split at hv
  · rfl
  · rename_i hna
    split at hv
    · cases hv
      match cs, hl with
      | [c], _ =>
        have hc := AV.one_ne (h1 c (List.mem_cons_self ..))
        have : remake v [c] = c := by
          cases v <;> first | rfl | (exact absurd rfl (hna _))
        rw [this]; exact cells_of_one _ hc
    · cases hv

theorem takeVals_sound (n : Nat) : ∀ (vals : List AV) (us : List Value) (vs' : List AV) (h h1 tl : List Ob) (m : Mem), Rel w0 fz0 m (h ++ tl) w →
    (∀ (j : Nat) (d : AV) (u : Value), vals[j]? = some d → us[j]? = some u → VRel w m.fz (RefR w m h L) d u) → us.length = vals.length →
    takeVals h n vals = some (vs', h1) →
    ∃ (m1 : Mem), m1.fz = m.fz ∧ Rel w0 fz0 m1 (h1 ++ tl ++ temps (vs'.flatMap AV.cells)) w ∧ h1.length = h.length ∧ HStep m m1 h h1 ∧ (∀ r p, r < h.length + tl.length → m1.blk r p = m.blk r p) ∧ vs'.length = vals.length ∧
      (∀ (i : Nat) (e : AV), vs'[i]? = some e → e.cells.length = n) ∧ (∀ (i : Nat) (u : Value), us[i]? = some u → u.cells.size = n) ∧
      (∀ (i j : Nat) (e c : AV) (u x : Value), vs'[i]? = some e → e.cells[j]? = some c → us[i]? = some u → u.cells[j]? = some x → c.one = true ∧ x.oneCell' = true ∧
        ((isNode c = false ∧ VRel0 w m.fz c x) ∨ (∃ es xs, c = .own es xs ∧ SliceAt w m1 (h.length + tl.length + (i * n + j)) [] es 0 xs.length x))) := by
  intro vals
  induction vals with
  | nil =>
    intro us vs' h h1 tl m hr _ hl hk
    simp [takeVals] at hk
    obtain ⟨rfl, rfl⟩ := hk
    have : us = [] := List.eq_nil_of_length_eq_zero hl
    subst this
    exact ⟨m, rfl, by simpa [temps] using hr, rfl, HStep.refl m h, fun _ _ _ => rfl, rfl, fun i e h => by simp at h, fun i u h => by simp at h, fun i j e c u x h => by simp at h⟩
  | cons v vals ih =>
    intro us vs' h h2 tl m hr hv hlen hk
    cases us with
    | nil => simp at hlen
    | cons u us =>
      simp only [takeVals, takeVal] at hk
      cases hvc : vcells h n v with
      | none => simp [hvc] at hk
      | some vs =>
        simp only [hvc] at hk
        cases htk : takeCells h vs with
        | none => simp [htk] at hk
        | some csh =>
          obtain ⟨cs, h1⟩ := csh
          simp only [htk] at hk
          cases hrest : takeVals h1 n vals with
          | none => simp [hrest] at hk
          | some rh =>
            obtain ⟨vs'', h2'⟩ := rh
            simp only [hrest, Option.some.injEq, Prod.mk.injEq] at hk
            obtain ⟨rfl, rfl⟩ := hk
            obtain ⟨v1, v2, v3⟩ := vcells_rel (hv 0 v u rfl rfl) hvc
            obtain ⟨m1, hfz1, hr1, hl1, hst1, hbk1, hcl1, hall1⟩ := takeCells_sound (w0 := w0) (fz0 := fz0) (L := L) vs u.cells.toList cs h h1 tl m hr (fun jj d x hd' hu' => v3 jj d x hd' (by simpa using hu')) (by simp [v1, v2]) htk
            have hcn : cs.length = n := by rw [hcl1, v1]
            have hone : ∀ c ∈ cs, c.one = true := by
              intro c hc
              obtain ⟨k, hk1, hk2⟩ := List.mem_iff_getElem.1 hc
              have hk3 : k < u.cells.toList.length := by simp [v2]; omega
              exact (hall1 k c _ (by rw [List.getElem?_eq_getElem hk1, hk2]) (List.getElem?_eq_getElem hk3)).1
            have hrc := remake_cells (cs := cs) hvc hcl1 hone
            have hv' : ∀ (j : Nat) (d : AV) (x : Value), vals[j]? = some d → us[j]? = some x → VRel w m1.fz (RefR w m1 h1 L) d x := by
              intro j d x hd hx
              exact (hv (j + 1) d x hd hx).mono (fun _ _ _ _ h => h) (fun b hb => hfz1 ▸ hb) (fun v c hrr => RefR.mono (WKeep.refl w) hst1 (fun _ _ h => h) hrr)
            obtain ⟨m2, hfz2, hr2, hl2, hst2, hbk2, hvl2, hes2, hus2, hall2⟩ := ih us vs'' h1 h2' (tl ++ temps cs) m1 (by rw [← List.append_assoc]; exact hr1) hv' (by simpa using hlen) hrest
            have htl : (temps cs).length = n := by simp [temps, hcn]
            refine ⟨m2, hfz2.trans hfz1, ?_, hl2.trans hl1, hst1.trans hst2, fun r p hrp => ?_, by simp [hvl2], fun i e he => ?_, fun i x hx => ?_, fun i j e c x y he hc hx hy => ?_⟩
            · rw [List.flatMap_cons, hrc]
              have : temps (cs ++ vs''.flatMap AV.cells) = temps cs ++ temps (vs''.flatMap AV.cells) := by simp [temps]
              rw [this]
              simpa [List.append_assoc] using hr2
            · rw [hbk2 r p (by simp; omega), hbk1 r p hrp]
            · cases i with
              | zero => simp at he; subst he; rw [hrc]; exact hcn
              | succ i => exact hes2 i e (by simpa using he)
            · cases i with
              | zero => simp at hx; subst hx; exact v2
              | succ i => exact hus2 i x (by simpa using hx)
            · cases i with
              | zero =>
                simp at he hx
                subst he; subst hx
                rw [hrc] at hc
                obtain ⟨k1, k2, k3⟩ := hall1 j c y hc (by simpa using hy)
                refine ⟨k1, k2, ?_⟩
                rcases k3 with k3 | ⟨es, xs, rfl, hs⟩
                · exact .inl k3
                · refine .inr ⟨es, xs, rfl, ?_⟩
                  rw [Nat.zero_mul, Nat.zero_add]
                  have hjn : j < n := by rw [← hcn]; exact List.lt_of_some hc
                  exact SliceAt.mono (WKeep.refl w) (hbk2 _ _ (by simp [htl]; omega)) hs
              | succ i =>
                simp at he hx
                obtain ⟨k1, k2, k3⟩ := hall2 i j e c x y he hc hx hy
                refine ⟨k1, k2, ?_⟩
                rcases k3 with ⟨k3, k4⟩ | ⟨es, xs, rfl, hs⟩
                · exact .inl ⟨k3, hfz1 ▸ k4⟩
                · refine .inr ⟨es, xs, rfl, ?_⟩
                  have e1 : h1.length + (tl ++ temps cs).length + (i * n + j) = h.length + tl.length + ((i + 1) * n + j) := by
                    simp only [List.length_append, htl]; rw [Nat.add_mul]; omega
                  rw [e1] at hs; exact hs
end
end Go.Mw

/- Operations that make memory. -/
namespace Go.Mw
open Go.RowKit
set_option linter.unusedVariables false
set_option linter.unusedSimpArgs false

section
variable {P : Program} {sm : List Nat} {o : Oper} {a : Act} {w0 : World} {fz0 : Nat → Prop} {m : Mem} {w : World} {L : Nat → Nat → Prop} {σ : St} {base : Nat} {i : Ins} {v : AV} {h' : List Ob}

/-- A value's cells, out of what stands for it. -/
theorem cells_of_rel0 {w : World} {fz : Nat → Prop} {z : AV} {zv : Value} (h : ofV zv = some z) : zv.cells.size = z.cells.length ∧ ∀ (j : Nat) (d : AV) (u : Value), z.cells[j]? = some d → zv.cells[j]? = some u → d.one = true ∧ u.oneCell' = true ∧ d.plain = true ∧ VRel0 w fz d u := by
  unfold ofV at h
  split at h
  · rename_i cs
    cases hl : ofL ofV0 cs.toList with
    | none => simp [hl] at h
    | some xs =>
      simp [hl] at h
      subst h
      obtain ⟨h1, h2⟩ := ofL_rel hl
      refine ⟨by simpa [Value.cells, AV.cells] using h1, fun j d u hd hu => ?_⟩
      simp only [AV.cells, Value.cells] at hd hu
      obtain ⟨g1, g2, g3, g4⟩ := ofV0_rel (w := w) (fz := fz) (h2 j d u hd (by simpa using hu))
      exact ⟨g2, g3, g4, g1⟩
  · obtain ⟨g1, g2, g3, g4⟩ := ofV0_rel (w := w) (fz := fz) h
    have e1 : z.cells = [z] := cells_of_one _ (AV.one_ne g2)
    have e2 : zv.cells = #[zv] := by cases zv <;> simp_all [Value.cells, Value.oneCell']
    rw [e1, e2]
    refine ⟨rfl, fun j d u hd hu => ?_⟩
    cases j with
    | zero => simp at hd hu; subst hd; subst hu; exact ⟨g2, g3, g4, g1⟩
    | succ j => simp at hd

theorem ptr_new {w : World} {m2 : Mem} {h1 h2 : List Ob} {r st es : Nat} {xs : List AV} {b : Nat} (hnew : newOb h1 r (.own es xs) = some (h2, st)) (hb : m2.blk r [] = (b, 0)) :
    VRel w m2.fz (RefR w m2 h2 L) (.ptr r st [] 0 0 0) (.pointer (some ⟨b, 0, none⟩)) := by
  obtain ⟨ob, hob, _, rfl, rfl⟩ := newOb_some hnew
  refine .ref _ _ rfl ⟨_, List.getElem?_set_self (List.lt_of_some hob), Nat.le_refl _, fun _ h => absurd rfl h, fun es' xs' hn => ?_⟩
  rw [hb]; simp
theorem sl_new {w : World} {m2 : Mem} {h1 h2 : List Ob} {r st es : Nat} {xs : List AV} {b : Nat} (hnew : newOb h1 r (.own es xs) = some (h2, st)) (hb : m2.blk r [] = (b, 0)) {len cap : Nat} (hlen : len = xs.length) (hcap : len ≤ cap)
    {U : Array Value} {ty : TypeId} (hw : w.heap[b]? = some (.cells U ty (0, 0))) (hU : cap * es ≤ U.size) :
    VRel w m2.fz (RefR w m2 h2 L) (.sl r st [] 0 0 len) (.slice (some ⟨b, 0, none⟩) len cap) := by
  obtain ⟨ob, hob, _, rfl, rfl⟩ := newOb_some hnew
  refine .ref _ _ rfl ⟨_, List.getElem?_set_self (List.lt_of_some hob), Nat.le_refl _, fun _ h => absurd rfl h, fun es' xs' hn => ?_⟩
  obtain ⟨o', e1, _, _, e2⟩ := node_eq.1 hn
  rw [List.getElem?_set_self (List.lt_of_some hob)] at e1; cases e1
  rw [nav_nil] at e2; cases e2
  exact ⟨by omega, _, cap, rfl, hcap, .inr ⟨by rw [hb]; simp, U, ty, by rw [hb]; exact hw, by rw [hb]; simpa using hU⟩⟩

theorem ok_box (ht : TR w m σ.h L σ.t a.tmps) (hr : Rel w0 fz0 m σ.h w) {t : TypeId} {x : Operand} {x' : Opd} {s n : Nat} (ho : o.op = .box t x)
    (h1 : opd x = some x') (hx : ax base (.box s n x') σ = some (v, h')) : OpOk P o a w0 fz0 m σ.h w L v h' := by
  have hb := ht.get (a := a) h1
  simp only [ax] at hx
  split at hx
  · rename_i hpos
    cases htk : takeVal σ.h n (σ.get x') with
    | none => simp [htk] at hx
    | some vh =>
      obtain ⟨v', hh1⟩ := vh
      simp only [htk] at hx
      cases hnew : newOb hh1 (base + s) (.own n [v']) with
      | none => simp [hnew] at hx
      | some hs =>
        obtain ⟨hf, st⟩ := hs
        simp only [hnew, Option.some.injEq, Prod.mk.injEq] at hx
        obtain ⟨rfl, rfl⟩ := hx
        obtain ⟨m1, hfz, hr1, hl1, hst1, hbk1, _, hes, hus, hall⟩ := takeVals_sound (w0 := w0) (fz0 := fz0) (L := L) n [σ.get x'] [a.eval x] [v'] σ.h hh1 [] m (by simpa using hr)
          (fun j d u hd hu => by
            cases j with
            | zero => simp at hd hu; subst hd; subst hu; exact hb
            | succ j => simp at hd) rfl (by simp [takeVals, htk])
        simp only [List.append_nil, List.length_nil, Nat.add_zero] at hr1 hbk1 hall
        have hcn := hes 0 v' rfl
        have hun := hus 0 _ rfl
        have hone : ∀ (j : Nat) (u : Value), (a.eval x).cells[j]? = some u → u.oneCell' = true := fun j u hu => by
          have hlt : j < v'.cells.length := by rw [hcn, ← hun]; exact (Array.getElem?_eq_some_iff.1 hu).1
          exact (hall 0 j v' _ (a.eval x) u rfl (List.getElem?_eq_getElem hlt) rfl hu).2.1
        obtain ⟨m2, hr2, hst2, hfz2, hbk2, hwk, hfk, hl2⟩ := newRow_sound (U := (a.eval x).cells) (ty := t) hr1 hpos hnew (fun i e he => hes i e he) hone (by simp [hun])
          (fun i j e c he hc => by
            cases i with
            | succ i => simp at he
            | zero =>
              simp at he; subst he
              have hlt : j < (a.eval x).cells.size := by rw [hun, ← hcn]; exact List.lt_of_some hc
              obtain ⟨k1, k2, k3⟩ := hall 0 j v' c (a.eval x) _ rfl hc rfl (Array.getElem?_eq_getElem hlt)
              refine ⟨_, by rw [Nat.zero_mul, Nat.zero_add]; exact Array.getElem?_eq_getElem hlt, k1, ?_⟩
              rcases k3 with ⟨k3, k4⟩ | ⟨es, ys, rfl, k4⟩
              · exact .inl ⟨k3, hfz ▸ k4⟩
              · refine .inr ⟨es, ys, by simp [hc], rfl, ?_⟩
                rw [hl1]; simpa using k4)
        refine ⟨.pointer (some ⟨w.heap.size, 0, none⟩), w.alloc (.cells (a.eval x).cells t), m2, .inl ?_, hr2, hst1.trans hst2, hwk, by rw [← hfz]; exact hfk, fun b h => by rw [hfz2, hfz]; exact h, by rw [hl2, hl1], ptr_new hnew hbk2⟩
        simp [execOp, ho, Instr.box, newVar, newRow]
  · cases hx

theorem ok_alc (ht : TR w m σ.h L σ.t a.tmps) (hr : Rel w0 fz0 m σ.h w) {t : TypeId} {s n : Nat} {z : AV} (ho : o.op = .alloc t)
    (hz : zeroT P t = some z) (hx : ax base (.alc s n z) σ = some (v, h')) : OpOk P o a w0 fz0 m σ.h w L v h' := by
  obtain ⟨d, zv, hi, hzv, hov⟩ := zeroT_some hz
  simp only [ax] at hx
  split at hx
  · rename_i hc
    obtain ⟨hcn, hpos, hpl⟩ := hc
    cases hnew : newOb σ.h (base + s) (.own n [z]) with
    | none => simp [hnew] at hx
    | some hs =>
      obtain ⟨hf, st⟩ := hs
      simp only [hnew, Option.some.injEq, Prod.mk.injEq] at hx
      obtain ⟨rfl, rfl⟩ := hx
      obtain ⟨z1, z2⟩ := cells_of_rel0 (w := w) (fz := m.fz) hov
      have hone : ∀ (j : Nat) (u : Value), zv.cells[j]? = some u → u.oneCell' = true := fun j u hu => by
        have hlt : j < z.cells.length := by rw [← z1]; exact (Array.getElem?_eq_some_iff.1 hu).1
        exact (z2 j _ u (List.getElem?_eq_getElem hlt) hu).2.1
      obtain ⟨m2, hr2, hst2, hfz2, hbk2, hwk, hfk, hl2⟩ := newRow_sound (cs := []) (U := zv.cells) (ty := t) (by simpa [temps] using hr) hpos hnew (fun i e he => by
          cases i with
          | zero => simp at he; subst he; exact hcn
          | succ i => simp at he) hone (by simp [z1, hcn])
        (fun i j e c he hc => by
          cases i with
          | succ i => simp at he
          | zero =>
            simp at he; subst he
            have hlt : j < zv.cells.size := by rw [z1]; exact List.lt_of_some hc
            obtain ⟨k1, k2, k3, k4⟩ := z2 j c _ hc (Array.getElem?_eq_getElem hlt)
            exact ⟨_, by rw [Nat.zero_mul, Nat.zero_add]; exact Array.getElem?_eq_getElem hlt, k1, .inl ⟨(plain_one k3).2, k4⟩⟩)
      refine ⟨.pointer (some ⟨w.heap.size, 0, none⟩), w.alloc (.cells zv.cells t), m2, .inl ?_, hr2, hst2, hwk, hfk, fun b h => by rw [hfz2]; exact h, hl2, ptr_new hnew hbk2⟩
      simp [execOp, ho, Instr.alloc, run_zeroValue hi hzv, newVar, newRow]
  · cases hx

theorem rep_cells {z : Array Value} (n k : Nat) (hk : 0 < k) (hz : z.size = k) (i j : Nat) (hi : i < n) (hj : j < k) : ((Array.range (n * k)).map fun q => z[q % z.size]!)[i * k + j]? = z[j]? := by
  have hlt : i * k + j < n * k := by
    have : (i + 1) * k ≤ n * k := Nat.mul_le_mul_right _ hi
    rw [Nat.add_mul] at this; omega
  rw [Array.getElem?_map, Array.getElem?_range, if_pos hlt]
  simp only [Option.map_some, hz]
  have : (i * k + j) % k = j := by rw [Nat.add_comm, Nat.add_mul_mod_self_right, Nat.mod_eq_of_lt hj]
  rw [this]
  have hjz : j < z.size := by omega
  rw [getElem!_pos z j hjz, Array.getElem?_eq_getElem hjz]

theorem ok_mks (ht : TR w m σ.h L σ.t a.tmps) (hr : Rel w0 fz0 m σ.h w) {t e : TypeId} {l c : Operand} {l' c' : Opd} {s : Nat} {z : AV} {inf : TypeInfo} (ho : o.op = .makeSlice t l c)
    (hu : P.underlying t = some (.slice e)) (hi : P.info? e = some inf) (hz : zeroT P e = some z) (hcz : z.cells.length = inf.size) (hpl : z.cells.all AV.plain = true) (h1 : opd l = some l') (h2 : opd c = some c')
    (hx : ax base (.mks s inf.size inf.bytes z l' c') σ = some (v, h')) : OpOk P o a w0 fz0 m σ.h w L v h' := by
  have hb := ht.get (a := a) h1
  have hd := ht.get (a := a) h2
  obtain ⟨d, zv, hi', hzv, hov⟩ := zeroT_some hz
  rw [hi] at hi'; cases hi'
  simp only [ax] at hx
  generalize hg1 : σ.get l' = g at hx hb
  generalize hg2 : σ.get c' = g' at hx hd
  split at hx
  · rename_i q q'
    split at hx
    · rename_i hc
      obtain ⟨rfl, h0, hmax, hby, hpos⟩ := hc
      cases hnew : newOb σ.h (base + s) (.own inf.size (List.replicate q.toNat z)) with
      | none => simp [hnew] at hx
      | some hs =>
        obtain ⟨hf, st⟩ := hs
        simp only [hnew, Option.some.injEq, Prod.mk.injEq] at hx
        obtain ⟨rfl, rfl⟩ := hx
        obtain ⟨z1, z2⟩ := cells_of_rel0 (w := w) (fz := m.fz) hov
        have hzs : zv.cells.size = inf.size := by rw [z1, hcz]
        let U : Array Value := (Array.range (q.toNat * inf.size)).map fun k => zv.cells[k % zv.cells.size]!
        have hUs : U.size = q.toNat * inf.size := by simp [U]
        have hUget : ∀ (i j : Nat), i < q.toNat → j < inf.size → U[i * inf.size + j]? = zv.cells[j]? := fun i j hi hj => rep_cells q.toNat inf.size hpos hzs i j hi hj
        have hone0 : ∀ (j : Nat) (u : Value), zv.cells[j]? = some u → u.oneCell' = true := fun j u hu => by
          have hlt : j < z.cells.length := by rw [← z1]; exact (Array.getElem?_eq_some_iff.1 hu).1
          exact (z2 j _ u (List.getElem?_eq_getElem hlt) hu).2.1
        have hone : ∀ (j : Nat) (u : Value), U[j]? = some u → u.oneCell' = true := fun j u hu => by
          have hlt : j < q.toNat * inf.size := by rw [← hUs]; exact (Array.getElem?_eq_some_iff.1 hu).1
          have e1 : j = (j / inf.size) * inf.size + j % inf.size := by rw [Nat.mul_comm]; exact (Nat.div_add_mod j inf.size).symm
          have e2 : j / inf.size < q.toNat := Nat.div_lt_of_lt_mul (by rw [Nat.mul_comm]; exact hlt)
          rw [e1, hUget _ _ e2 (Nat.mod_lt _ hpos)] at hu
          exact hone0 _ _ hu
        obtain ⟨m2, hr2, hst2, hfz2, hbk2, hwk, hfk, hl2⟩ := newRow_sound (cs := []) (U := U) (ty := e) (by simpa [temps] using hr) hpos hnew (fun i x he => by
            have := List.eq_of_mem_replicate (List.mem_of_getElem? he); subst this; exact hcz) hone (by simp [hUs])
          (fun i j x c he hc => by
            have hil := List.lt_of_some he
            simp at hil
            have := List.eq_of_mem_replicate (List.mem_of_getElem? he)
            subst this
            have hjl : j < inf.size := by rw [← hcz]; exact List.lt_of_some hc
            have hlt : j < zv.cells.size := by omega
            obtain ⟨k1, k2, k3, k4⟩ := z2 j c _ hc (Array.getElem?_eq_getElem hlt)
            exact ⟨_, by rw [hUget i j (by omega) hjl]; exact Array.getElem?_eq_getElem hlt, k1, .inl ⟨(plain_one k3).2, k4⟩⟩)
        refine ⟨.slice (some ⟨w.heap.size, 0, none⟩) q.toNat q.toNat, w.alloc (.cells U e), m2, .inl ?_, hr2, hst2, hwk, hfk, fun b h => by rw [hfz2]; exact h, hl2,
          sl_new hnew hbk2 (by simp) (Nat.le_refl _) (alloc_new _ _) (by rw [hUs]; exact Nat.le_refl _)⟩
        have hwrap : IntKind.i64.wrap q = q := by
          have := IntWalk.i64_in q (by omega)
          exact this
        have hbytes : ¬ ((inf.bytes : Int) * q > 2 ^ 48) := by
          have h3 : (inf.bytes : Int) * q ≤ 4096 * 4294967296 := Int.mul_le_mul (by omega) hmax h0 (by omega)
          omega
        simp only [execOp, ho, Instr.makeSlice, hb.inv_int, hd.inv_int]
        simp only [Sem.run_bind, run_underlying hu, Result.andThen, asInt, asIntOf, run_typeInfo hi, hwrap]
        by_cases hq0 : q = 0
        · subst hq0
          simp [run_sizeOf (P := P) (t := e) (n := inf.size) (by simp [szT, hi]), newRow, U, hwrap]
          have hr0 : Array.range 0 = #[] := rfl
          rw [hr0]; simp
        · have hne : q.toNat * inf.size ≠ 0 := by
            have : 0 < q.toNat := by omega
            exact Nat.mul_ne_zero (by omega) (by omega)
          have hneg : ¬ q < 0 := by omega
          have hbytes2 : ¬ (281474976710656 < (inf.bytes : Int) * q) := by
            have h3 : (inf.bytes : Int) * q ≤ 4096 * 4294967296 := Int.mul_le_mul (by omega) hmax h0 (by omega)
            omega
          have hne2 : ¬ q.toNat = 0 := by omega
          have hne3 : ¬ inf.size = 0 := by omega
          simp [run_sizeOf (P := P) (t := e) (n := inf.size) (by simp [szT, hi]), newRow, U, hneg, hbytes2, run_zeroValue hi hzv, hne2, hne3, hwrap]
          rw [if_neg hne]
    · cases hx
  · cases hx
end
end Go.Mw

/- Slice literals, append. -/
namespace Go.Mw
open Go.RowKit
set_option linter.unusedVariables false
set_option linter.unusedSimpArgs false

section
variable {P : Program} {sm : List Nat} {o : Oper} {a : Act} {w0 : World} {fz0 : Nat → Prop} {m : Mem} {w : World} {L : Nat → Nat → Prop} {σ : St} {base : Nat} {i : Ins} {v : AV} {h' : List Ob}

theorem partsL_spec : ∀ {ps : List (Nat × Operand)} {k : Nat} {xs : List Opd}, partsL k ps = some xs →
    xs.length = ps.length ∧ ∀ (j : Nat) (i : Nat) (x : Operand) (y : Opd), ps[j]? = some (i, x) → xs[j]? = some y → i = k + j ∧ opd x = some y := by
  intro ps
  induction ps with
  | nil => intro k xs h; simp [partsL] at h; subst h; exact ⟨rfl, fun j i x y h => by simp at h⟩
  | cons p ps ih =>
    intro k xs h
    obtain ⟨i, x⟩ := p
    simp only [partsL] at h
    split at h
    · rename_i hik
      subst hik
      split at h
      · rename_i y r h1 h2
        cases h
        obtain ⟨g1, g2⟩ := ih h2
        refine ⟨by simp [g1], fun j i' x' y' hp hq => ?_⟩
        cases j with
        | zero => simp at hp hq; obtain ⟨rfl, rfl⟩ := hp; subst hq; exact ⟨rfl, h1⟩
        | succ j =>
          obtain ⟨e1, e2⟩ := g2 j i' x' y' (by simpa using hp) (by simpa using hq)
          exact ⟨by omega, e2⟩
      · cases h
    · cases h

/-- all parts of a slice's literal, in their order -/
theorem fill_all (sz : Nat) : ∀ (us : List Value) (k : Nat) (X : Array Value), (∀ u ∈ us, u.cells.size = sz) → k * sz + us.length * sz ≤ X.size →
    Instr.fill (fun i => some (i * sz, sz)) X ((us.zipIdx k).map fun (u, i) => (i, u)) = some (X.toList.take (k * sz) ++ us.flatMap (fun u => u.cells.toList) ++ X.toList.drop (k * sz + us.length * sz)).toArray := by
  intro us
  induction us with
  | nil => intro k X _ _; simp [Instr.fill]
  | cons u us ih =>
    intro k X hu hl
    have hus := hu u (List.mem_cons_self ..)
    simp only [List.length_cons, Nat.add_mul, Nat.one_mul] at hl
    simp only [List.zipIdx_cons, List.map_cons, Instr.fill]
    have hc : ¬ ((decide (u.cells.size ≠ sz) || decide (k * sz + u.cells.size > X.size)) = true) := by simp [hus]; omega
    rw [if_neg hc]
    have hfold := fill_fold u.cells.toList (k * sz) 0 X (by simp [hus]; omega)
    have heq : (u.cells.zipIdx.foldl (fun (cs : Array Value) (x : Value × Nat) => cs.setIfInBounds (k * sz + x.2) x.1) X) = (X.toList.take (k * sz) ++ u.cells.toList ++ X.toList.drop (k * sz + sz)).toArray := by
      apply Array.toList_inj.1
      rw [← Array.foldl_toList, Array.toList_zipIdx, hfold]
      simp [hus]
    rw [heq, ih (k + 1) _ (fun x hx => hu x (List.mem_cons_of_mem _ hx)) (by simp [hus]; rw [Nat.add_mul]; omega)]
    congr 2
    have l1 : (List.take (k * sz) X.toList).length = k * sz := by simp; omega
    have l2 : (List.take (k * sz) X.toList ++ u.cells.toList).length = (k + 1) * sz := by simp [hus]; rw [Nat.add_mul]; omega
    simp only [List.flatMap_cons]
    have e1 : List.take ((k + 1) * sz) (List.take (k * sz) X.toList ++ u.cells.toList ++ List.drop (k * sz + sz) X.toList) = List.take (k * sz) X.toList ++ u.cells.toList := by
      rw [← l2, List.take_left]
    have e2 : List.drop ((k + 1) * sz + us.length * sz) (List.take (k * sz) X.toList ++ u.cells.toList ++ List.drop (k * sz + sz) X.toList) = List.drop (k * sz + (u :: us).length * sz) X.toList := by
      have e3 : (k + 1) * sz + us.length * sz = (List.take (k * sz) X.toList ++ u.cells.toList).length + us.length * sz := by rw [l2]
      rw [e3, List.drop_append, List.drop_of_length_le (by omega)]
      simp only [Nat.add_sub_cancel_left, List.nil_append, List.drop_drop, List.length_cons]
      congr 1
      rw [Nat.add_mul]; omega
    rw [e1, e2]
    simp

theorem flat_get {sz : Nat} (hs : 0 < sz) : ∀ (us : List Value), (∀ u ∈ us, u.cells.size = sz) → ∀ (i j : Nat), j < sz → (us.flatMap (fun u => u.cells.toList))[i * sz + j]? = (us[i]?).bind (·.cells[j]?) := by
  intro us
  induction us with
  | nil => intro _ i j _; simp
  | cons u us ih =>
    intro hu i j hj
    have hus := hu u (List.mem_cons_self ..)
    rw [List.flatMap_cons]
    cases i with
    | zero =>
      rw [List.getElem?_append_left (by simp [hus]; omega)]
      simp
    | succ i =>
      have e : (i + 1) * sz + j = u.cells.toList.length + (i * sz + j) := by simp [hus]; rw [Nat.add_mul]; omega
      rw [e, List.getElem?_append_right (by omega), Nat.add_sub_cancel_left, ih (fun x hx => hu x (List.mem_cons_of_mem _ hx)) i j hj]
      simp
theorem flatA_get {sz : Nat} (hs : 0 < sz) : ∀ (es : List AV), (∀ e ∈ es, e.cells.length = sz) → ∀ (i j : Nat), j < sz → (es.flatMap AV.cells)[i * sz + j]? = (es[i]?).bind (·.cells[j]?) := by
  intro es
  induction es with
  | nil => intro _ i j _; simp
  | cons e es ih =>
    intro hu i j hj
    have hus := hu e (List.mem_cons_self ..)
    rw [List.flatMap_cons]
    cases i with
    | zero => rw [List.getElem?_append_left (by omega)]; simp
    | succ i =>
      have e1 : (i + 1) * sz + j = e.cells.length + (i * sz + j) := by rw [hus, Nat.add_mul]; omega
      rw [e1, List.getElem?_append_right (by omega), Nat.add_sub_cancel_left, ih (fun x hx => hu x (List.mem_cons_of_mem _ hx)) i j hj]
      simp
theorem flat_len {sz : Nat} : ∀ (us : List Value), (∀ u ∈ us, u.cells.size = sz) → (us.flatMap (fun u => u.cells.toList)).length = us.length * sz := by
  intro us
  induction us with
  | nil => intro _; simp
  | cons u us ih =>
    intro hu
    rw [List.flatMap_cons, List.length_append, ih (fun x hx => hu x (List.mem_cons_of_mem _ hx))]
    simp [hu u (List.mem_cons_self ..)]
    rw [Nat.add_mul]; omega

theorem List.mem_get {α : Type} {l : List α} {x : α} (h : x ∈ l) : ∃ i : Nat, l[i]? = some x := by
  obtain ⟨k, hk, rfl⟩ := List.mem_iff_getElem.1 h
  exact ⟨k, List.getElem?_eq_getElem hk⟩

/-- The nodes' blocks lie as they lay, and so does what is frozen. -/
theorem Rel.keep {m' : Mem} {w' w1 : World} {h : List Ob} {fz1 : Nat → Prop} (hr : Rel w0 fz0 m h w) (hb : m.blk = m'.blk) (hB : Below w1.heap.size w1 w') (hsz : w.heap.size ≤ w'.heap.size)
    (hh : ∀ r p nd, nodeAt h r p = some nd → isNode nd = true → w'.heap[(m.blk r p).1]? = w.heap[(m.blk r p).1]?)
    (hlo : ∀ r p nd, nodeAt h r p = some nd → isNode nd = true → w1.heap.size ≤ (m.blk r p).1 ∧ ¬ m'.fz (m.blk r p).1)
    (hk : WKeep0 w w') (hf : FKeep w w' m.fz) (hz : ∀ b, m.fz b → m'.fz b) (hlt : ∀ b, m'.fz b → b < w'.heap.size) (hin : ∀ b, fz1 b → m'.fz b) (hge : ∀ b, m'.fz b → fz1 b ∨ w1.heap.size ≤ b) : Rel w1 fz1 m' h w' := by
  refine ⟨hB, hlt, hin, hge, fun r p nd hn => ?_, fun r p nd hn hi => by rw [← hb]; exact hlo r p nd hn hi, fun r p nd r2 p2 nd2 h1 i1 h2 i2 e => hr.inj r p nd r2 p2 nd2 h1 i1 h2 i2 (by rw [hb]; exact e)⟩
  exact (hr.nodes r p nd hn).mono0 hk hf hz (by rw [hb]) (fun _ _ _ _ _ _ _ _ _ _ => by rw [hb]) (fun hi => hh r p nd hn hi)

/-- A new block that is nobody's. -/
theorem Rel.alloc {h : List Ob} (hr : Rel w0 fz0 m h w) (ob : Obj) : Rel w0 fz0 m h (w.alloc ob) := by
  have hk := alloc_wkeep w ob
  have hlt : ∀ k, k < w.heap.size → (w.alloc ob).heap[k]? = w.heap[k]? := fun k hk => Below.heap_alloc _ _ _ hk
  refine hr.keep rfl (hr.below.trans ⟨rfl, rfl, rfl, by rw [alloc_size]; omega, fun k hk => hlt k (Nat.lt_of_lt_of_le hk hr.below.size)⟩) (by rw [alloc_size]; omega) (fun r p nd hn hi => hlt _ ((hr.nodes r p nd hn).lt hi)) (fun r p nd hn hi => hr.lo r p nd hn hi) hk.zero ?_ (fun _ h => h)
    (fun b hb => by rw [alloc_size]; have := hr.fzlt b hb; omega) hr.fzin hr.fzge
  intro b o v hb hc
  exact (World.cell?_of_block (a := ⟨b, o, none⟩) (hlt b (hr.fzlt b hb))).trans hc

theorem ok_bsl (ht : TR w m σ.h L σ.t a.tmps) (hr : Rel w0 fz0 m σ.h w) {t e : TypeId} {len n s : Nat} {ps : Array (Nat × Operand)} {xs : List Opd} {z : AV} (ho : o.op = .buildSlice t len ps)
    (hu : P.underlying t = some (.slice e)) (hn : szT P e = some n) (hp : partsL 0 ps.toList = some xs) (hz : zeroT P e = some z) (hzl : z.cells.length = n) (hmax : len * n ≤ 1000)
    (hx : ax base (.bsl s n len xs) σ = some (v, h')) : OpOk P o a w0 fz0 m σ.h w L v h' := by
  obtain ⟨d, zv, hi, hzv, hov⟩ := zeroT_some hz
  obtain ⟨z1, z2⟩ := cells_of_rel0 (w := w) (fz := m.fz) hov
  obtain ⟨p1, p2⟩ := partsL_spec hp
  simp only [ax] at hx
  split at hx
  · rename_i hc
    obtain ⟨hlen, hpos⟩ := hc
    by_cases hl00 : len = 0
    · subst hl00
      simp only [if_true, Option.some.injEq, Prod.mk.injEq] at hx
      obtain ⟨rfl, rfl⟩ := hx
      have hps0 : ps.toList = [] := by
        apply List.eq_nil_of_length_eq_zero; omega
      have hps1 : ps = #[] := by apply Array.ext'; simpa using hps0
      refine ⟨.slice (some ⟨w.heap.size, 0, none⟩) 0 0, w.alloc (.cells #[] e), m, .inl ?_, hr.alloc _, HStep.refl m _, alloc_wkeep _ _, ?_, fun _ h => h, rfl, .base _ _ (.emp _)⟩
      · simp only [execOp, ho, Instr.buildSlice]
        simp only [Sem.run_bind, run_underlying hu, Result.andThen, run_sizeOf hn, Sem.run_ite, Sem.run_pure, hps1]
        simp [newRow, Instr.fill]
        exact congrArg (fun z => w.alloc (Obj.cells z e)) (Array.ext' (by simp))
      · intro b off u hb hc
        exact (World.cell?_of_block (a := ⟨b, off, none⟩) (Below.heap_alloc w _ b (hr.fzlt b hb))).trans hc
    rw [if_neg hl00] at hx
    cases htk : takeVals σ.h n (σ.gets xs) with
    | none => simp [htk] at hx
    | some vh =>
      obtain ⟨vs', hh1⟩ := vh
      simp only [htk] at hx
      cases hnew : newOb hh1 (base + s) (.own n vs') with
      | none => simp [hnew] at hx
      | some hs =>
        obtain ⟨hf, st⟩ := hs
        simp only [hnew, Option.some.injEq, Prod.mk.injEq] at hx
        obtain ⟨rfl, rfl⟩ := hx
        let us : List Value := ps.toList.map fun (_, x) => a.eval x
        have husl : us.length = len := by simp only [us, List.length_map]; omega
        obtain ⟨m1, hfz, hr1, hl1, hst1, hbk1, hvl, hes, hus, hall⟩ := takeVals_sound (w0 := w0) (fz0 := fz0) (L := L) n (σ.gets xs) us vs' σ.h hh1 [] m (by simpa using hr)
          (fun j d u hd hu => by
            simp only [St.gets, List.getElem?_map, Option.map_eq_some_iff] at hd
            simp only [us, List.getElem?_map, Option.map_eq_some_iff] at hu
            obtain ⟨y, hy, rfl⟩ := hd
            obtain ⟨⟨i, x⟩, hx, rfl⟩ := hu
            exact ht.get (p2 j i x y hx hy).2) (by simp [St.gets, us, p1]) htk
        simp only [List.append_nil, List.length_nil, Nat.add_zero] at hr1 hbk1 hall
        have hvlen : vs'.length = len := by rw [hvl]; simp [St.gets, hlen]
        have husz : ∀ u ∈ us, u.cells.size = n := fun u hu => by obtain ⟨k, hk⟩ := List.mem_get hu; exact hus k u hk
        have hesz : ∀ e ∈ vs', e.cells.length = n := fun u hu => by obtain ⟨k, hk⟩ := List.mem_get hu; exact hes k u hk
        let U : Array Value := (us.flatMap fun u => u.cells.toList).toArray
        have hUl : U.size = len * n := by simp only [U, List.size_toArray]; rw [flat_len us husz, husl]
        have hUget : ∀ i j, j < n → U[i * n + j]? = (us[i]?).bind (·.cells[j]?) := fun i j hj => by
          rw [← Array.getElem?_toList]; exact flat_get hpos us husz i j hj
        have hone : ∀ (k : Nat) (u : Value), U[k]? = some u → u.oneCell' = true := fun k u hk => by
          have e1 : k = (k / n) * n + k % n := by rw [Nat.mul_comm]; exact (Nat.div_add_mod k n).symm
          have hjn := Nat.mod_lt k hpos
          rw [e1, hUget _ _ hjn] at hk
          cases hq : us[k / n]? with
          | none => simp [hq] at hk
          | some uu =>
            simp [hq] at hk
            have hlt : k / n < vs'.length := by rw [hvlen, ← husl]; exact List.lt_of_some hq
            have hlt2 : k % n < (vs'[k / n]).cells.length := by rw [hes _ _ (List.getElem?_eq_getElem hlt)]; exact hjn
            exact (hall _ _ _ _ uu u (List.getElem?_eq_getElem hlt) (List.getElem?_eq_getElem hlt2) hq hk).2.1
        obtain ⟨m2, hr2, hst2, hfz2, hbk2, hwk, hfk, hl2⟩ := newRow_sound (U := U) (ty := e) hr1 hpos hnew hes hone (by rw [hUl, hvlen]; exact Nat.le_refl _)
          (fun i j x c he hc => by
            have hil : i < us.length := by rw [husl, ← hvlen]; exact List.lt_of_some he
            have hjl : j < n := by rw [← hes i x he]; exact List.lt_of_some hc
            have hu0 := List.getElem?_eq_getElem hil
            have hlt : j < (us[i]).cells.size := by rw [hus i _ hu0]; exact hjl
            have hx0 := Array.getElem?_eq_getElem hlt
            obtain ⟨k1, k2, k3⟩ := hall i j x c _ _ he hc hu0 hx0
            refine ⟨_, by rw [hUget i j hjl, hu0]; exact hx0, k1, ?_⟩
            rcases k3 with ⟨k3, k4⟩ | ⟨es, ys, rfl, k4⟩
            · exact .inl ⟨k3, hfz ▸ k4⟩
            · refine .inr ⟨es, ys, ?_, rfl, ?_⟩
              · rw [flatA_get hpos vs' hesz i j hjl, he]; exact hc
              · rw [hl1]; exact k4)
        refine ⟨.slice (some ⟨w.heap.size, 0, none⟩) len len, w.alloc (.cells U e), m2, .inl ?_, hr2, hst1.trans hst2, hwk, by rw [← hfz]; exact hfk, fun b h => by rw [hfz2, hfz]; exact h, by rw [hl2, hl1],
          sl_new hnew hbk2 hvlen.symm (Nat.le_refl _) (alloc_new _ _) (by rw [hUl]; exact Nat.le_refl _)⟩
        have hzip : ps.toList.map (fun (i, x) => (i, a.eval x)) = (us.zipIdx 0).map fun (u, i) => (i, u) := by
          apply List.ext_getElem?
          intro j
          simp only [List.getElem?_map, List.getElem?_zipIdx, us]
          cases hj : ps.toList[j]? with
          | none => simp
          | some ix =>
            obtain ⟨i, x⟩ := ix
            have hjl : j < xs.length := by rw [p1]; exact List.lt_of_some hj
            have := (p2 j i x _ hj (List.getElem?_eq_getElem hjl)).1
            simp at this
            simp [this]
        have h24 : ¬ (len * n > 2 ^ 24) := by omega
        have hps : (ps.map fun (i, x) => (i, a.eval x)).toList = (us.zipIdx 0).map fun (u, i) => (i, u) := by rw [← hzip]; simp
        have hfill : ∀ X : Array Value, X.size = len * n → Instr.fill (fun i => some (i * n, n)) X ((us.zipIdx 0).map fun (u, i) => (i, u)) = some U := by
          intro X hX
          rw [fill_all n us 0 X husz (by rw [husl, hX]; omega)]
          simp only [Nat.zero_mul, List.take_zero, List.nil_append, Nat.zero_add, U]
          rw [List.drop_of_length_le (by rw [husl]; simp [hX])]
          simp
        simp only [execOp, ho, Instr.buildSlice]
        simp only [Sem.run_bind, run_underlying hu, Result.andThen, run_sizeOf hn, Sem.run_ite, h24, if_false, Sem.run_pure, hps]
        by_cases hl0 : len * n = 0
        · simp only [hl0, if_true]
          rw [hfill _ (by simp [hl0])]
          simp [newRow]
        · simp only [hl0, if_false, Sem.run_bind, run_zeroValue hi hzv, Result.andThen, Sem.run_pure]
          rw [hfill _ (by simp)]
          simp [newRow]
  · cases hx

theorem ok_mkm (ht : TR w m σ.h L σ.t a.tmps) (hr : Rel w0 fz0 m σ.h w) {t : TypeId} {s : Nat} (ho : o.op = .makeMap t none)
    (hx : ax base (.mkm s) σ = some (v, h')) : OpOk P o a w0 fz0 m σ.h w L v h' := by
  simp only [ax] at hx
  cases hnew : newOb σ.h (base + s) (.ownm []) with
  | none => simp [hnew] at hx
  | some hs =>
    obtain ⟨hf, st⟩ := hs
    simp only [hnew, Option.some.injEq, Prod.mk.injEq] at hx
    obtain ⟨rfl, rfl⟩ := hx
    obtain ⟨ob, hob, hgone, rfl, rfl⟩ := newOb_some hnew
    have hsl := List.lt_of_some hob
    have hr2 := hr.newRoot (h' := σ.h.set (base + s) { st := ob.st + 1, ss := 0, c := .ownm [] }) (w' := w.alloc (.map #[] 0)) (base + s) (.ownm []) (hr.below.alloc hr.below.size _) (by rw [alloc_size]; omega) (fun k hk => Below.heap_alloc _ _ _ hk)
      ⟨_, List.getElem?_set_self hsl, rfl⟩ (.inr ⟨rfl, 0, alloc_new _ _⟩) (fun r2 o2 hne ho2 hi => ⟨o2, by rw [List.getElem?_set_ne (fun h => hne h.symm)] at ho2; exact ho2, rfl⟩)
    refine ⟨.map (some w.heap.size), w.alloc (.map #[] 0), _, .inl ?_, hr2, HStep.new hnew (fun r p hne _ => by show setBlk _ _ _ _ _ = _; simp [setBlk, hne]), alloc_wkeep _ _, ?_, fun _ h => h, by simp, ?_⟩
    · simp [execOp, ho, Instr.makeMap]
    · intro b off u hb hc
      exact (World.cell?_of_block (a := ⟨b, off, none⟩) (Below.heap_alloc w _ b (hr.fzlt b hb))).trans hc
    · refine .ref _ _ rfl ⟨_, List.getElem?_set_self hsl, Nat.le_refl _, fun _ h => absurd rfl h, fun es hn => ?_⟩
      show _ = Value.map (some (setBlk m (base + s) (w.heap.size, 0) (base + s) []).1)
      simp [setBlk]

/-- A variable that is never written: a frozen block. -/
theorem ok_bxf (ht : TR w m σ.h L σ.t a.tmps) (hr : Rel w0 fz0 m σ.h w) {t : TypeId} {x : Operand} {x' : Opd} (ho : o.op = .box t x)
    (h1 : opd x = some x') (hx : ax base (.bxf x') σ = some (v, h')) : OpOk P o a w0 fz0 m σ.h w L v h' := by
  have hb := ht.get (a := a) h1
  simp only [ax] at hx
  split at hx
  · rename_i xs hxs
    rw [hxs] at hb
    simp only [Option.some.injEq, Prod.mk.injEq] at hx
    obtain ⟨rfl, rfl⟩ := hx
    have h0 := free1_rel hb rfl
    obtain ⟨A, len, cap, hc⟩ : ∃ A len cap, a.eval x = .slice A len cap := by
      generalize a.eval x = c at h0
      cases h0 with
      | lstn => exact ⟨_, _, _, rfl⟩
      | lst => exact ⟨_, _, _, rfl⟩
    have hlt : ∀ k, k < w.heap.size → (w.alloc (.cells #[a.eval x] t)).heap[k]? = w.heap[k]? := fun k hk => Below.heap_alloc _ _ _ hk
    have hfk : FKeep w (w.alloc (.cells #[a.eval x] t)) m.fz := fun b o v hb hc => (World.cell?_of_block (a := ⟨b, o, none⟩) (hlt b (hr.fzlt b hb))).trans hc
    have hwk := alloc_wkeep w (.cells #[a.eval x] t)
    have hr1 := hr.alloc (.cells #[a.eval x] t)
    have hr2 : Rel w0 fz0 { blk := m.blk, fz := fun b => m.fz b ∨ b = w.heap.size } σ.h (w.alloc (.cells #[a.eval x] t)) := by
      refine hr1.keep rfl hr1.below (Nat.le_refl _) (fun _ _ _ _ _ => rfl) (fun r p nd hn hi => ?_) (WKeep.refl _).zero (FKeep.refl _ _) (fun b hb => .inl hb) ?_ (fun b hb => .inl (hr.fzin b hb)) ?_
      · have := hr.lo r p nd hn hi
        refine ⟨this.1, fun h => ?_⟩
        rcases h with h | h
        · exact this.2 h
        · have := (hr.nodes r p nd hn).lt hi
          omega
      · rintro b (hb | rfl)
        · exact hr1.fzlt b hb
        · rw [alloc_size]; omega
      · rintro b (hb | rfl)
        · exact hr.fzge b hb
        · exact .inr hr.below.size
    refine ⟨.pointer (some ⟨w.heap.size, 0, none⟩), w.alloc (.cells #[a.eval x] t), { blk := m.blk, fz := fun b => m.fz b ∨ b = w.heap.size }, .inl ?_, hr2, HStep.refl _ _, hwk, hfk, fun b hb => .inl hb, rfl, ?_⟩
    · rw [show (execOp a.eval o).run P w = _ from by simp [execOp, ho, Instr.box, newVar, newRow]; rfl]
      rw [hc]; rfl
    · refine .base _ _ (.pfro _ _ (fun _ => a.eval x) (.inr rfl) rfl (fun j c hj => ?_) (fun j c hj => ?_))
      · cases j with
        | zero =>
          simp at hj; subst hj
          refine ⟨rfl, by rw [hc]; rfl, ?_⟩
          have : (w.alloc (.cells #[a.eval x] t)).heap[w.heap.size]? = some (.cells #[a.eval x] t (0, 0)) := alloc_new _ _
          unfold World.cell?; simp only [Nat.add_zero, this]; rfl
        | succ j => simp at hj
      · cases j with
        | zero => simp at hj; subst hj; exact h0.mono (fun b o v hb hc => hfk b o v hb hc) (fun b hb => .inl hb)
        | succ j => simp at hj
  · cases hx
end
end Go.Mw

/- append. -/
namespace Go.Mw
open Go.RowKit
set_option linter.unusedVariables false
set_option linter.unusedSimpArgs false

section
variable {P : Program} {sm : List Nat} {o : Oper} {a : Act} {w0 : World} {fz0 : Nat → Prop} {m : Mem} {w : World} {L : Nat → Nat → Prop} {σ : St} {base : Nat} {i : Ins} {v : AV} {h' : List Ob}

/-- the values of a slice's cells -/
def Reads (P : Program) (w : World) (c : Value) (n es : Nat) (V : List Value) : Prop :=
  V.length = n * es ∧ ∃ A cap, c = .slice A n cap ∧ ∀ w' : World, w'.heap = w.heap → (Builtin.firstCells es n c).run P w' = .ok V.toArray w'

theorem reads_some {A : Addr} (hA : A.spot = none) {n cap es : Nat} (V : List Value) (hl : V.length = n * es) (hc : ∀ (k : Nat) (u : Value), V[k]? = some u → w.cell? ⟨A.block, A.off + k, none⟩ = some u) :
    Reads P w (.slice (some A) n cap) n es V := by
  refine ⟨hl, some A, cap, rfl, fun w' hw => ?_⟩
  have := run_loadCells_list (P := P) w' A V (fun j u hj => by
    rw [Addr.add_spot hA]
    rw [← hc j u hj]
    exact World.cell?_of_block (by rw [hw]))
  simp only [Builtin.firstCells]
  rw [← hl, this]

/-- where the appended cells come from: 'T': the root to which they have moved, if they have -/
structure YOk (w : World) (m1 : Mem) (N es : Nat) (ys : List AV) (YV : List Value) (moved : Bool) : Prop where
  cell : ∀ (i j : Nat) (e c : AV), ys[i]? = some e → e.cells[j]? = some c → ∃ u, YV[i * es + j]? = some u ∧ c.one = true ∧ u.oneCell' = true ∧
    ((isNode c = false ∧ CellR w m1 N [(i, j)] c u) ∨ (moved = true ∧ isNode c = true ∧ CellR w m1 N [(i, j)] c u))
  es : ∀ (i : Nat) (e : AV), ys[i]? = some e → e.cells.length = es
  one : ∀ (k : Nat) (u : Value), YV[k]? = some u → u.oneCell' = true

theorem VRel0.notNode {w : World} {fz : Nat → Prop} {v : AV} {c : Value} (h : VRel0 w fz v c) : isNode v = false := by cases h <;> rfl

def gob : Ob := { st := 0, ss := 0, c := .gone }

theorem Rel.pushGone {h : List Ob} (hr : Rel w0 fz0 m h w) : Rel w0 fz0 m (h ++ [gob]) w := by
  refine hr.congr (fun r p nd hn hi => ?_)
  obtain ⟨o, e, hnav⟩ := nodeAt_eq.1 hn
  rcases Nat.lt_or_ge r h.length with hlt | hge
  · rw [List.getElem?_append_left hlt] at e; exact nodeAt_eq.2 ⟨o, e, hnav⟩
  · rw [List.getElem?_append_right hge] at e
    cases hk : r - h.length with
    | zero => rw [hk] at e; simp at e; subst e; exact (nav_gone hnav hi).elim
    | succ k => rw [hk] at e; simp at e

theorem plain_cellR {w : World} {m : Mem} {r : Nat} {q : Path} {c : AV} {u : Value} (hn : isNode c = false) (h : VRel0 w m.fz c u) : CellR w m r q c u := by
  cases c <;> first | exact h | exact True.intro | (simp [isNode] at hn)

/-- moving a whole row to a new root -/
theorem take_step {h h1 : List Ob} {tl : List Ob} (hr : Rel w0 fz0 m (h ++ tl) w) {r st ss es : Nat} {p : Path} {xs : List AV} (off len : Nat) (hnd : node h r st p ss = some (.own es xs)) (hs : setOb h r p .gone false = some h1) :
    ∃ m1 : Mem, m1.fz = m.fz ∧ Rel w0 fz0 m1 (h1 ++ (tl ++ [{ st := 0, ss := 0, c := .own es ((xs.drop off).take len) }])) w ∧ h1.length = h.length ∧ HStep m m1 h h1 ∧ (∀ r p, r < h.length + tl.length → m1.blk r p = m.blk r p) ∧
      m1.blk (h.length + tl.length) [] = ((m.blk r p).1, (m.blk r p).2 + off * es) := by
  obtain ⟨o, c', ho, hu, rfl⟩ := setOb_some hs
  have hrl : r < h.length := List.lt_of_some ho
  have hT : h.length + tl.length ≠ r := by omega
  have hnA : nodeAt (h ++ tl) r p = some (.own es xs) := by
    obtain ⟨o', e1, e2⟩ := nodeAt_eq.1 (node_at hnd)
    exact nodeAt_eq.2 ⟨o', by rw [List.getElem?_append_left hrl]; exact e1, e2⟩
  refine ⟨{ blk := takeBlk m r p es off (h.length + tl.length), fz := m.fz }, rfl, ?_, by simp, ?_, fun r2 p2 hr2 => ?_, by simp [takeBlk]⟩
  · refine hr.take hnA off len (h.length + tl.length) hT (fun o ho => ?_) ⟨{ st := 0, ss := 0, c := .own es ((xs.drop off).take len) }, ?_, rfl⟩ ⟨o, _, by rw [List.getElem?_append_left hrl]; exact ho, by rw [List.getElem?_append_left (by simpa using hrl), List.getElem?_set_self hrl], hu⟩ (fun r2 o2 e1 e2 e3 hi => ?_)
    · rw [List.getElem?_eq_none (by simp)] at ho; cases ho
    · rw [← List.append_assoc, List.getElem?_append_right (by simp)]; simp
    · refine ⟨o2, ?_, rfl⟩
      rw [← List.append_assoc] at e3
      rcases Nat.lt_or_ge r2 (h.length + tl.length) with hlt | hge
      · rw [List.getElem?_append_left (by simpa using hlt)] at e3
        rcases Nat.lt_or_ge r2 h.length with hl2 | hl2
        · rw [List.getElem?_append_left (by simpa using hl2), List.getElem?_set_ne (fun h => e1 h.symm)] at e3
          rw [List.getElem?_append_left hl2]; exact e3
        · rw [List.getElem?_append_right (by simpa using hl2)] at e3
          rw [List.getElem?_append_right hl2]; simpa using e3
      · have : r2 ≠ h.length + tl.length := e2
        rw [List.getElem?_eq_none (by simp; omega)] at e3; cases e3
  · intro r2 o2 ho2
    by_cases er : r2 = r
    · subst er
      rw [ho] at ho2; cases ho2
      refine ⟨_, by rw [List.getElem?_set_self hrl]; rfl, OStep.gone hu (fun _ => by show takeBlk _ _ _ _ _ _ _ _ = _; unfold takeBlk; rw [if_neg hT.symm])⟩
    · exact ⟨o2, by rw [List.getElem?_set_ne (fun h => er h.symm)]; exact ho2, OStep.same (fun p nd _ _ => by
        have := List.lt_of_some ho2
        have hne : r2 ≠ h.length + tl.length := by omega
        simp [takeBlk, hne])⟩
  · have hne : r2 ≠ h.length + tl.length := by omega
    simp [takeBlk, hne]

theorem appY_sound {h h1 : List Ob} {es : Nat} {y : AV} {c : Value} {ys : List AV} (hpos : 0 < es) (hr : Rel w0 fz0 m h w) (hv : VRel w m.fz (RefR w m h L) y c) (hk : appY h es y = some (ys, h1)) :
    ∃ (m1 : Mem) (Y : Ob) (YV : List Value) (moved : Bool), m1.fz = m.fz ∧ Rel w0 fz0 m1 (h1 ++ [Y]) w ∧ h1.length = h.length ∧ HStep m m1 h h1 ∧ (∀ r p, r < h.length → m1.blk r p = m.blk r p) ∧
      Reads P w c ys.length es YV ∧ YOk w m1 h.length es ys YV moved ∧ (moved = true → Y.c = .own es ys) := by
  have nil : ∀ A cap, c = .slice A 0 cap → ys = [] → h1 = h → ∃ (m1 : Mem) (Y : Ob) (YV : List Value) (moved : Bool), m1.fz = m.fz ∧ Rel w0 fz0 m1 (h1 ++ [Y]) w ∧ h1.length = h.length ∧ HStep m m1 h h1 ∧ (∀ r p, r < h.length → m1.blk r p = m.blk r p) ∧
      Reads P w c ys.length es YV ∧ YOk w m1 h.length es ys YV moved ∧ (moved = true → Y.c = .own es ys) := by
    rintro A cap rfl rfl rfl
    refine ⟨m, gob, [], false, rfl, hr.pushGone, rfl, HStep.refl m _, fun _ _ _ => rfl, ⟨by simp, A, cap, rfl, fun w' _ => ?_⟩, ⟨fun i j e c he => by simp at he, fun i e he => by simp at he, fun k u h => by simp at h⟩, fun h => by cases h⟩
    cases A with
    | none => simp [Builtin.firstCells]
    | some A => simp [Builtin.firstCells, loadCells, loadCellsFrom]
  unfold appY at hk
  split at hk
  · cases hk; exact nil none 0 hv.inv_nils rfl rfl
  · cases hk; obtain ⟨A, e⟩ := hv.inv_emp; exact nil A 0 e rfl rfl
  · cases hk; obtain ⟨A, cap, e⟩ := hv.inv_ne; exact nil (some A) cap e rfl rfl
  · rename_i ys0
    split at hk
    · rename_i hhead
      cases hk
      rcases hv.inv_lst with ⟨h0, e⟩ | ⟨A, cap, es0, vs, eA, hcap, hfz, hes, hc, hrel⟩
      · subst h0; exact nil none 0 e rfl rfl
      cases hys : ys with
      | nil => subst hys; exact nil (some A) cap (by simpa using eA) rfl rfl
      | cons y0 yt =>
        rw [← hys]
        have hes0 : es0 = es := by
          have g1 := hes 0 y0 (by rw [hys]; rfl)
          rw [hys] at hhead
          simp at hhead
          omega
        subst hes0
        have hlen0 : 0 < ys.length := by rw [hys]; simp
        obtain ⟨hf1, hf2⟩ := hfz hlen0
        let YV : List Value := (List.range (ys.length * es0)).map fun k => vs (k / es0) (k % es0)
        have hget : ∀ i j, i < ys.length → j < es0 → YV[i * es0 + j]? = some (vs i j) := by
          intro i j hi hj
          have hlt : i * es0 + j < ys.length * es0 := by
            have : (i + 1) * es0 ≤ ys.length * es0 := Nat.mul_le_mul_right _ hi
            rw [Nat.add_mul] at this; omega
          simp only [YV, List.getElem?_map]
          rw [List.getElem?_range hlt]
          simp only [Option.map_some]
          have e1 : (i * es0 + j) / es0 = i := by rw [Nat.add_comm, Nat.add_mul_div_right _ _ hpos, Nat.div_eq_of_lt hj]; omega
          have e2 : (i * es0 + j) % es0 = j := by rw [Nat.add_comm, Nat.add_mul_mod_self_right, Nat.mod_eq_of_lt hj]
          rw [e1, e2]
        have hsplit : ∀ k u, YV[k]? = some u → ∃ i j e d, k = i * es0 + j ∧ j < es0 ∧ ys[i]? = some e ∧ e.cells[j]? = some d ∧ u = vs i j := by
          intro k u hk
          have hlt : k < ys.length * es0 := by have := List.lt_of_some hk; simpa [YV] using this
          have e1 : k = (k / es0) * es0 + k % es0 := by rw [Nat.mul_comm]; exact (Nat.div_add_mod k es0).symm
          have e2 : k / es0 < ys.length := Nat.div_lt_of_lt_mul (by rw [Nat.mul_comm]; exact hlt)
          have e3 := Nat.mod_lt k hpos
          have hj2 : k % es0 < (ys[k / es0]).cells.length := by rw [hes _ _ (List.getElem?_eq_getElem e2)]; exact e3
          refine ⟨k / es0, k % es0, _, _, e1, e3, List.getElem?_eq_getElem e2, List.getElem?_eq_getElem hj2, ?_⟩
          rw [e1, hget _ _ e2 e3] at hk
          cases hk; rfl
        refine ⟨m, gob, YV, false, rfl, hr.pushGone, rfl, HStep.refl m h, fun _ _ _ => rfl, ?_, ⟨fun i j e d he hd => ?_, hes, fun k u hk => ?_⟩, fun h => by cases h⟩
        · rw [eA]
          refine reads_some hf2 YV (by simp [YV]) (fun k u hk => ?_)
          obtain ⟨i, j, e, d, rfl, _, he, hd, rfl⟩ := hsplit k u hk
          exact (hc i e j d he hd).2.2
        · have hj : j < es0 := by rw [← hes i e he]; exact List.lt_of_some hd
          obtain ⟨g1, g2, _⟩ := hc i e j d he hd
          have hr0 := hrel i e j d he hd
          have hnn : isNode d = false := hr0.notNode
          exact ⟨_, hget i j (List.lt_of_some he) hj, g1, g2, .inl ⟨hnn, plain_cellR hnn hr0⟩⟩
        · obtain ⟨i, j, e, d, rfl, _, he, hd, rfl⟩ := hsplit k u hk
          exact (hc i e j d he hd).2.1
    · cases hk
  · rename_i r st p ss off len
    split at hk
    · rename_i es' zs hnd
      obtain ⟨ob, g1, g2, g3, g4⟩ := hv.inv_ref rfl
      obtain ⟨g5, A, cap, eA, hcap, g6⟩ := g4 _ _ hnd
      obtain ⟨hp0, arr, ty, ha, hcells⟩ := hr.nodeF hnd
      have rd : es' = es → ∀ (q n : Nat), q = off → n = len → 0 < n → off + len ≤ zs.length → ∃ YV : List Value, Reads P w c n es YV ∧ ∀ (i j : Nat) (e d : AV), ((zs.drop q).take n)[i]? = some e → e.cells[j]? = some d → ∃ u : Value, YV[i * es + j]? = some u ∧ d.one = true ∧ u.oneCell' = true ∧ CellR w m r (p ++ [(q + i, j)]) d u := by
        rintro rfl q n rfl rfl hn0 hle
        have hA : A = ⟨(m.blk r p).1, (m.blk r p).2 + q * es', none⟩ := by
          rcases g6 with g6 | g6
          · omega
          · exact g6.1
        have hidx : ∀ i j, i < n → j < es' → ∃ u, arr[(m.blk r p).2 + q * es' + (i * es' + j)]? = some u := by
          intro i j hi hj
          have hlt : q + i < zs.length := by omega
          obtain ⟨k1, k2⟩ := hcells (q + i) _ (List.getElem?_eq_getElem hlt)
          obtain ⟨_, u, k3, _⟩ := k2 j _ (List.getElem?_eq_getElem (by rw [k1]; exact hj))
          exact ⟨u, by rw [← k3]; congr 1; rw [Nat.add_mul]; omega⟩
        have hsz : (m.blk r p).2 + q * es' + n * es' ≤ arr.size := by
          obtain ⟨u, hu⟩ := hidx (n - 1) (es' - 1) (by omega) (by omega)
          have := (Array.getElem?_eq_some_iff.1 hu).1
          have e1 : (n - 1) * es' + es' = n * es' := by rw [← Nat.succ_mul]; congr 1; omega
          omega
        let YV : List Value := (arr.toList.drop ((m.blk r p).2 + q * es')).take (n * es')
        have hYg : ∀ k, k < n * es' → YV[k]? = arr[(m.blk r p).2 + q * es' + k]? := by
          intro k hk
          simp only [YV]
          rw [List.getElem?_take, if_pos hk, List.getElem?_drop, Array.getElem?_toList]
        refine ⟨YV, ?_, fun i j e d he hd => ?_⟩
        · rw [eA]
          refine reads_some (by rw [hA]) YV (by simp [YV]; omega) (fun k u hk => ?_)
          have hlt := List.lt_of_some hk
          simp [YV] at hlt
          rw [hYg k (by omega)] at hk
          rw [hA]
          simp only [World.cell?, ha]
          simpa using hk
        · rw [List.getElem?_take] at he
          split at he
          · rename_i hi
            rw [List.getElem?_drop] at he
            obtain ⟨k1, k2⟩ := hcells (q + i) e he
            obtain ⟨k3, u, k4, k5, k6⟩ := k2 j d hd
            have hj : j < es' := by rw [← k1]; exact List.lt_of_some hd
            have hlt : i * es' + j < n * es' := by
              have : (i + 1) * es' ≤ n * es' := Nat.mul_le_mul_right _ hi
              rw [Nat.add_mul] at this; omega
            refine ⟨u, ?_, k3, k5, k6⟩
            rw [hYg _ hlt, ← k4]; congr 1; rw [Nat.add_mul]; omega
          · cases he
      have hone : ∀ (YV : List Value) (zz : List AV), Reads P w c zz.length es YV → (∀ (i : Nat) (e : AV), zz[i]? = some e → e.cells.length = es) → (∀ (i j : Nat) (e d : AV), zz[i]? = some e → e.cells[j]? = some d → ∃ u : Value, YV[i * es + j]? = some u ∧ u.oneCell' = true) → ∀ (k : Nat) (u : Value), YV[k]? = some u → u.oneCell' = true := by
        intro YV zz hrd hzs hz k u hk
        have hlt : k < zz.length * es := by rw [← hrd.1]; exact List.lt_of_some hk
        have e1 : k = (k / es) * es + k % es := by rw [Nat.mul_comm]; exact (Nat.div_add_mod k es).symm
        have e2 : k / es < zz.length := Nat.div_lt_of_lt_mul (by rw [Nat.mul_comm]; exact hlt)
        have e3 := Nat.mod_lt k hpos
        have hj2 : k % es < (zz[k / es]).cells.length := by rw [hzs _ _ (List.getElem?_eq_getElem e2)]; exact e3
        obtain ⟨u', h1, h2⟩ := hz _ _ _ _ (List.getElem?_eq_getElem e2) (List.getElem?_eq_getElem hj2)
        rw [← e1, hk] at h1; cases h1; exact h2
      split at hk
      · rename_i hc
        obtain ⟨rfl, hle, hall⟩ := hc
        cases hk
        rcases Nat.eq_zero_or_pos len with h0 | h0
        · subst h0; exact nil (some A) cap eA (by simp) rfl
        · obtain ⟨YV, hrd, hcell⟩ := rd rfl off len rfl rfl h0 hle
          have hlen : ((zs.drop off).take len).length = len := by simp; omega
          have hzs : ∀ (i : Nat) (e : AV), ((zs.drop off).take len)[i]? = some e → e.cells.length = es' := by
            intro i e he
            rw [List.getElem?_take] at he
            split at he
            · rw [List.getElem?_drop] at he; exact (hcells _ _ he).1
            · cases he
          refine ⟨m, gob, YV, false, rfl, hr.pushGone, rfl, HStep.refl m _, fun _ _ _ => rfl, by rw [hlen]; exact hrd, ⟨fun i j e d he hd => ?_, hzs, hone YV _ (by rw [hlen]; exact hrd) hzs (fun i j e d he hd => by obtain ⟨u, k1, _, k3, _⟩ := hcell i j e d he hd; exact ⟨u, k1, k3⟩)⟩, fun h => by cases h⟩
          obtain ⟨u, k1, k2, k3, k4⟩ := hcell i j e d he hd
          have hpl : d.plain = true := by
            rw [List.all_eq_true] at hall
            have := hall e (List.mem_of_getElem? he)
            rw [List.all_eq_true] at this
            exact this d (List.mem_of_getElem? hd)
          have hnn := (plain_one hpl).2
          refine ⟨u, k1, k2, k3, .inl ⟨hnn, ?_⟩⟩
          cases d <;> first | exact k4 | exact True.intro | (simp [isNode] at hnn)
      · split at hk
        · rename_i hc
          obtain ⟨rfl, rfl, rfl⟩ := hc
          cases hs : setOb h r p .gone false with
          | none => simp [hs] at hk
          | some hh =>
            simp [hs] at hk
            obtain ⟨rfl, rfl⟩ := hk
            rcases Nat.eq_zero_or_pos zs.length with h0 | h0
            · have hz0 : zs = [] := List.eq_nil_of_length_eq_zero h0
              subst hz0
              obtain ⟨m1, hfz, hr1, hl1, hst1, hbk1, _⟩ := take_step (tl := []) (by simpa using hr) 0 0 hnd hs
              simp only [List.nil_append, List.length_nil, Nat.add_zero] at hr1 hbk1
              refine ⟨m1, _, [], false, hfz, hr1, hl1, hst1, hbk1, ⟨by simp, some A, cap, eA, fun w' _ => by rw [eA]; simp [Builtin.firstCells, loadCells, loadCellsFrom]⟩, ⟨fun i j e c he => by simp at he, fun i e he => by simp at he, fun k u h => by simp at h⟩, fun h => by cases h⟩
            · obtain ⟨YV, hrd, hcell⟩ := rd rfl 0 zs.length rfl rfl h0 (by omega)
              simp only [List.drop_zero, List.take_length, Nat.zero_add] at hcell
              obtain ⟨m1, hfz, hr1, hl1, hst1, hbk1, hbT⟩ := take_step (tl := []) (by simpa using hr) 0 zs.length hnd hs
              simp only [List.nil_append, List.length_nil, Nat.add_zero, List.drop_zero, List.take_length, Nat.zero_mul] at hr1 hbk1 hbT
              have hnT : nodeAt (hh ++ [({ st := 0, ss := 0, c := .own es' zs } : Ob)]) h.length [] = some (.own es' zs) := nodeAt_eq.2 ⟨{ st := 0, ss := 0, c := .own es' zs }, by rw [List.getElem?_append_right (by omega)]; simp [hl1], nav_nil _⟩
              obtain ⟨_, arr2, ty2, ha2, hcells2⟩ := hr1.nodes _ _ _ hnT
              rw [hbT, ha] at ha2; cases ha2
              refine ⟨m1, _, YV, true, hfz, hr1, hl1, hst1, hbk1, hrd, ⟨fun i j e d he hd => ?_, fun i e he => (hcells i e he).1, hone YV _ hrd (fun i e he => (hcells i e he).1) (fun i j e d he hd => by obtain ⟨u, k1, _, k3, _⟩ := hcell i j e d he hd; exact ⟨u, k1, k3⟩)⟩, fun _ => rfl⟩
              obtain ⟨u, k1, k2, k3, k4⟩ := hcell i j e d he hd
              obtain ⟨_, q2⟩ := hcells i e he
              obtain ⟨_, u1, q3, _, _⟩ := q2 j d hd
              obtain ⟨_, q5⟩ := hcells2 i e he
              obtain ⟨_, u2, q6, _, q7⟩ := q5 j d hd
              rw [hbT] at q6
              have hrd2 := hrd
              have hu1 : u1 = u2 := by rw [q3] at q6; cases q6; rfl
              subst hu1
              -- the value read is the cell's
              have huu : u = u1 := by
                have hA : A = ⟨(m.blk r p).1, (m.blk r p).2 + 0 * es', none⟩ := by
                  rcases g6 with g6 | g6
                  · omega
                  · exact g6.1
                obtain ⟨hYl, A', cap', eA', hrun⟩ := hrd
                have hrun := hrun w rfl
                rw [eA, hA] at hrun
                simp only [Builtin.firstCells] at hrun
                have h3 := run_loadCells_list (P := P) w ⟨(m.blk r p).1, (m.blk r p).2 + 0 * es', none⟩ ((arr.toList.drop ((m.blk r p).2)).take (zs.length * es')) (fun jj uu hjj => by
                  rw [Addr.add_none]
                  simp only [World.cell?, ha]
                  rw [List.getElem?_take] at hjj
                  split at hjj
                  · rw [List.getElem?_drop] at hjj; simpa using hjj
                  · cases hjj)
                have hlen3 : ((arr.toList.drop ((m.blk r p).2)).take (zs.length * es')).length = zs.length * es' := by
                  have hl := (Array.getElem?_eq_some_iff.1 q3).1
                  have hlast : zs.length - 1 < zs.length := by omega
                  obtain ⟨w1, w2⟩ := hcells (zs.length - 1) _ (List.getElem?_eq_getElem hlast)
                  obtain ⟨_, u9, w3, _⟩ := w2 (es' - 1) _ (List.getElem?_eq_getElem (by rw [w1]; omega))
                  have := (Array.getElem?_eq_some_iff.1 w3).1
                  have e1 : (zs.length - 1) * es' + es' = zs.length * es' := by rw [← Nat.succ_mul]; congr 1; omega
                  simp; omega
                rw [hlen3, hrun] at h3
                simp only [Result.ok.injEq, and_true] at h3
                have h4 : YV = (arr.toList.drop ((m.blk r p).2)).take (zs.length * es') := by simpa using h3
                rw [h4, List.getElem?_take] at k1
                split at k1
                · rw [List.getElem?_drop, Array.getElem?_toList, q3] at k1; cases k1; rfl
                · cases k1
              subst huu
              refine ⟨u, k1, k2, k3, ?_⟩
              simp only [List.nil_append] at q7
              cases hnn : isNode d with
              | true => exact .inr ⟨rfl, rfl, q7⟩
              | false => exact .inl ⟨rfl, q7⟩
        · cases hk
    · cases hk
  · cases hk
end
end Go.Mw
