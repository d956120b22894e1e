/- Equality of structs as an operation; slice expressions; literals of structs; maps: look-ups. -/
import Derived.Test.YtlkjckdddfckeaaM03
import Derived.Laws.CopyRow
namespace Go.Mw
open Go.RowKit
set_option linter.unusedVariables false
set_option linter.unusedSimpArgs false

section
variable {P : Program} {sm : List Nat} {o : Oper} {a : Act} {w0 : World} {fz0 : Nat → Prop} {m : Mem} {w : World} {L : Nat → Nat → Prop} {σ : St} {base : Nat} {i : Ins} {v : AV} {h' : List Ob}
variable {fz : Nat → Prop} {R R' : AV → Value → Prop} {w' : World}

theorem run_eqGuard_agg {op : BinOp} {t : TypeId} (x y : Operand) (X Y : Array Value) (h : P.eqGuardType P.depth t = false) : (eqGuard op t x y (.agg X) (.agg Y)).run P w = .ok () w := by
  cases op <;> simp [eqGuard, program, Sem.run, h]

theorem ok_eqa (ht : TR w m σ.h L σ.t a.tmps) (hr : Rel w0 fz0 m σ.h w) {neg : Bool} {t yt : TypeId} {x y : Operand} {x' y' : Opd} {ks : List Nat} (ho : o.op = .binOp (if neg then .neq else .eql) t x y yt)
    (hk : flatT P t = some ks) (hg : P.eqGuardType P.depth t = false) (h1 : opd x = some x') (h2 : opd y = some y')
    (hx : ax base (.eqa neg ks x' y') σ = some (v, h')) : OpOk P o a w0 fz0 m σ.h w L v h' := by
  have hb := ht.get (a := a) h1
  have hd := ht.get (a := a) h2
  simp only [ax] at hx
  generalize hg1 : σ.get x' = g at hx hb
  generalize hg2 : σ.get y' = g' at hx hd
  cases g <;> cases g' <;> simp only [reduceCtorEq] at hx
  rename_i xs ys
  cases he : eqCells ks xs ys with
  | none => simp [he] at hx
  | some b =>
    simp [he] at hx
    obtain ⟨rfl, rfl⟩ := hx
    obtain ⟨X, e1, l1, _, r1⟩ := hb.inv_agg
    obtain ⟨Y, e2, l2, _, r2⟩ := hd.inv_agg
    have hq : (Op.equal t (.agg X) (.agg Y)).run P w = .ok b w := run_equalIn_flat 9998 hk he l1 l2 r1 r2
    refine OpOk.quiet hr (c := _) ?_ (.base _ _ (.bool _))
    cases neg
    · simp only [execOp, ho, e1, e2, Bool.false_eq_true, if_false, binOp]
      simp [run_eqGuard_agg x y X Y hg, hq]
    · simp only [execOp, ho, e1, e2, if_true, binOp]
      simp [run_eqGuard_agg x y X Y hg, hq]

theorem List.drop_take_get {α : Type} {xs : List α} {l h : Nat} {k : Nat} {e : α} (hh : ((xs.take h).drop l)[k]? = some e) : xs[l + k]? = some e ∧ l + k < h := by
  rw [List.getElem?_drop, List.getElem?_take] at hh
  split at hh
  · exact ⟨hh, by assumption⟩
  · cases hh

theorem bound_zero {x : Option AV} (h : bound x 1 0 = some 0) : ∃ k, x = some (.int k 0) := by
  rcases bound_some h with ⟨_, h⟩ | ⟨k, q, e, h1, h2, h3⟩
  · cases h
  · have : q = 0 := by omega
    subst this; exact ⟨k, e⟩

theorem run_bounds3 (ht : TR w m σ.h L σ.t a.tmps) {lo hi mx : Option Operand} {lo' hi' : Option Opd} {m' : Opd} (hlo : opdo lo = some lo') (hhi : opdo hi = some hi') (hmx : opdo mx = some (some m')) {len cap : Nat}
    (h0 : ∃ k, σ.get m' = .int k 0) (h1 : ∃ k, hi'.map σ.get = some (.int k 0)) {nl : Nat} (h2 : bound (lo'.map σ.get) 0 0 = some nl) :
    (Instr.sliceBounds true len cap (lo.map a.eval) (hi.map a.eval) (mx.map a.eval)).run P w = .ok (0, 0, 0) w := by
  obtain ⟨k0, h0⟩ := h0
  obtain ⟨k1, h1⟩ := h1
  rcases opdo_get ht hmx with ⟨_, h⟩ | ⟨z, z', rfl, hz, hmv⟩
  · cases h
  cases hz
  rw [h0] at hmv
  rcases opdo_get ht hhi with ⟨rfl, rfl⟩ | ⟨y, y', rfl, rfl, hy⟩
  · cases h1
  simp only [Option.map_some, Option.some.injEq] at h1
  rw [h1] at hy
  have b1 : ∀ cd, (Instr.sliceBound (a.eval z) cap cd).run P w = .ok 0 w := fun cd => run_sliceBound hmv.inv_int ⟨by omega, by omega⟩ cd
  have b2 : ∀ cd, (Instr.sliceBound (a.eval y) 0 cd).run P w = .ok 0 w := fun cd => run_sliceBound hy.inv_int ⟨by omega, by omega⟩ cd
  unfold Instr.sliceBounds
  rcases opdo_get ht hlo with ⟨rfl, rfl⟩ | ⟨x, x', rfl, rfl, hx⟩
  · simp [b1, b2]
  · rcases bound_some h2 with ⟨h3, _⟩ | ⟨k, q, h3, h4, h5, rfl⟩
    · cases h3
    · simp only [Option.map_some, Option.some.injEq] at h3
      rw [h3] at hx
      have hq : q = 0 := by omega
      subst hq
      have b3 : ∀ cd, (Instr.sliceBound (a.eval x) 0 cd).run P w = .ok 0 w := fun cd => run_sliceBound hx.inv_int ⟨by omega, by omega⟩ cd
      simp [b1, b2, b3]

theorem run_slice' {t e : TypeId} {n : Nat} (hu : P.underlying t = some (.slice e)) (hn : szT P e = some n) (A : Option Addr) (len cap nl nh nm : Nat) (lo hi mx : Option Value)
    (hb : (Instr.sliceBounds true len cap lo hi mx).run P w = .ok (nl, nh, nm) w) :
    (Instr.sliceAt t (.slice A len cap) lo hi mx).run P w = .ok (.slice (if nm = nl then A else A.map (·.add (nl * n))) (nh - nl) (nm - nl)) w := by
  simp [Instr.sliceAt, Instr.slice, run_underlying hu, hb, run_sizeOf hn]

theorem bound_z {x : Option AV} {q : Nat} (h : bound x 0 0 = some q) : q = 0 := by
  rcases bound_some h with ⟨_, h⟩ | ⟨_, _, _, _, _, h⟩ <;> omega

theorem ok_sli0 (ht : TR w m σ.h L σ.t a.tmps) (hr : Rel w0 fz0 m σ.h w) {t e : TypeId} {x : Operand} {lo hi mx : Option Operand} {lo' hi' mx' : Option Opd} {n : Nat} (ho : o.op = .slice t x lo hi mx)
    (hu : P.underlying t = some (.slice e)) (hn : szT P e = some n) (hlo : opdo lo = some lo') (hhi : opdo hi = some hi') (hmx : opdo mx = some mx') {A : Option Addr} (hA : a.eval x = .slice A 0 0) {u : AV}
    (hrel : VRel w m.fz (RefR w m σ.h L) u (.slice A 0 0))
    (hx : (match mx'.map σ.get, bound (hi'.map σ.get) 0 0, bound (lo'.map σ.get) 0 0 with
      | none, some _, some _ => some (u, σ.h)
      | some (.int _ 0), some _, some _ => if hi'.isSome then some (u, σ.h) else none
      | _, _, _ => none) = some (v, h')) : OpOk P o a w0 fz0 m σ.h w L v h' := by
  cases hb1 : bound (hi'.map σ.get) 0 0 with
  | none => rw [hb1] at hx; split at hx <;> simp_all
  | some q1 =>
    cases hb2 : bound (lo'.map σ.get) 0 0 with
    | none => rw [hb1, hb2] at hx; split at hx <;> simp_all
    | some q2 =>
      rw [hb1, hb2] at hx
      have z1 := bound_z hb1
      have z2 := bound_z hb2
      subst z1; subst z2
      have hbd := (run_bounds (P := P) ht hlo hhi true (Nat.le_refl 0) hb1 hb2).1
      cases mx' with
      | none =>
        simp only [Option.map_none, Option.some.injEq, Prod.mk.injEq] at hx
        obtain ⟨rfl, rfl⟩ := hx
        rcases opdo_get ht hmx with ⟨rfl, _⟩ | ⟨_, _, _, h, _⟩
        · refine OpOk.quiet hr (c := .slice A 0 0) ?_ hrel
          simp only [execOp, ho, hA, Option.map_none]
          simp [run_slice' hu hn A 0 0 0 0 0 _ _ _ hbd]
        · cases h
      | some m' =>
        simp only [Option.map_some] at hx
        have : ∃ k, σ.get m' = .int k 0 ∧ hi'.isSome = true ∧ v = u ∧ h' = σ.h := by
          split at hx <;> simp_all
        obtain ⟨k, hm, hsome, rfl, rfl⟩ := this
        have h1' : ∃ k, hi'.map σ.get = some (.int k 0) := by
          rcases bound_some hb1 with ⟨h, _⟩ | ⟨k, q, h, h3, h4, _⟩
          · cases hi' <;> simp at h hsome
          · have : q = 0 := by omega
            subst this; exact ⟨k, h⟩
        have hbd := run_bounds3 (P := P) ht hlo hhi hmx (len := 0) (cap := 0) ⟨k, hm⟩ h1' hb2
        refine OpOk.quiet hr (c := .slice A 0 0) ?_ hrel
        simp only [execOp, ho, hA]
        simp [run_slice' hu hn A 0 0 0 0 0 _ _ _ hbd]

theorem ok_sli (ht : TR w m σ.h L σ.t a.tmps) (hr : Rel w0 fz0 m σ.h w) {t e : TypeId} {x : Operand} {lo hi mx : Option Operand} {x' : Opd} {lo' hi' mx' : Option Opd} {n : Nat} (ho : o.op = .slice t x lo hi mx)
    (hu : P.underlying t = some (.slice e)) (hn : szT P e = some n) (h1 : opd x = some x') (hlo : opdo lo = some lo') (hhi : opdo hi = some hi') (hmx : opdo mx = some mx')
    (hx : ax base (.sli n x' lo' hi' mx') σ = some (v, h')) : OpOk P o a w0 fz0 m σ.h w L v h' := by
  have hb := ht.get (a := a) h1
  simp only [ax] at hx
  generalize hg1 : σ.get x' = g at hx hb
  cases g <;> simp only [reduceCtorEq] at hx
  · -- nil
    exact ok_sli0 ht hr ho hu hn hlo hhi hmx hb.inv_nils (.base _ _ .nils) hx
  · -- empty
    obtain ⟨A, eA⟩ := hb.inv_emp
    exact ok_sli0 ht hr ho hu hn hlo hhi hmx eA (.base _ _ (.emp A)) hx
  · -- frozen
    rename_i xs
    rcases hb.inv_lst with ⟨h0, eA⟩ | ⟨A, cap, es, vs, eA, hcap, hfz, hes, hc, hrel⟩
    · subst h0
      have hx2 : ∃ u, VRel w m.fz (RefR w m σ.h L) u (.slice none 0 0) ∧ (match mx'.map σ.get, bound (hi'.map σ.get) 0 0, bound (lo'.map σ.get) 0 0 with
          | none, some _, some _ => some (u, σ.h)
          | some (.int _ 0), some _, some _ => if hi'.isSome then some (u, σ.h) else none
          | _, _, _ => none) = some (v, h') := by
        cases mx' with
        | none =>
          refine ⟨.lst [], .base _ _ .lstn, ?_⟩
          simp only [List.length_nil, Option.map_none] at hx ⊢
          cases hb1 : bound (hi'.map σ.get) 0 0 with
          | none => simp [hb1] at hx
          | some q1 =>
            have z1 := bound_z hb1
            subst z1
            cases hb2 : bound (lo'.map σ.get) 0 0 with
            | none => simp [hb1, hb2] at hx
            | some q2 => simp [hb1, hb2] at hx ⊢; exact hx
        | some m' =>
          refine ⟨.emp, .base _ _ (.emp none), ?_⟩
          simp only [Option.map_some] at hx ⊢
          split at hx
          · rename_i k q hm hb1 hb2
            have hsome : hi'.isSome = true := by
              cases hi' with
              | none => simp [bound] at hb1
              | some z => rfl
            have hb0 : bound (hi'.map σ.get) 0 0 = some 0 := by
              obtain ⟨k1, h1⟩ := bound_zero hb1
              rw [h1]; simp [bound]
            rw [hm, hb0, hb2]
            simp only [hsome, if_true]
            exact hx
          · cases hx
      obtain ⟨u, hu1, hu2⟩ := hx2
      exact ok_sli0 ht hr ho hu hn hlo hhi hmx eA hu1 hu2
    cases mx' with
    | none =>
      simp only at hx
      rcases opdo_get ht hmx with ⟨rfl, _⟩ | ⟨_, _, _, h, _⟩
      · cases hb1 : bound (hi'.map σ.get) xs.length xs.length with
        | none => simp [hb1] at hx
        | some nh =>
          simp only [hb1] at hx
          cases hb2 : bound (lo'.map σ.get) 0 nh with
          | none => simp [hb2] at hx
          | some nl =>
            simp only [hb2] at hx
            split at hx
            · rename_i hhead
              cases hx
              obtain ⟨hbd, hle1, hle2⟩ := run_bounds (P := P) ht hlo hhi true hcap hb1 hb2
              have hlen : ((xs.take nh).drop nl).length = nh - nl := by simp; omega
              have hes' : 0 < xs.length → es = n := by
                intro h0
                cases xs with
                | nil => simp at h0
                | cons x xs =>
                  have g1 := hes 0 x rfl
                  simp at hhead
                  omega
              refine OpOk.quiet hr (c := .slice (if cap = nl then some A else (some A).map (·.add (nl * n))) (nh - nl) (cap - nl)) ?_ ?_
              · simp only [execOp, ho, eA, Option.map_none]
                simp [run_slice' hu hn (some A) xs.length cap nl nh cap _ _ _ hbd]
              · by_cases hlt : nl < nh
                · have hne : ¬ cap = nl := by omega
                  obtain ⟨hf1, hf2⟩ := hfz (by omega)
                  have hesn := hes' (by omega)
                  subst hesn
                  rw [if_neg hne]
                  simp only [Option.map_some]
                  rw [Addr.add_spot hf2, ← hlen]
                  refine .base _ _ (.lst _ _ _ es (fun i j => vs (nl + i) j) (by rw [hlen]; omega) (fun _ => ⟨hf1, rfl⟩) (fun i e he => hes _ _ (List.drop_take_get he).1) (fun i e j c he hj => ?_) (fun i e j c he hj => hrel _ _ _ _ (List.drop_take_get he).1 hj))
                  obtain ⟨g1, g2, g3⟩ := hc _ _ _ _ (List.drop_take_get he).1 hj
                  refine ⟨g1, g2, ?_⟩
                  rw [← g3]; simp only; congr 2; rw [Nat.add_mul]; omega
                · have h0 : nh - nl = 0 := by omega
                  have hnil : (xs.take nh).drop nl = [] := List.eq_nil_of_length_eq_zero (by omega)
                  rw [hnil, h0]
                  by_cases hcn : cap = nl
                  · rw [if_pos hcn]
                    exact .base _ _ (.lst [] A _ 0 (fun _ _ => undef) (by simp) (fun h => by simp at h) (fun i e h => by simp at h) (fun i e j c h => by simp at h) (fun i e j c h => by simp at h))
                  · rw [if_neg hcn]
                    exact .base _ _ (.lst [] (A.add (nl * n)) _ 0 (fun _ _ => undef) (by simp) (fun h => by simp at h) (fun i e h => by simp at h) (fun i e j c h => by simp at h) (fun i e j c h => by simp at h))
            · cases hx
      · cases h
    | some m' =>
      simp only at hx
      split at hx
      · rename_i k q hm hb1 hb2
        cases hx
        have hbd := run_bounds3 (P := P) ht hlo hhi hmx (len := xs.length) (cap := cap) ⟨k, hm⟩ (bound_zero hb1) hb2
        refine OpOk.quiet hr (c := .slice (some A) 0 0) ?_ (.base _ _ (.emp (some A)))
        simp only [execOp, ho, eA]
        simp [run_slice' hu hn (some A) xs.length cap 0 0 0 _ _ _ hbd]
      · cases hx
  · -- owned
    rename_i r st p ss off len
    split at hx
    · rename_i es xs hnd
      split at hx
      · rename_i hee
        subst hee
        obtain ⟨ob, g1, g2, g3, g4⟩ := hb.inv_ref rfl
        obtain ⟨g5, A, cap, eA, hcap, g6⟩ := g4 _ _ hnd
        cases mx' with
        | none =>
          simp only at hx
          rcases opdo_get ht hmx with ⟨rfl, _⟩ | ⟨_, _, _, h, _⟩
          · cases hb1 : bound (hi'.map σ.get) len len with
            | none => simp [hb1] at hx
            | some nh =>
              simp only [hb1] at hx
              cases hb2 : bound (lo'.map σ.get) 0 nh with
              | none => simp [hb2] at hx
              | some nl =>
                simp only [hb2] at hx
                cases hx
                obtain ⟨hbd, hle1, hle2⟩ := run_bounds (P := P) ht hlo hhi true hcap hb1 hb2
                refine OpOk.quiet hr (c := .slice (if cap = nl then some A else (some A).map (·.add (nl * es))) (nh - nl) (cap - nl)) ?_ (.ref _ _ rfl ⟨ob, g1, g2, g3, fun es' xs' hn' => ?_⟩)
                · simp only [execOp, ho, eA, Option.map_none]
                  simp [run_slice' hu hn (some A) len cap nl nh cap _ _ _ hbd]
                · rw [hnd] at hn'; cases hn'
                  refine ⟨by omega, ?_⟩
                  by_cases hcn : cap = nl
                  · rw [if_pos hcn]
                    exact ⟨A, cap - nl, rfl, by omega, .inl (by omega)⟩
                  · rw [if_neg hcn]
                    refine ⟨A.add (nl * es), cap - nl, rfl, by omega, .inr ?_⟩
                    rcases g6 with g6 | ⟨g6, arr, ty, g7, g8⟩
                    · omega
                    · subst g6
                      refine ⟨?_, arr, ty, g7, ?_⟩
                      · rw [Addr.add_none, Nat.add_mul]; simp [Nat.add_assoc]
                      · have : off + nl + (cap - nl) = off + cap := by omega
                        rw [this]; exact g8
          · cases h
        | some m' =>
          simp only at hx
          split at hx
          · rename_i k q hm hb1 hb2
            cases hx
            have hbd := run_bounds3 (P := P) ht hlo hhi hmx (len := len) (cap := cap) ⟨k, hm⟩ (bound_zero hb1) hb2
            refine OpOk.quiet hr (c := .slice (some A) 0 0) ?_ (.base _ _ (.emp (some A)))
            simp only [execOp, ho, eA]
            simp [run_slice' hu hn (some A) len cap 0 0 0 _ _ _ hbd]
          · cases hx
      · cases hx
    · cases hx
end
end Go.Mw

/- Literals of structs and arrays; look-ups in maps. -/
namespace Go.Mw
open Go.RowKit
set_option linter.unusedVariables false
set_option linter.unusedSimpArgs false

section
variable {P : Program} {sm : List Nat} {o : Oper} {a : Act} {w0 : World} {fz0 : Nat → Prop} {m : Mem} {w : World} {L : Nat → Nat → Prop} {σ : St} {base : Nat} {i : Ins} {v : AV} {h' : List Ob}
variable {fz : Nat → Prop} {R R' : AV → Value → Prop} {w' : World}

theorem fill_fold (vs : List Value) : ∀ (off : Nat) (k : Nat) (cs : Array Value), off + k + vs.length ≤ cs.size →
    ((vs.zipIdx k).foldl (fun (cs : Array Value) (x : Value × Nat) => cs.setIfInBounds (off + x.2) x.1) cs).toList = cs.toList.take (off + k) ++ vs ++ cs.toList.drop (off + k + vs.length) := by
  induction vs with
  | nil => intro off k cs _; simp
  | cons v vs ih =>
    intro off k cs h
    simp only [List.length_cons] at h
    simp only [List.zipIdx_cons, List.foldl_cons]
    rw [ih off (k + 1) _ (by simp; omega)]
    have hlt : off + k < cs.toList.length := by simp; omega
    simp only [Array.toList_setIfInBounds]
    rw [List.take_set, List.drop_set]
    rw [if_pos (by omega)]
    have h1 : off + (k + 1) = off + k + 1 := by omega
    rw [h1, List.take_succ_eq_append_getElem hlt]
    rw [List.set_append_right _ _ (by simp; omega)]
    have h2 : (List.take (off + k) cs.toList).length = off + k := by simp; omega
    rw [h2]
    simp only [Nat.sub_self, List.set_cons_zero, List.append_assoc, List.cons_append, List.nil_append, List.length_cons]
    congr 3
    congr 1; omega

theorem okOne_rel {h : List Ob} {c : Value} {x : AV} (hv : VRel w m.fz (RefR w m h L) x c) (hk : okOne h x = true) : x.one = true ∧ c.oneCell' = true ∧ c.cells = #[c] := by
  have key : x.one = true ∧ c.oneCell' = true := by
    cases x <;> simp only [okOne, AV.plain, Bool.false_eq_true] at hk
    · exact ⟨rfl, by rw [hv.inv_bool]; rfl⟩
    · exact ⟨rfl, by rw [hv.inv_int]; rfl⟩
    · exact ⟨rfl, by rw [hv.inv_str]; rfl⟩
    · refine ⟨rfl, ?_⟩
      cases hv with
      | base _ _ h => cases h; rfl
      | ref _ _ hv h => cases hv
    · exact ⟨rfl, by rw [hv.inv_nils]; rfl⟩
    · exact ⟨rfl, by rw [hv.inv_nilm]; rfl⟩
    · exact ⟨rfl, by rw [hv.inv_nilf]; rfl⟩
    · obtain ⟨A, e⟩ := hv.inv_emp; exact ⟨rfl, by rw [e]; rfl⟩
    · rcases hv.inv_lst with ⟨_, e⟩ | ⟨A, cap, es, vs, e, _⟩ <;> exact ⟨rfl, by rw [e]; rfl⟩
    · obtain ⟨A, vs, e, _⟩ := hv.inv_pfro; exact ⟨rfl, by rw [e]; rfl⟩
    · split at hk
      · rename_i hn
        obtain ⟨ob, _, _, _, h4⟩ := hv.inv_ref rfl
        obtain ⟨_, A, cap, e, _⟩ := h4 _ _ hn
        exact ⟨rfl, by rw [e]; rfl⟩
      · cases hk
    · split at hk
      · rename_i hn
        obtain ⟨ob, _, _, _, h4⟩ := hv.inv_ref rfl
        have e := h4 _ _ hn
        exact ⟨rfl, by rw [e]; rfl⟩
      · cases hk
    · obtain ⟨vs, e, _⟩ := hv.inv_fn; exact ⟨rfl, by rw [e]; rfl⟩
    · obtain ⟨A, cap, e⟩ := hv.inv_ne; exact ⟨rfl, by rw [e]; rfl⟩
  refine ⟨key.1, key.2, ?_⟩
  have := key.2
  cases c <;> simp_all [Value.cells, Value.oneCell']

theorem vcells_rel {h : List Ob} {n : Nat} {c : Value} {x : AV} {vs : List AV} (hv : VRel w m.fz (RefR w m h L) x c) (hk : vcells h n x = some vs) :
    vs.length = n ∧ c.cells.size = n ∧ ∀ (j : Nat) (d : AV) (u : Value), vs[j]? = some d → c.cells[j]? = some u → d.one = true ∧ u.oneCell' = true ∧ VRel w m.fz (RefR w m h L) d u := by
  unfold vcells at hk
  split at hk
  · rename_i cs
    split at hk
    · rename_i hn
      cases hk
      obtain ⟨us, rfl, hl, h1, h2⟩ := hv.inv_agg
      refine ⟨hn, by simp [Value.cells, hl, hn], fun j d u hd hu => ?_⟩
      simp only [Value.cells] at hu
      exact ⟨(h1 j d u hd hu).1, (h1 j d u hd hu).2, h2 j d u hd hu⟩
    · cases hk
  · split at hk
    · rename_i hn
      cases hk
      obtain ⟨g1, g2, g3⟩ := okOne_rel hv hn.2
      refine ⟨by simp [hn.1], by rw [g3]; simp [hn.1], fun j d u hd hu => ?_⟩
      rw [g3] at hu
      cases j with
      | zero => simp at hd hu; subst hd; subst hu; exact ⟨g1, g2, hv⟩
      | succ j => simp at hd
    · cases hk

/-- parts of a literal: what the model lays -/
theorem fill_sound (ht : TR w m σ.h L σ.t a.tmps) (place : Nat → Option (Nat × Nat)) :
    ∀ (ps : List (Nat × Operand)) (qs : List (Nat × Nat × Opd)) (cs : List AV) (X : Array Value) (res : List AV),
      (ps.length = qs.length ∧ ∀ (k : Nat) (i : Nat) (x : Operand) (off n : Nat) (y : Opd), ps[k]? = some (i, x) → qs[k]? = some (off, n, y) → place i = some (off, n) ∧ opd x = some y) →
      X.size = cs.length → (∀ (j : Nat) (d : AV) (u : Value), cs[j]? = some d → X[j]? = some u → d.one = true ∧ u.oneCell' = true ∧ VRel w m.fz (RefR w m σ.h L) d u) →
      bldAV σ cs qs = some res →
      ∃ Y, Instr.fill place X (ps.map fun (i, x) => (i, a.eval x)) = some Y ∧ Y.size = res.length ∧ ∀ (j : Nat) (d : AV) (u : Value), res[j]? = some d → Y[j]? = some u → d.one = true ∧ u.oneCell' = true ∧ VRel w m.fz (RefR w m σ.h L) d u := by
  intro ps
  induction ps with
  | nil =>
    intro qs cs X res hpq hX hrel hb
    cases qs with
    | nil => simp only [bldAV, Option.some.injEq] at hb; subst hb; exact ⟨X, rfl, hX, hrel⟩
    | cons q qs => simp at hpq
  | cons p ps ih =>
    intro qs cs X res hpq hX hrel hb
    cases qs with
    | nil => simp at hpq
    | cons q qs =>
      obtain ⟨i, x⟩ := p
      obtain ⟨off, n, y⟩ := q
      obtain ⟨hpl, hop⟩ := hpq.2 0 i x off n y rfl rfl
      simp only [bldAV] at hb
      cases hvc : vcells σ.h n (σ.get y) with
      | none => simp [hvc] at hb
      | some vs =>
        simp only [hvc] at hb
        split at hb
        · rename_i hle
          obtain ⟨g1, g2, g3⟩ := vcells_rel (ht.get (a := a) hop) hvc
          have hfold := fill_fold (a.eval x).cells.toList off 0 X (by simp; omega)
          simp only [List.map_cons, Instr.fill, hpl]
          have hc : ¬ ((decide ((a.eval x).cells.size ≠ n) || decide (off + (a.eval x).cells.size > X.size)) = true) := by
            simp; omega
          rw [if_neg hc]
          have heq : ((a.eval x).cells.zipIdx.foldl (fun (cs : Array Value) (x : Value × Nat) => cs.setIfInBounds (off + x.2) x.1) X) = (X.toList.take off ++ (a.eval x).cells.toList ++ X.toList.drop (off + n)).toArray := by
            apply Array.toList_inj.1
            rw [← Array.foldl_toList, Array.toList_zipIdx, hfold]
            simp [g2]
          rw [heq]
          refine ih qs _ _ res ⟨by simpa using hpq.1, fun k i x off n y h1 h2 => hpq.2 (k + 1) i x off n y (by simpa using h1) (by simpa using h2)⟩ ?_ ?_ hb
          · simp [g1, g2]; omega
          · intro j d u hd hu
            have hu' : (X.toList.take off ++ (a.eval x).cells.toList ++ X.toList.drop (off + n))[j]? = some u := by simpa using hu
            rcases Nat.lt_or_ge j off with hj | hj
            · rw [List.append_assoc, List.getElem?_append_left (by simp; omega), List.getElem?_take, if_pos hj] at hd
              rw [List.append_assoc, List.getElem?_append_left (by simp; omega), List.getElem?_take, if_pos hj] at hu'
              exact hrel j d u hd (by simpa using hu')
            · rcases Nat.lt_or_ge j (off + n) with hj2 | hj2
              · rw [List.getElem?_append_left (by simp; omega), List.getElem?_append_right (by simp; omega)] at hd
                rw [List.getElem?_append_left (by simp [g2]; omega), List.getElem?_append_right (by simp; omega)] at hu'
                have e1 : (List.take off cs).length = off := by simp; omega
                have e2 : (List.take off X.toList).length = off := by simp; omega
                rw [e1] at hd
                rw [e2] at hu'
                exact g3 _ d u hd (by simpa using hu')
              · rw [List.getElem?_append_right (by simp; omega)] at hd
                rw [List.getElem?_append_right (by simp [g2]; omega)] at hu'
                have e1 : (List.take off cs ++ vs).length = off + n := by simp; omega
                have e2 : (List.take off X.toList ++ (a.eval x).cells.toList).length = off + n := by simp [g2]; omega
                rw [e1, List.getElem?_drop] at hd
                rw [e2, List.getElem?_drop] at hu'
                have e3 : off + n + (j - (off + n)) = j := by omega
                rw [e3] at hd hu'
                exact hrel j d u hd (by simpa using hu')
        · cases hb
end
end Go.Mw

/- Literals of structs and arrays as operations; look-ups in maps. -/
namespace Go.Mw
open Go.RowKit
set_option linter.unusedVariables false
set_option linter.unusedSimpArgs false

section
variable {P : Program} {sm : List Nat} {o : Oper} {a : Act} {w0 : World} {fz0 : Nat → Prop} {m : Mem} {w : World} {L : Nat → Nat → Prop} {σ : St} {base : Nat} {i : Ins} {v : AV} {h' : List Ob}
variable {fz : Nat → Prop} {R R' : AV → Value → Prop} {w' : World}

theorem run_places : ∀ (fs : List Field), (fs.all fun f => (szT P f.type).isSome) = true →
    ∃ ps : List (Nat × Nat), (fs.mapM (fun f => do pure (f.offset, ← sizeOf f.type)) : Sem (List (Nat × Nat))).run P w = .ok ps w ∧ ∀ (i : Nat) (f : Field) (n : Nat), fs[i]? = some f → szT P f.type = some n → ps[i]? = some (f.offset, n) := by
  intro fs
  induction fs with
  | nil => intro _; exact ⟨[], by simp, fun i f n h => by simp at h⟩
  | cons f fs ih =>
    intro h
    simp only [List.all_cons, Bool.and_eq_true] at h
    obtain ⟨n, hn⟩ := Option.isSome_iff_exists.1 h.1
    obtain ⟨ps, h1, h2⟩ := ih h.2
    refine ⟨(f.offset, n) :: ps, ?_, fun i g k hg hk => ?_⟩
    · rw [List.mapM_cons]; simp [run_sizeOf hn]
      simp at h1
      simp [h1]
    · cases i with
      | zero => simp at hg; subst hg; rw [hn] at hk; cases hk; rfl
      | succ i => simp at hg ⊢; exact h2 i g k hg hk

theorem partsS_spec {fs : Array Field} : ∀ {ps : List (Nat × Operand)} {qs : List (Nat × Nat × Opd)}, partsS P fs ps = some qs →
    ps.length = qs.length ∧ ∀ (k : Nat) (i : Nat) (x : Operand) (off n : Nat) (y : Opd), ps[k]? = some (i, x) → qs[k]? = some (off, n, y) → ∃ f, fs[i]? = some f ∧ f.offset = off ∧ szT P f.type = some n ∧ opd x = some y := by
  intro ps
  induction ps with
  | nil => intro qs h; simp [partsS] at h; subst h; exact ⟨rfl, fun k i x off n y h => by simp at h⟩
  | cons p ps ih =>
    intro qs h
    obtain ⟨i, x⟩ := p
    simp only [partsS] at h
    cases hf : fs[i]? with
    | none => simp [hf] at h
    | some f =>
      simp only [hf] at h
      split at h
      · rename_i n y r h1 h2 h3
        cases h
        obtain ⟨g1, g2⟩ := ih h3
        refine ⟨by simp [g1], fun k i' x' off n' y' hp hq => ?_⟩
        cases k with
        | zero => simp at hp hq; obtain ⟨rfl, rfl⟩ := hp; obtain ⟨rfl, rfl, rfl⟩ := hq; exact ⟨f, hf, rfl, h1, h2⟩
        | succ k => exact g2 k i' x' off n' y' (by simpa using hp) (by simpa using hq)
      · cases h
theorem partsA_spec {n : Nat} : ∀ {ps : List (Nat × Operand)} {qs : List (Nat × Nat × Opd)}, partsA n ps = some qs →
    ps.length = qs.length ∧ ∀ (k : Nat) (i : Nat) (x : Operand) (off n' : Nat) (y : Opd), ps[k]? = some (i, x) → qs[k]? = some (off, n', y) → off = i * n ∧ n' = n ∧ opd x = some y := by
  intro ps
  induction ps with
  | nil => intro qs h; simp [partsA] at h; subst h; exact ⟨rfl, fun k i x off n' y h => by simp at h⟩
  | cons p ps ih =>
    intro qs h
    obtain ⟨i, x⟩ := p
    simp only [partsA] at h
    split at h
    · rename_i y r h1 h2
      cases h
      obtain ⟨g1, g2⟩ := ih h2
      refine ⟨by simp [g1], fun k i' x' off n' y' hp hq => ?_⟩
      cases k with
      | zero => simp at hp hq; obtain ⟨rfl, rfl⟩ := hp; obtain ⟨rfl, rfl, rfl⟩ := hq; exact ⟨rfl, rfl, h1⟩
      | succ k => exact g2 k i' x' off n' y' (by simpa using hp) (by simpa using hq)
    · cases h

theorem ok_bld (ht : TR w m σ.h L σ.t a.tmps) (hr : Rel w0 fz0 m σ.h w) {t : TypeId} {ps : Array (Nat × Operand)} (ho : o.op = .build t ps) (hc : compI P sm o = some i)
    (hx : ax base i σ = some (v, h')) : OpOk P o a w0 fz0 m σ.h w L v h' := by
  simp only [compI, ho] at hc
  cases hz : zeroT P t with
  | none => simp [hz] at hc
  | some zz =>
    simp only [hz] at hc
    obtain ⟨d, zv, hi, hzv, hov⟩ := zeroT_some hz
    cases zz <;> simp only [reduceCtorEq] at hc
    rename_i z
    have hzr := ofV_rel (w := w) (fz := m.fz) hov
    obtain ⟨Z, rfl, hZl, hZ1, hZ2⟩ : ∃ Z : Array Value, zv = .agg Z ∧ Z.size = z.length ∧ (∀ (j : Nat) (d : AV) (u : Value), z[j]? = some d → Z[j]? = some u → d.one = true ∧ u.oneCell' = true) ∧ (∀ (j : Nat) (d : AV) (u : Value), z[j]? = some d → Z[j]? = some u → VRel0 w m.fz d u) := by
      cases hzr with | agg _ vs h1 h2 h3 => exact ⟨vs, rfl, h1, h2, h3⟩
    have hbase : ∀ (j : Nat) (d : AV) (u : Value), z[j]? = some d → Z[j]? = some u → d.one = true ∧ u.oneCell' = true ∧ VRel w m.fz (RefR w m σ.h L) d u := fun j d u h1 h2 => ⟨(hZ1 j d u h1 h2).1, (hZ1 j d u h1 h2).2, .base _ _ (hZ2 j d u h1 h2)⟩
    have hfin : ∀ (place : Nat → Option (Nat × Nat)) (qs : List (Nat × Nat × Opd)),
        (ps.toList.length = qs.length ∧ ∀ (k : Nat) (i : Nat) (x : Operand) (off n : Nat) (y : Opd), ps.toList[k]? = some (i, x) → qs[k]? = some (off, n, y) → place i = some (off, n) ∧ opd x = some y) →
        ax base (.bld z qs) σ = some (v, h') → (∀ Y, Instr.fill place Z (ps.toList.map fun (i, x) => (i, a.eval x)) = some Y → (Instr.build t (ps.map fun (i, x) => (i, a.eval x))).run P w = .ok (.agg Y) w) → OpOk P o a w0 fz0 m σ.h w L v h' := by
      intro place qs hpq hx hrun
      simp only [ax] at hx
      cases hb : bldAV σ z qs with
      | none => simp [hb] at hx
      | some res =>
        simp [hb] at hx
        obtain ⟨rfl, rfl⟩ := hx
        obtain ⟨Y, h1, h2, h3⟩ := fill_sound ht place ps.toList qs z Z res hpq hZl hbase hb
        refine OpOk.quiet hr (c := .agg Y) ?_ (.agg _ _ h2 (fun j d u hd hu => ⟨(h3 j d u hd hu).1, (h3 j d u hd hu).2.1⟩) (fun j d u hd hu => (h3 j d u hd hu).2.2))
        simp only [execOp, ho]
        simp only [Sem.run_bind, hrun Y h1, Result.andThen, Sem.run_pure]
    split at hc
    · rename_i fs hu
      split at hc
      · rename_i hall
        cases hps : partsS P fs ps.toList with
        | none => simp [hps] at hc
        | some qs =>
          simp [hps] at hc
          subst hc
          obtain ⟨pl, hp1, hp2⟩ := run_places (P := P) (w := w) fs.toList hall
          obtain ⟨g1, g2⟩ := partsS_spec hps
          refine hfin (pl[·]?) qs ⟨g1, fun k i x off n y h1 h2 => ?_⟩ hx (fun Y hY => ?_)
          · obtain ⟨f, k1, rfl, k2, k3⟩ := g2 k i x off n y h1 h2
            exact ⟨hp2 i f n (by simpa using k1) k2, k3⟩
          · simp only [Instr.build, Sem.run_bind, run_zeroValue hi hzv, Result.andThen, run_underlying hu]
            have hm : (fs.mapM (fun f => do pure (f.offset, ← sizeOf f.type)) : Sem (Array (Nat × Nat))).run P w = .ok pl.toArray w := by
              rw [Array.mapM_eq_mapM_toList]
              change ((fs.toList.mapM (fun f => do pure (f.offset, ← sizeOf f.type)) : Sem (List (Nat × Nat))) >>= fun l => pure l.toArray).run P w = _
              rw [Sem.run_bind, hp1]
              rfl
            have hps' : (ps.map fun (i, x) => (i, a.eval x)).toList = ps.toList.map fun (i, x) => (i, a.eval x) := by simp
            simp only [hm, Result.andThen, hps', Value.cells]
            have hpl : (fun i : Nat => pl.toArray[i]?) = fun i : Nat => pl[i]? := by funext i; simp
            rw [hpl, hY]
            simp
      · cases hc
    · rename_i n e hu
      split at hc
      · rename_i k hk
        cases hps : partsA k ps.toList with
        | none => simp [hps] at hc
        | some qs =>
          simp [hps] at hc
          subst hc
          obtain ⟨g1, g2⟩ := partsA_spec hps
          refine hfin (fun i => some (i * k, k)) qs ⟨g1, fun k' i x off n y h1 h2 => ?_⟩ hx (fun Y hY => ?_)
          · obtain ⟨rfl, rfl, k3⟩ := g2 k' i x off n y h1 h2
            exact ⟨rfl, k3⟩
          · simp only [Instr.build, Sem.run_bind, run_zeroValue hi hzv, Result.andThen, run_underlying hu, run_sizeOf hk]
            have : (ps.map fun (i, x) => (i, a.eval x)).toList = ps.toList.map fun (i, x) => (i, a.eval x) := by simp
            rw [this]
            simp only [Value.cells] at hY ⊢
            rw [hY]
            simp
      · cases hc
    · cases hc
end
end Go.Mw

/- What moves into memory. -/
namespace Go.Mw
open Go.RowKit
set_option linter.unusedVariables false
set_option linter.unusedSimpArgs false

theorem compat_node {a b : AV} (h : compat a b) (hb : isNode b = true) : isNode a = true := by
  cases b <;> simp [isNode] at hb
  · obtain ⟨xs, rfl, _⟩ := h; rfl
  · obtain ⟨xs, rfl, _⟩ := h; rfl

theorem OStep.trans {m1 m2 m3 : Mem} {r : Nat} {a b c : Ob} (h : OStep m1 m2 r a b) (k : OStep m2 m3 r b c) : OStep m1 m3 r a c := by
  rcases h with h | ⟨h, h'⟩
  · rcases k with k | ⟨k, _⟩
    · exact .inl (by omega)
    · exact .inl (by omega)
  · rcases k with k | ⟨k, k'⟩
    · exact .inl (by omega)
    · refine .inr ⟨by omega, ?_⟩
      have root1 : isNode b.c = true → compat a.c b.c ∧ m2.blk r [] = m1.blk r [] := by
        intro hn
        rcases h' with ⟨_, h'⟩ | ⟨_, h'⟩
        · exact h' _ rfl hn
        · obtain ⟨nd, g1, g2, g3⟩ := h' [] b.c (nav_nil _) hn
          rw [nav_nil] at g1; cases g1; exact ⟨g2, g3⟩
      have root2 : isNode c.c = true → compat b.c c.c ∧ m3.blk r [] = m2.blk r [] := by
        intro hn
        rcases k' with ⟨_, k'⟩ | ⟨_, k'⟩
        · exact k' _ rfl hn
        · obtain ⟨nd, g1, g2, g3⟩ := k' [] c.c (nav_nil _) hn
          rw [nav_nil] at g1; cases g1; exact ⟨g2, g3⟩
      have root : ∀ nd', c.c = nd' → isNode nd' = true → compat a.c nd' ∧ m3.blk r [] = m1.blk r [] := by
        intro nd' e hn
        subst e
        obtain ⟨g1, g2⟩ := root2 hn
        obtain ⟨g3, g4⟩ := root1 (compat_node g1 hn)
        exact ⟨compat_trans g3 g1, g2.trans g4⟩
      rcases h' with ⟨hs, _⟩ | ⟨hs, h'⟩
      · rcases k' with ⟨ks, _⟩ | ⟨ks, _⟩
        · exact .inl ⟨by omega, root⟩
        · exact .inl ⟨by omega, root⟩
      · rcases k' with ⟨ks, _⟩ | ⟨ks, k'⟩
        · exact .inl ⟨by omega, root⟩
        · refine .inr ⟨by omega, fun p nd' hn hi => ?_⟩
          obtain ⟨nd1, g1, g2, g3⟩ := k' p nd' hn hi
          obtain ⟨nd0, g4, g5, g6⟩ := h' p nd1 g1 (compat_node g2 hi)
          exact ⟨nd0, g4, compat_trans g5 g2, g3.trans g6⟩
theorem HStep.trans {m1 m2 m3 : Mem} {h1 h2 h3 : List Ob} (h : HStep m1 m2 h1 h2) (k : HStep m2 m3 h2 h3) : HStep m1 m3 h1 h3 := fun r o ho => by
  obtain ⟨o2, g1, g2⟩ := h r o ho
  obtain ⟨o3, g3, g4⟩ := k r o2 g1
  exact ⟨o3, g3, g2.trans g4⟩

theorem OStep.same {m m' : Mem} {r : Nat} {o : Ob} (h : ∀ p nd, nav o.c p = some nd → isNode nd = true → m'.blk r p = m.blk r p) : OStep m m' r o o :=
  .inr ⟨rfl, .inr ⟨rfl, fun p nd hn hi => ⟨nd, hn, compat_refl nd, h p nd hn hi⟩⟩⟩

theorem setOb_some {h h' : List Ob} {r : Nat} {p : Path} {v : AV} {b : Bool} (hs : setOb h r p v b = some h') :
    ∃ o c, h[r]? = some o ∧ upd o.c p v = some c ∧ h' = h.set r { o with c, ss := if b then o.ss + 1 else o.ss } := by
  unfold setOb at hs
  cases ho : h[r]? with
  | none => simp [ho] at hs
  | some o =>
    simp only [ho] at hs
    cases hu : upd o.c p v with
    | none => simp [hu] at hs
    | some c => simp [hu] at hs; exact ⟨o, c, rfl, hu, hs.symm⟩

/-- What is given anew at a place, the structure having turned: a step that references bear. -/
theorem OStep.bump {m m' : Mem} {r : Nat} {o : Ob} {p : Path} {v c : AV} (hu : upd o.c p v = some c) (hp : p = [] → isNode v = true → compat o.c v) (hb : isNode c = true → m'.blk r [] = m.blk r []) :
    OStep m m' r o { o with c, ss := o.ss + 1 } := by
  refine .inr ⟨rfl, .inl ⟨by simp, fun nd' e hi => ?_⟩⟩
  simp only at e
  subst e
  refine ⟨?_, hb hi⟩
  cases p with
  | nil => rw [upd_nil] at hu; cases hu; exact hp rfl hi
  | cons a p =>
    obtain ⟨i, j⟩ := a
    obtain ⟨es, xs, e, c0, c1, h1, _, _, _, rfl⟩ := (upd_cons ..).1 hu
    rw [h1]
    exact ⟨xs, rfl, by simp⟩

/-- What goes leaves the other references as they are. -/
theorem OStep.gone {m m' : Mem} {r : Nat} {o : Ob} {p : Path} {c : AV} (hu : upd o.c p .gone = some c) (hb : ∀ p, m'.blk r p = m.blk r p) : OStep m m' r o { o with c, ss := o.ss } := by
  refine .inr ⟨rfl, .inr ⟨rfl, fun q nd hn hi => ?_⟩⟩
  simp only at hn
  have hvo : ∀ cs, AV.gone ≠ .agg cs := by intro cs h; cases h
  by_cases hp : p <+: q
  · obtain ⟨t, rfl⟩ := hp
    rw [nav_upd_self p _ _ _ hvo hu t] at hn
    cases t with
    | nil => rw [nav_nil] at hn; cases hn; cases hi
    | cons a t => obtain ⟨i, j⟩ := a; simp [nav] at hn
  · rcases nav_upd_other p _ _ _ hvo hu q nd hp hn with ⟨es1, xs1, xs1', _, g2, rfl, g4, _⟩ | g
    · exact ⟨_, g2, ⟨xs1, rfl, by omega⟩, hb q⟩
    · exact ⟨nd, g, compat_refl nd, hb q⟩

section
variable {P : Program} {w0 : World} {fz0 : Nat → Prop} {w : World} {L : Nat → Nat → Prop}

theorem free1_rel {fz : Nat → Prop} {R : AV → Value → Prop} {v : AV} {c : Value} (h : VRel w fz R v c) (hf : v.free1 = true) : VRel0 w fz v c := by
  cases h with
  | base _ _ h => exact h
  | ref _ _ hv _ => cases v <;> simp [AV.isRef, AV.free1] at hv hf
  | _ => simp [AV.free1] at hf
theorem plain_rel {fz : Nat → Prop} {R : AV → Value → Prop} {v : AV} {c : Value} (h : VRel w fz R v c) (hf : v.plain = true) : VRel0 w fz v c := by
  cases h with
  | base _ _ h => exact h
  | ref _ _ hv _ => cases v <;> simp [AV.isRef, AV.plain] at hv hf
  | fn f cs vs hl hr =>
    simp only [AV.plain, List.all_eq_true] at hf
    refine .fn f cs vs hl (fun j d u hd hu => free1_rel (hr j d u hd hu) (hf d (List.mem_of_getElem? hd)))
  | _ => simp [AV.plain] at hf
theorem plain_one {v : AV} (h : v.plain = true) : v.one = true ∧ isNode v = false := by
  cases v <;> simp [AV.plain] at h <;> exact ⟨rfl, rfl⟩

def temps (cs : List AV) : List Ob := cs.map fun c => { st := 0, ss := 0, c := if isNode c then c else .gone }

theorem takeCell_cases {h h1 : List Ob} {v c : AV} (hk : takeCell h v = some (c, h1)) :
    (v.plain = true ∧ c = v ∧ h1 = h) ∨ ∃ r st p ss len es xs, v = .sl r st p ss 0 len ∧ node h r st p ss = some (.own es xs) ∧ len ≤ xs.length ∧ c = .own es (xs.take len) ∧ setOb h r p .gone false = some h1 := by
  unfold takeCell at hk
  split at hk
  · rename_i r st p ss off len
    split at hk
    · rename_i es xs hn
      split at hk
      · rename_i hc
        split at hk
        · rename_i h' hs
          cases hk
          obtain ⟨rfl, hl⟩ := hc
          exact .inr ⟨r, st, p, ss, len, es, xs, rfl, hn, hl, rfl, hs⟩
        · cases hk
      · cases hk
    · cases hk
  · split at hk
    · rename_i hp; cases hk; exact .inl ⟨hp, rfl, rfl⟩
    · cases hk

theorem takeCells_sound : ∀ (vs : List AV) (us : List Value) (cs : List AV) (h h1 tl : List Ob) (m : Mem), Rel w0 fz0 m (h ++ tl) w →
    (∀ (j : Nat) (d : AV) (u : Value), vs[j]? = some d → us[j]? = some u → d.one = true ∧ u.oneCell' = true ∧ VRel w m.fz (RefR w m h L) d u) → us.length = vs.length →
    takeCells h vs = some (cs, h1) →
    ∃ m1 : Mem, m1.fz = m.fz ∧ Rel w0 fz0 m1 (h1 ++ tl ++ temps cs) w ∧ h1.length = h.length ∧ HStep m m1 h h1 ∧ (∀ r p, r < h.length + tl.length → m1.blk r p = m.blk r p) ∧ cs.length = vs.length ∧
      (∀ (j : Nat) (c : AV) (u : Value), cs[j]? = some c → us[j]? = some u → c.one = true ∧ u.oneCell' = true ∧
        ((isNode c = false ∧ VRel0 w m.fz c u) ∨ (∃ es xs, c = .own es xs ∧ SliceAt w m1 (h.length + tl.length + j) [] es 0 xs.length u))) := by
  intro vs
  induction vs with
  | nil =>
    intro us cs h h1 tl m hr _ _ hk
    simp [takeCells] at hk
    obtain ⟨rfl, rfl⟩ := hk
    exact ⟨m, rfl, by simpa [temps] using hr, rfl, HStep.refl m h, fun _ _ _ => rfl, rfl, fun j c u h => by simp at h⟩
  | cons v vs ih =>
    intro us cs h h2 tl m hr hv hlen hk
    cases us with
    | nil => simp at hlen
    | cons u us =>
      obtain ⟨hone, h1c, hvr⟩ := hv 0 v u rfl rfl
      simp only [takeCells] at hk
      cases hc : takeCell h v with
      | none => simp [hc] at hk
      | some ch =>
        obtain ⟨c, h1⟩ := ch
        simp only [hc] at hk
        cases hcs : takeCells h1 vs with
        | none => simp [hcs] at hk
        | some csh =>
          obtain ⟨cs', h2'⟩ := csh
          simp only [hcs, Option.some.injEq, Prod.mk.injEq] at hk
          obtain ⟨rfl, rfl⟩ := hk
          -- the first cell
          have first : ∃ m1 : Mem, m1.fz = m.fz ∧ Rel w0 fz0 m1 (h1 ++ (tl ++ [{ st := 0, ss := 0, c := if isNode c then c else .gone }])) w ∧ h1.length = h.length ∧ HStep m m1 h h1 ∧ (∀ r p, r < h.length + tl.length → m1.blk r p = m.blk r p) ∧ c.one = true ∧
              ((isNode c = false ∧ VRel0 w m.fz c u) ∨ (∃ es xs, c = .own es xs ∧ SliceAt w m1 (h.length + tl.length) [] es 0 xs.length u)) := by
            rcases takeCell_cases hc with ⟨hp, rfl, rfl⟩ | ⟨r, st, p, ss, len, es, xs, rfl, hn, hle, rfl, hs⟩
            · obtain ⟨p1, p2⟩ := plain_one hp
              refine ⟨m, rfl, ?_, rfl, HStep.refl m h1, fun _ _ _ => rfl, p1, .inl ⟨p2, plain_rel hvr hp⟩⟩
              rw [p2]
              refine hr.congr (fun r p nd hn hi => ?_)
              obtain ⟨o, e, hnav⟩ := nodeAt_eq.1 hn
              rw [← List.append_assoc] at e
              rcases Nat.lt_or_ge r (h1 ++ tl).length with hlt | hge
              · rw [List.getElem?_append_left hlt] at e
                exact nodeAt_eq.2 ⟨o, e, hnav⟩
              · rw [List.getElem?_append_right hge] at e
                have : o.c = .gone := by
                  cases hk : r - (h1 ++ tl).length with
                  | zero => rw [hk] at e; simp at e; rw [← e]
                  | succ k => rw [hk] at e; simp at e
                rw [this] at hnav
                exact (nav_gone hnav hi).elim
            · obtain ⟨o, c', ho, hu, rfl⟩ := setOb_some hs
              obtain ⟨ob, g1, g2, g3, g4⟩ := hvr.inv_ref rfl
              obtain ⟨g5, g6⟩ := g4 _ _ hn
              have hrl : r < h.length := List.lt_of_some ho
              have hT : h.length + tl.length ≠ r := by omega
              have hnA : nodeAt (h ++ tl) r p = some (.own es xs) := by
                obtain ⟨o', e1, e2⟩ := nodeAt_eq.1 (node_at hn)
                exact nodeAt_eq.2 ⟨o', by rw [List.getElem?_append_left hrl]; exact e1, e2⟩
              refine ⟨{ blk := takeBlk m r p es 0 (h.length + tl.length), fz := m.fz }, rfl, ?_, by simp, ?_, fun r2 p2 hr2 => ?_, rfl, .inr ⟨es, xs.take len, rfl, ?_⟩⟩
              · simp only [isNode, if_true]
                refine hr.take hnA 0 len (h.length + tl.length) hT (fun o ho => ?_) ⟨{ st := 0, ss := 0, c := .own es (xs.take len) }, ?_, by simp⟩ ⟨o, _, by rw [List.getElem?_append_left hrl]; exact ho, by rw [List.getElem?_append_left (by simpa using hrl), List.getElem?_set_self hrl], hu⟩ (fun r2 o2 e1 e2 e3 hi => ?_)
                · rw [List.getElem?_eq_none (by simp)] at ho; cases ho
                · rw [← List.append_assoc, List.getElem?_append_right (by simp)]; simp
                · refine ⟨o2, ?_, rfl⟩
                  rw [← List.append_assoc] at e3
                  rcases Nat.lt_or_ge r2 (h.length + tl.length) with hlt | hge
                  · rw [List.getElem?_append_left (by simpa using hlt)] at e3
                    rcases Nat.lt_or_ge r2 h.length with hl2 | hl2
                    · rw [List.getElem?_append_left (by simpa using hl2), List.getElem?_set_ne (fun h => e1 h.symm)] at e3
                      rw [List.getElem?_append_left hl2]; exact e3
                    · rw [List.getElem?_append_right (by simpa using hl2)] at e3
                      rw [List.getElem?_append_right hl2]; simpa using e3
                  · have : r2 ≠ h.length + tl.length := e2
                    rw [List.getElem?_eq_none (by simp; omega)] at e3; cases e3
              · intro r2 o2 ho2
                by_cases er : r2 = r
                · subst er
                  rw [ho] at ho2; cases ho2
                  refine ⟨_, by rw [List.getElem?_set_self hrl]; rfl, OStep.gone hu (fun _ => by show takeBlk _ _ _ _ _ _ _ _ = _; unfold takeBlk; rw [if_neg hT.symm])⟩
                · exact ⟨o2, by rw [List.getElem?_set_ne (fun h => er h.symm)]; exact ho2, OStep.same (fun p nd _ _ => by
                    have := List.lt_of_some ho2
                    have hne : r2 ≠ h.length + tl.length := by omega
                    simp [takeBlk, hne])⟩
              · have hne : r2 ≠ h.length + tl.length := by omega
                simp [takeBlk, hne]
              · have hlt : (xs.take len).length = len := by simp; omega
                rw [hlt]
                obtain ⟨A, cap, e, h3, h4⟩ := g6
                refine ⟨A, cap, e, h3, ?_⟩
                have hb : takeBlk m r p es 0 (h.length + tl.length) (h.length + tl.length) [] = m.blk r p := by simp [takeBlk]
                simp only [hb]
                exact h4
          obtain ⟨m1, hfz, hr1, hl1, hst1, hbk1, hcone, hcr⟩ := first
          have hvs' : ∀ (j : Nat) (d : AV) (u : Value), vs[j]? = some d → us[j]? = some u → d.one = true ∧ u.oneCell' = true ∧ VRel w m1.fz (RefR w m1 h1 L) d u := by
            intro j d u hd hu
            obtain ⟨k1, k2, k3⟩ := hv (j + 1) d u hd hu
            exact ⟨k1, k2, k3.mono (fun _ _ _ _ h => h) (fun b hb => hfz ▸ hb) (fun v c hrr => RefR.mono (WKeep.refl w) hst1 (fun _ _ h => h) hrr)⟩
          obtain ⟨m2, hfz2, hr2, hl2, hst2, hbk2, hcl2, hall2⟩ := ih us cs' h1 h2' (tl ++ [{ st := 0, ss := 0, c := if isNode c then c else .gone }]) m1 hr1 hvs' (by simpa using hlen) hcs
          refine ⟨m2, hfz2.trans hfz, ?_, hl2.trans hl1, hst1.trans hst2, fun r p hrp => ?_, by simp [hcl2], fun j d x hd hx => ?_⟩
          · simpa [temps] using hr2
          · rw [hbk2 r p (by simp; omega), hbk1 r p hrp]
          · cases j with
            | zero =>
              simp at hd hx
              subst hd; subst hx
              refine ⟨hcone, h1c, ?_⟩
              rcases hcr with h | ⟨es, xs, rfl, hs⟩
              · exact .inl h
              · refine .inr ⟨es, xs, rfl, ?_⟩
                refine SliceAt.mono (WKeep.refl w) ?_ hs
                rw [Nat.add_zero]
                exact hbk2 _ _ (by simp; omega)
            | succ j =>
              simp at hd hx
              obtain ⟨k1, k2, k3⟩ := hall2 j d x hd hx
              refine ⟨k1, k2, ?_⟩
              rcases k3 with ⟨k3, k4⟩ | ⟨es, xs, rfl, hs⟩
              · exact .inl ⟨k3, hfz ▸ k4⟩
              · refine .inr ⟨es, xs, rfl, ?_⟩
                have e1 : h1.length + (tl ++ [({ st := 0, ss := 0, c := if isNode c then c else .gone } : Ob)]).length + j = h.length + tl.length + (j + 1) := by simp; omega
                rw [e1] at hs; exact hs
end
end Go.Mw

/- Stores. -/
namespace Go.Mw
open Go.RowKit
set_option linter.unusedVariables false
set_option linter.unusedSimpArgs false

section
variable {P : Program} {sm : List Nat} {o : Oper} {a : Act} {w0 : World} {fz0 : Nat → Prop} {m : Mem} {w : World} {L : Nat → Nat → Prop} {σ : St} {base : Nat} {i : Ins} {v : AV} {h' : List Ob}

theorem setRow_other (w : World) (g : Nat) (arr : Array Value) (k : Nat) (h : k ≠ g) : (w.setRow g arr).heap[k]? = w.heap[k]? := by
  simp only [World.setRow, Array.getElem?_modify]
  rw [if_neg (fun e => h e.symm)]
theorem setRow_size (w : World) (g : Nat) (arr : Array Value) : (w.setRow g arr).heap.size = w.heap.size := by
  simp [World.setRow]
theorem setRow_below {B : Nat} {w1 w : World} (hb : Below B w1 w) {g : Nat} (hg : B ≤ g) (arr : Array Value) : Below B w1 (w.setRow g arr) :=
  hb.trans ⟨rfl, rfl, rfl, by rw [setRow_size]; exact Nat.le_refl _, fun k hk => setRow_other _ _ _ _ (by omega)⟩
theorem setRow_wkeep {w : World} {g : Nat} {arr arr' : Array Value} {ty : TypeId} (hg : w.heap[g]? = some (.cells arr ty (0, 0))) (hs : arr'.size = arr.size) : WKeep w (w.setRow g arr') := by
  refine ⟨fun b c t hb => ?_, fun b ents clock hb => ?_, fun b o hb ho => ?_, by rw [setRow_size]; exact Nat.le_refl _⟩
  rotate_left 2
  · by_cases e : b = g
    · subst e; rw [hg] at hb; cases hb; cases ho
    · rw [setRow_other _ _ _ _ e]; exact hb
  · by_cases e : b = g
    · subst e
      rw [hg] at hb; cases hb
      exact ⟨arr', setRow_heap w b arr arr' ty _ hg, hs⟩
    · exact ⟨c, by rw [setRow_other _ _ _ _ e]; exact hb, rfl⟩
  · by_cases e : b = g
    · subst e; rw [hg] at hb; cases hb
    · exact ⟨ents, clock, by rw [setRow_other _ _ _ _ e]; exact hb, fun i e h => ⟨e, h, rfl⟩⟩

theorem setCells_cells : ∀ (cs : List AV) (e : AV) (j : Nat), (∀ c ∈ cs, c.one = true) → j + cs.length ≤ e.cells.length →
    (setCells e j cs).cells.length = e.cells.length ∧ ∀ k, (setCells e j cs).cells[k]? = if j ≤ k ∧ k < j + cs.length then cs[k - j]? else e.cells[k]? := by
  intro cs
  induction cs with
  | nil =>
    intro e j _ _
    refine ⟨rfl, fun k => ?_⟩
    simp only [setCells, List.length_nil, Nat.add_zero]
    rw [if_neg (by omega)]
  | cons c cs ih =>
    intro e j h1 hl
    simp only [List.length_cons] at hl
    have hc := AV.one_ne (h1 c (List.mem_cons_self ..))
    obtain ⟨g1, g2⟩ := cells_setCellOf e j c hc
    have g2 := g2 (by omega)
    obtain ⟨k1, k2⟩ := ih (setCellOf e j c) (j + 1) (fun d hd => h1 d (List.mem_cons_of_mem _ hd)) (by rw [g1]; omega)
    refine ⟨by simp only [setCells]; rw [k1, g1], fun k => ?_⟩
    simp only [setCells]
    rw [k2 k, g2 k]
    simp only [List.length_cons]
    by_cases ek : k = j
    · subst ek
      rw [if_neg (by omega), if_pos rfl, if_pos (by omega)]
      simp
    · by_cases hk : j + 1 ≤ k ∧ k < j + 1 + cs.length
      · rw [if_pos hk, if_pos (by omega)]
        have : k - j = (k - (j + 1)) + 1 := by omega
        rw [this, List.getElem?_cons_succ]
      · rw [if_neg hk, if_neg ek, if_neg (by omega)]

theorem putBlk_noT {m : Mem} {r : Nat} {p : Path} {tf : Nat → Nat → Option (Nat × Path)} (h : ∀ i j, tf i j = none) : putBlk m r p tf = m.blk := by
  funext r2 p2
  unfold putBlk
  split
  · split
    · rename_i i j q hs
      rw [h i j]
    · rfl
  · rfl

theorem temps_get {cs : List AV} {k : Nat} {c : AV} (h : cs[k]? = some c) (hn : isNode c = true) (h1 : List Ob) : nodeAt (h1 ++ temps cs) (h1.length + k) [] = some c := by
  refine nodeAt_eq.2 ⟨{ st := 0, ss := 0, c := c }, ?_, nav_nil _⟩
  rw [List.getElem?_append_right (by omega)]
  simp only [temps, Nat.add_sub_cancel_left, List.getElem?_map, h, Option.map_some, hn, if_true]

/-- In-place change of cells, no structure turning: references hold on. -/
theorem OStep.keep {m m' : Mem} {r : Nat} {o : Ob} {p : Path} {es : Nat} {xs xs' : List AV} {c : AV} (hu : upd o.c p (.own es xs') = some c) (hn : nav o.c p = some (.own es xs)) (hl : xs'.length = xs.length)
    (hcell : ∀ (i j : Nat) (e d : AV), xs'[i]? = some e → e.cells[j]? = some d → isNode d = true → ∃ e0, xs[i]? = some e0 ∧ e0.cells[j]? = some d)
    (hb : ∀ q, m'.blk r q = m.blk r q) : OStep m m' r o { o with c } := by
  have hvo : ∀ cs, AV.own es xs' ≠ .agg cs := by intro cs h; cases h
  refine .inr ⟨rfl, .inr ⟨rfl, fun q nd' hq hi => ?_⟩⟩
  simp only at hq
  by_cases hp : p <+: q
  · obtain ⟨t, rfl⟩ := hp
    rw [nav_upd_self p _ _ _ hvo hu t] at hq
    cases t with
    | nil => rw [nav_nil] at hq; cases hq; exact ⟨_, by rw [List.append_nil]; exact hn, ⟨xs, rfl, by omega⟩, hb _⟩
    | cons x t =>
      obtain ⟨i, j⟩ := x
      obtain ⟨es1, xs1, e, d, h3, he, hd, ht⟩ := (nav_cons ..).1 hq
      cases h3
      obtain ⟨e0, k1, k2⟩ := hcell i j e d he hd (not_node_nav ht hi)
      exact ⟨nd', nav_append _ _ _ _ _ hn ((nav_cons ..).2 ⟨es, xs, e0, d, rfl, k1, k2, ht⟩), compat_refl _, hb _⟩
  · rcases nav_upd_other p _ _ _ hvo hu q nd' hp hq with ⟨es1, xs1, xs1', g1, g2, rfl, g4, g5⟩ | g
    · exact ⟨_, g2, ⟨xs1, rfl, by omega⟩, hb _⟩
    · exact ⟨nd', g, compat_refl _, hb _⟩

theorem ok_sto (ht : TR w m σ.h L σ.t a.tmps) (hr : Rel w0 fz0 m σ.h w) {t : TypeId} {x y : Operand} {x' y' : Opd} {n : Nat} (ho : o.op = .store t x y)
    (hn : szT P t = some n) (h1 : opd x = some x') (h2 : opd y = some y')
    (hx : ax base (.sto n x' y') σ = some (v, h')) : OpOk P o a w0 fz0 m σ.h w L v h' := by
  have hb := ht.get (a := a) h1
  have hd := ht.get (a := a) h2
  simp only [ax] at hx
  generalize hg : σ.get x' = g at hx hb
  cases g <;> simp only [reduceCtorEq] at hx
  rename_i r st p ss i j
  split at hx
  · rename_i es0 xs0 vs hnd hvc
    cases htk : takeCells σ.h vs with
    | none => simp [htk] at hx
    | some csh =>
      obtain ⟨cs, hh1⟩ := csh
      simp only [htk] at hx
      split at hx
      · rename_i es xs hnA
        cases hxi : xs[i]? with
        | none => simp [hxi] at hx
        | some e =>
          simp only [hxi] at hx
          split at hx
          · rename_i hcond
            obtain ⟨rfl, hle⟩ := hcond
            cases hso : setOb hh1 r p (.own es0 (xs.set i (setCells e j cs))) (cs.any isNode || ((e.cells.drop j).take n).any isNode) with
            | none => simp [hso] at hx
            | some hf =>
              simp only [hso, Option.map_some, Option.some.injEq, Prod.mk.injEq] at hx
              obtain ⟨rfl, rfl⟩ := hx
              obtain ⟨ob0, b1, b2, b3, b4⟩ := hb.inv_ref rfl
              have eA := b4 _ _ hnd
              obtain ⟨v1, v2, v3⟩ := vcells_rel hd hvc
              obtain ⟨m1, hfz, hr1, hl1, hst1, hbk, hcl, hall⟩ := takeCells_sound (w0 := w0) (fz0 := fz0) (L := L) vs (a.eval y).cells.toList cs σ.h hh1 [] m (by simpa using hr) (fun jj d u hd' hu' => v3 jj d u hd' (by simpa using hu')) (by simp [v1, v2]) htk
              simp only [List.append_nil, List.length_nil, Nat.add_zero] at hr1 hbk hall
              have hrl : r < σ.h.length := List.lt_of_some b1
              have hcsn : cs.length = n := by rw [hcl, v1]
              obtain ⟨oo, cc, hoo, huu, hff⟩ := setOb_some hso
              have hrl1 : r < hh1.length := by omega
              have hnA' : nodeAt (hh1 ++ temps cs) r p = some (.own es0 xs) := by
                obtain ⟨o', e1, e2⟩ := nodeAt_eq.1 hnA
                exact nodeAt_eq.2 ⟨o', by rw [List.getElem?_append_left hrl1]; exact e1, e2⟩
              obtain ⟨hpos, arr, ty, ha, hcells⟩ := hr1.nodes _ _ _ hnA'
              obtain ⟨hes, hecs⟩ := hcells i e hxi
              have hbr := hbk r p hrl
              rw [hbr] at ha hecs
              have hlo := hr1.lo _ _ _ hnA' rfl
              rw [hbr] at hlo
              -- the model's side
              have husl : (a.eval y).cells.toList.length = n := by simpa using v2
              have hfit : (m.blk r p).2 + (i * es0 + j) + 0 + (a.eval y).cells.toList.length ≤ arr.size := by
                rcases Nat.eq_zero_or_pos n with h0 | h0
                · have : (m.blk r p).2 + (i * es0 + j) ≤ arr.size := by
                    rcases Nat.eq_zero_or_pos e.cells.length with hz | hz
                    · omega
                    · obtain ⟨_, u, g2, _⟩ := hecs (e.cells.length - 1) _ (List.getElem?_eq_getElem (by omega))
                      have := (Array.getElem?_eq_some_iff.1 g2).1
                      omega
                  omega
                · obtain ⟨_, u, g2, _⟩ := hecs (j + n - 1) _ (List.getElem?_eq_getElem (by omega))
                  have := (Array.getElem?_eq_some_iff.1 g2).1
                  omega
              have hone : ∀ u ∈ (a.eval y).cells.toList, u.oneCell' = true := by
                intro u hu
                obtain ⟨k, hk1, hk2⟩ := List.mem_iff_getElem.1 hu
                have hk3 : k < vs.length := by omega
                exact (v3 k vs[k] u (List.getElem?_eq_getElem hk3) (by rw [← Array.getElem?_toList, List.getElem?_eq_getElem hk1, hk2])).2.1
              have hrun := run_storeCells_at (P := P) (m.blk r p).1 ((m.blk r p).2 + (i * es0 + j)) ty (a.eval y).cells.toList 0 arr w ha hfit hone
              let arr' : Array Value := (arr.toList.take ((m.blk r p).2 + (i * es0 + j)) ++ (a.eval y).cells.toList ++ arr.toList.drop ((m.blk r p).2 + (i * es0 + j) + n)).toArray
              have hrun' : (Instr.storeAt t (.pointer (some ⟨(m.blk r p).1, (m.blk r p).2 + (i * es0 + j), none⟩)) (a.eval y)).run P w = .ok () (w.setRow (m.blk r p).1 arr') := by
                simp only [Instr.storeAt, Instr.sureAddr, storeVar]
                have : ¬ ((a.eval y).cells.size ≠ n) := by simp [v2]
                simp only [Nat.add_zero, husl] at hrun
                simp [run_sizeOf hn, v2, hrun, arr']
              have hasz : arr'.size = arr.size := by simp [arr', v2]; omega
              have ha' : (w.setRow (m.blk r p).1 arr').heap[(m.blk r p).1]? = some (.cells arr' ty (0, 0)) := setRow_heap w _ arr arr' ty _ ha
              have hget : ∀ k, arr'[k]? = if (m.blk r p).2 + (i * es0 + j) ≤ k ∧ k < (m.blk r p).2 + (i * es0 + j) + n then (a.eval y).cells[k - ((m.blk r p).2 + (i * es0 + j))]? else arr[k]? := by
                intro k
                have hoff : (m.blk r p).2 + (i * es0 + j) ≤ arr.size := by omega
                rw [← Array.getElem?_toList]
                simp only [arr']
                by_cases c1 : k < (m.blk r p).2 + (i * es0 + j)
                · rw [if_neg (by omega), List.append_assoc, List.getElem?_append_left (by simp; omega), List.getElem?_take, if_pos c1]; simp
                · by_cases c2 : k < (m.blk r p).2 + (i * es0 + j) + n
                  · rw [if_pos ⟨by omega, c2⟩, List.getElem?_append_left (by simp; omega), List.getElem?_append_right (by simp; omega)]
                    simp only [List.length_take, Array.length_toList, Array.getElem?_toList]
                    congr 1; omega
                  · rw [if_neg (by omega), List.getElem?_append_right (by simp; omega)]
                    have e1 : (List.take ((m.blk r p).2 + (i * es0 + j)) arr.toList ++ (a.eval y).cells.toList).length = (m.blk r p).2 + (i * es0 + j) + n := by simp [v2]; omega
                    rw [e1, List.getElem?_drop]
                    simp only [Array.getElem?_toList]
                    congr 1; omega
              have hone1 : ∀ c ∈ cs, c.one = true := by
                intro c hc
                obtain ⟨k, hk1, hk2⟩ := List.mem_iff_getElem.1 hc
                have hk3 : k < (a.eval y).cells.toList.length := by omega
                exact (hall k c _ (by rw [List.getElem?_eq_getElem hk1, hk2]) (List.getElem?_eq_getElem hk3)).1
              obtain ⟨sc1, sc2⟩ := setCells_cells cs e j hone1 (by omega)
              have hil : i < xs.length := List.lt_of_some hxi
              -- which cells come from elsewhere
              let tf : Nat → Nat → Option (Nat × Path) := fun i' j' => if i' = i ∧ j ≤ j' ∧ j' < j + n then match cs[j' - j]? with
                | some c => if isNode c then some (hh1.length + (j' - j), []) else none
                | none => none
                else none
              have hel : ∀ (i' : Nat) (e' : AV), (xs.set i (setCells e j cs))[i']? = some e' → (i' = i ∧ e' = setCells e j cs) ∨ (i' ≠ i ∧ xs[i']? = some e') := by
                intro i' e' h
                by_cases ei : i' = i
                · subst ei; rw [List.getElem?_set_self hil] at h; cases h; exact .inl ⟨rfl, rfl⟩
                · rw [List.getElem?_set_ne (fun h => ei h.symm)] at h; exact .inr ⟨ei, h⟩
              have hwk := setRow_wkeep ha hasz
              have htf : ∀ i' j' T q, tf i' j' = some (T, q) → i' = i ∧ j ≤ j' ∧ j' < j + n ∧ T = hh1.length + (j' - j) ∧ q = [] ∧ ∃ c, cs[j' - j]? = some c ∧ isNode c = true := by
                intro i' j' T q h
                simp only [tf] at h
                split at h
                · rename_i hc
                  split at h
                  · rename_i c hcc
                    split at h
                    · rename_i hin; cases h; exact ⟨hc.1, hc.2.1, hc.2.2, rfl, rfl, c, hcc, hin⟩
                    · cases h
                  · cases h
                · cases h
              have hput := hr1.put (h' := hf) (w' := w.setRow (m.blk r p).1 arr') (arr := arr) (arr' := arr') (ty := ty) hnA' (setRow_below hr.below hlo.1 arr') (by rw [setRow_size]; exact Nat.le_refl _)
                (fun k hk _ => setRow_other _ _ _ _ (by rw [hbr] at hk; exact hk)) hwk (by rw [hbr]; exact ha) (by rw [hbr]; exact ha') tf (xs' := xs.set i (setCells e j cs)) ?_ ?_ ?_ ?_ (.inr (by simp)) ?_ ?_
              rotate_left
              · intro i' e' he'
                rcases hel i' e' he' with ⟨rfl, rfl⟩ | ⟨_, h⟩
                · rw [sc1]; exact hes
                · exact (hcells i' e' h).1
              · intro i' j' e' c' he' hc'
                rw [hbr]
                rcases hel i' e' he' with ⟨rfl, rfl⟩ | ⟨hne, h⟩
                · rw [sc2 j', hcsn] at hc'
                  split at hc'
                  · rename_i hrange
                    have hk3 : j' - j < (a.eval y).cells.toList.length := by omega
                    obtain ⟨u, hu⟩ : ∃ u, (a.eval y).cells.toList[j' - j]? = some u := ⟨_, List.getElem?_eq_getElem hk3⟩
                    obtain ⟨g1, g2, g3⟩ := hall (j' - j) c' u hc' hu
                    refine ⟨g1, u, ?_, g2, ?_⟩
                    · rw [hget, if_pos (by omega)]
                      rw [← Array.getElem?_toList, ← hu]; congr 1; omega
                    · rcases g3 with ⟨g3, g4⟩ | ⟨es', ys, rfl, g4⟩
                      · refine .inl ⟨?_, g3, ?_⟩
                        · simp only [tf]; rw [if_pos ⟨trivial, hrange.1, hrange.2⟩, hc']; simp [g3]
                        · rw [← hfz] at g4
                          cases c' <;> first | exact g4 | exact True.intro | (simp [isNode] at g3)
                      · refine .inr (.inr ⟨hh1.length + (j' - j), [], ?_, temps_get hc' rfl hh1, rfl, ?_⟩)
                        · simp only [tf]; rw [if_pos ⟨trivial, hrange.1, hrange.2⟩, hc']; rfl
                        · simp only [CellR]; rw [hl1]; exact g4
                  · rename_i hrange
                    obtain ⟨g1, u, g2, g3, g4⟩ := hecs j' c' hc'
                    have hjlt : j' < es0 := by rw [← hes]; exact List.lt_of_some hc'
                    refine ⟨g1, u, ?_, g3, .inr (.inl ⟨?_, ⟨e, hxi, hc'⟩, g2⟩)⟩
                    · rw [hget, if_neg (by omega)]; exact g2
                    · simp only [tf]; rw [if_neg (by omega)]
                · obtain ⟨k1, k2⟩ := hcells i' e' h
                  obtain ⟨g1, u, g2, g3, g4⟩ := k2 j' c' hc'
                  rw [hbr] at g2
                  have hjlt : j' < es0 := by rw [← k1]; exact List.lt_of_some hc'
                  have hrow : ¬ ((m.blk r p).2 + (i * es0 + j) ≤ (m.blk r p).2 + (i' * es0 + j') ∧ (m.blk r p).2 + (i' * es0 + j') < (m.blk r p).2 + (i * es0 + j) + n) := by
                    intro ⟨q1, q2⟩
                    rcases Nat.lt_or_gt_of_ne hne with hlt | hgt
                    · have : (i' + 1) * es0 ≤ i * es0 := Nat.mul_le_mul_right _ hlt
                      rw [Nat.add_mul] at this; omega
                    · have : (i + 1) * es0 ≤ i' * es0 := Nat.mul_le_mul_right _ hgt
                      rw [Nat.add_mul] at this; omega
                  refine ⟨g1, u, ?_, g3, .inr (.inl ⟨?_, ⟨e', h, hc'⟩, g2⟩)⟩
                  · rw [hget, if_neg hrow]; exact g2
                  · simp only [tf]; rw [if_neg (by omega)]
              · intro i' j' T q h
                obtain ⟨_, _, _, rfl, _⟩ := htf i' j' T q h
                omega
              · intro i1 j1 i2 j2 T q T' q' e1 e2 hne
                obtain ⟨rfl, a1, a2, rfl, rfl, _⟩ := htf _ _ _ _ e1
                obtain ⟨rfl, c1, c2, rfl, rfl, _⟩ := htf _ _ _ _ e2
                refine .inl (fun he => hne ?_)
                have : j1 = j2 := by omega
                subst this; rfl
              · intro r2 o2 hne ho2 hi2
                rw [hff, List.getElem?_set_ne (fun h => hne h.symm)] at ho2
                have hlt2 := List.lt_of_some ho2
                refine ⟨o2, by rw [List.getElem?_append_left hlt2]; exact ho2, rfl, fun i' j' T q h => ?_⟩
                obtain ⟨_, _, _, rfl, _⟩ := htf i' j' T q h
                omega
              · exact ⟨oo, _, by rw [List.getElem?_append_left hrl1]; exact hoo, by rw [hff, List.getElem?_set_self hrl1], huu⟩
              refine ⟨undef, w.setRow (m.blk r p).1 arr', { blk := putBlk m1 r p tf, fz := m1.fz }, .inr ⟨?_, rfl⟩, hput, ?_, hwk, ?_, fun b hb' => by simpa [hfz] using hb', by rw [hff]; simp [hl1], .base _ _ (.undef _)⟩
              · simp only [execOp, ho, eA]
                simp [hrun']
              · refine hst1.trans (fun r2 o2 ho2 => ?_)
                by_cases er : r2 = r
                · subst er
                  rw [hoo] at ho2; cases ho2
                  refine ⟨_, by rw [hff, List.getElem?_set_self hrl1], ?_⟩
                  by_cases hbump : (cs.any isNode || ((e.cells.drop j).take n).any isNode) = true
                  · rw [if_pos hbump]
                    refine OStep.bump huu (fun hp _ => ?_) (fun _ => ?_)
                    · subst hp
                      obtain ⟨o', e1, e2⟩ := nodeAt_eq.1 hnA
                      rw [hoo] at e1; cases e1
                      rw [nav_nil] at e2
                      simp only [Option.some.injEq] at e2
                      rw [e2]
                      exact ⟨xs, rfl, by simp⟩
                    · show putBlk m1 r2 p tf r2 [] = _
                      cases p with
                      | nil => exact putBlk_self
                      | cons q p => exact putBlk_out (fun h => by simp at h)
                  · rw [if_neg hbump]
                    have hbf : (cs.any isNode || ((e.cells.drop j).take n).any isNode) = false := by simpa using hbump
                    rw [Bool.or_eq_false_iff] at hbf
                    have hnoT : ∀ i' j', tf i' j' = none := by
                      intro i' j'
                      cases hq : tf i' j' with
                      | none => rfl
                      | some Tq =>
                        obtain ⟨T, q⟩ := Tq
                        obtain ⟨_, _, _, _, _, c, hc1, hc2⟩ := htf _ _ _ _ hq
                        have := List.any_eq_false.1 hbf.1 c (List.mem_of_getElem? hc1)
                        rw [hc2] at this; simp at this
                    obtain ⟨o', e1, e2⟩ := nodeAt_eq.1 hnA
                    rw [hoo] at e1; cases e1
                    refine OStep.keep huu e2 (by simp) (fun i' j' e' d he' hd' hnd' => ?_) (fun q => by show putBlk m1 r2 p tf r2 q = _; rw [putBlk_noT hnoT])
                    rcases hel i' e' he' with ⟨rfl, rfl⟩ | ⟨hne, h⟩
                    · rw [sc2 j', hcsn] at hd'
                      split at hd'
                      · have := List.any_eq_false.1 hbf.1 d (List.mem_of_getElem? hd')
                        rw [hnd'] at this; simp at this
                      · exact ⟨e, hxi, hd'⟩
                    · exact ⟨e', h, hd'⟩
                · exact ⟨o2, by rw [hff, List.getElem?_set_ne (fun h => er h.symm)]; exact ho2, OStep.same (fun q nd _ _ => putBlk_ne er)⟩
              · intro b off u hb' hc'
                have hne : b ≠ (m.blk r p).1 := fun e => hlo.2 (by rw [hfz]; exact e ▸ hb')
                exact (World.cell?_of_block (a := ⟨b, off, none⟩) (setRow_other _ _ _ _ hne)).trans hc'
          · cases hx
      · cases hx
  · cases hx
end
end Go.Mw
