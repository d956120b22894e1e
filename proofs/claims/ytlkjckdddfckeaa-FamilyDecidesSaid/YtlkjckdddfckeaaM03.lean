/- Operations that look at the temporaries alone, or only read: sound. -/
import Derived.Test.YtlkjckdddfckeaaM02
import Derived.Laws.Cover3
namespace Go.Mw
open Go.RowKit
set_option linter.unusedVariables false
set_option linter.unusedSimpArgs false

/-- What an operation of the model does, as the abstract one says. -/
def OpOk (P : Program) (o : Oper) (a : Act) (w0 : World) (fz0 : Nat → Prop) (m : Mem) (h : List Ob) (w : World) (L : Nat → Nat → Prop) (v : AV) (h' : List Ob) : Prop :=
  ∃ (c : Value) (w' : World) (m' : Mem), ((execOp a.eval o).run P w = .ok (.value c) w' ∨ ((execOp a.eval o).run P w = .ok .skip w' ∧ c = undef)) ∧
    Rel w0 fz0 m' h' w' ∧ HStep m m' h h' ∧ WKeep w w' ∧ FKeep w w' m.fz ∧ (∀ b, m.fz b → m'.fz b) ∧ h'.length = h.length ∧ VRel w' m'.fz (RefR w' m' h' L) v c

section
variable {P : Program} {sm : List Nat} {o : Oper} {a : Act} {w0 : World} {fz0 : Nat → Prop} {m : Mem} {w : World} {L : Nat → Nat → Prop} {σ : St} {base : Nat} {i : Ins} {v : AV} {h' : List Ob}

theorem OpOk.quiet {h : List Ob} (hr : Rel w0 fz0 m h w) {c : Value} (hrun : (execOp a.eval o).run P w = .ok (.value c) w) (hv : VRel w m.fz (RefR w m h L) v c) : OpOk P o a w0 fz0 m h w L v h :=
  ⟨c, w, m, .inl hrun, hr, HStep.refl m h, WKeep.refl w, FKeep.refl w _, fun _ h => h, rfl, hv⟩

theorem ok_mov (ht : TR w m σ.h L σ.t a.tmps) (hr : Rel w0 fz0 m σ.h w) {x : Operand} (ho : o.op = .move x ∨ o.op = .assign x) (hc : (opd x).map Ins.mov = some i)
    (hx : ax base i σ = some (v, h')) : OpOk P o a w0 fz0 m σ.h w L v h' := by
  cases hy : opd x with
  | none => simp [hy] at hc
  | some y =>
    simp [hy] at hc; subst hc
    simp only [ax, Option.some.injEq, Prod.mk.injEq] at hx
    obtain ⟨rfl, rfl⟩ := hx
    refine OpOk.quiet hr (c := a.eval x) ?_ (ht.get hy)
    rcases ho with ho | ho <;> simp [execOp, ho]

theorem ok_pick (ht : TR w m σ.h L σ.t a.tmps) (hr : Rel w0 fz0 m σ.h w) {c x y : Operand} (ho : o.op = .pick c x y) (hc : compI P sm o = some i)
    (hx : ax base i σ = some (v, h')) : OpOk P o a w0 fz0 m σ.h w L v h' := by
  simp only [compI, ho] at hc
  cases h1 : opd c with
  | none => simp [h1] at hc
  | some c' => cases h2 : opd x with
    | none => simp [h1, h2] at hc
    | some x' => cases h3 : opd y with
      | none => simp [h1, h2, h3] at hc
      | some y' =>
        simp [h1, h2, h3] at hc; subst hc
        have hb := ht.get (a := a) h1
        simp only [ax] at hx
        split at hx
        · rename_i hg
          cases hx
          rw [hg] at hb
          refine OpOk.quiet hr (c := a.eval x) ?_ (ht.get h2)
          simp [execOp, ho, hb.inv_bool, asBool]
        · rename_i hg
          cases hx
          rw [hg] at hb
          refine OpOk.quiet hr (c := a.eval y) ?_ (ht.get h3)
          simp [execOp, ho, hb.inv_bool, asBool]
        · cases hx

theorem ok_un (ht : TR w m σ.h L σ.t a.tmps) (hr : Rel w0 fz0 m σ.h w) {op : UnOp} {t : TypeId} {x : Operand} (ho : o.op = .unOp op t x) (hc : compI P sm o = some i)
    (hx : ax base i σ = some (v, h')) : OpOk P o a w0 fz0 m σ.h w L v h' := by
  simp only [compI, ho] at hc
  cases h1 : opd x with
  | none => simp [h1] at hc
  | some x' =>
    simp [h1] at hc; subst hc
    have hb := ht.get (a := a) h1
    simp only [ax] at hx
    generalize hg : σ.get x' = g at hx hb
    cases op <;> cases g <;> simp [unAV] at hx
    · obtain ⟨rfl, rfl⟩ := hx
      refine OpOk.quiet hr (c := _) ?_ (.base _ _ (.int _ _))
      simp [execOp, ho, hb.inv_int, Op.unary, Op.intArith]
    · obtain ⟨rfl, rfl⟩ := hx
      refine OpOk.quiet hr (c := _) ?_ (.base _ _ (.bool _))
      simp [execOp, ho, hb.inv_bool, Op.unary]

theorem run_shift (P : Program) (w : World) (op : BinOp) (k yk : IntKind) (x y : Int) (hy : 0 ≤ y) :
    (Op.shift .shl k x yk y).run P w = .ok (.int k (k.wrap (x * 2 ^ (min y.toNat k.bits)))) w ∧
    (Op.shift .shr k x yk y).run P w = .ok (.int k (x.fdiv (2 ^ (min y.toNat k.bits)))) w := by
  have h : ¬ y < 0 := by omega
  constructor <;> simp [Op.shift, h]

theorem ok_bin (ht : TR w m σ.h L σ.t a.tmps) (hr : Rel w0 fz0 m σ.h w) {op : BinOp} {t yt : TypeId} {x y : Operand} {x' y' : Opd} (ho : o.op = .binOp op t x y yt)
    (h1 : opd x = some x') (h2 : opd y = some y')
    (hx : ax base (.bin op x' y') σ = some (v, h')) : OpOk P o a w0 fz0 m σ.h w L v h' := by
  have hb := ht.get (a := a) h1
  have hd := ht.get (a := a) h2
  simp only [ax] at hx
  generalize hg : σ.get x' = g at hx hb
  generalize hg' : σ.get y' = g' at hx hd
  have heg : ∀ (u u' : Value), (∀ (k : IntKind) (n : Int), u = .int k n → True) → ((∃ k n, u = .int k n) ∨ ∃ s, u = .string s) → eqGuard op t x y u u' = pure () := by
    rintro u u' - (⟨k, n, rfl⟩ | ⟨s, rfl⟩)
    · cases op <;> rfl
    · cases op <;> rfl
  cases g <;> cases g' <;> simp only [binAV, Option.map_none, reduceCtorEq] at hx
  · -- whole numbers
    rename_i k p k' q
    have e1 : a.eval x = .int k p := hb.inv_int
    have e2 : a.eval y = .int k' q := hd.inv_int
    have hgd := heg (.int k p) (.int k' q) (fun _ _ _ => trivial) (.inl ⟨_, _, rfl⟩)
    by_cases hsh : op = .shl ∨ op = .shr
    · rcases hsh with rfl | rfl
      · simp only at hx
        split at hx
        · rename_i hq
          cases hx
          refine OpOk.quiet hr (c := _) ?_ (.base _ _ (.int _ _))
          simp only [execOp, ho, e1, e2, hgd, binOp]
          simp [(run_shift P w .shl k k' p q hq).1]
        · cases hx
      · simp only at hx
        split at hx
        · rename_i hq
          cases hx
          refine OpOk.quiet hr (c := _) ?_ (.base _ _ (.int _ _))
          simp only [execOp, ho, e1, e2, hgd, binOp]
          simp [(run_shift P w .shl k k' p q hq).2]
        · cases hx
    · by_cases hk : k = k'
      · subst hk
        cases op <;> first | exact absurd (.inl rfl) hsh | exact absurd (.inr rfl) hsh | skip
        all_goals simp only [if_true, ite_true] at hx
        all_goals first
          | (simp only [Option.map_some, Option.some.injEq, Prod.mk.injEq] at hx
             obtain ⟨rfl, rfl⟩ := hx
             refine OpOk.quiet hr (c := _) ?_ (.base _ _ (by constructor))
             simp only [execOp, ho, e1, e2, hgd, binOp]
             simp [Op.intArith, Op.intBits, Op.intCmp]
             done)
          | (split at hx
             · cases hx
             · rename_i hq
               simp only [Option.map_some, Option.some.injEq, Prod.mk.injEq] at hx
               obtain ⟨rfl, rfl⟩ := hx
               refine OpOk.quiet hr (c := _) ?_ (.base _ _ (by constructor))
               simp only [execOp, ho, e1, e2, hgd, binOp]
               simp [Op.intDiv, hq])
      · exfalso
        cases op <;> first | exact absurd (.inl rfl) hsh | exact absurd (.inr rfl) hsh | (simp [hk] at hx)
  · -- strings
    rename_i p q
    have e1 : a.eval x = .string p := hb.inv_str
    have e2 : a.eval y = .string q := hd.inv_str
    have hgd := heg (.string p) (.string q) (fun _ _ _ => trivial) (.inr ⟨_, rfl⟩)
    cases op <;> simp at hx
    case add =>
      obtain ⟨hle, rfl, rfl⟩ := hx
      refine OpOk.quiet hr (c := _) ?_ (.base _ _ (.str _))
      simp only [execOp, ho, e1, e2, hgd, binOp]
      have : ¬ (((p.size + q.size : Nat) : Int) > IntKind.i64.max) := by
        have : IntKind.i64.max = 9223372036854775807 := by decide
        omega
      simp only [Op.stringOp]
      rw [if_neg this]
      simp
    all_goals
      obtain ⟨rfl, rfl⟩ := hx
      refine OpOk.quiet hr (c := _) ?_ (.base _ _ (.bool _))
      simp only [execOp, ho, e1, e2, hgd, binOp]
      simp [Op.stringOp]
end
end Go.Mw

/- More operations that look at the temporaries alone. -/
namespace Go.Mw
open Go.RowKit
set_option linter.unusedVariables false
set_option linter.unusedSimpArgs false

section
variable {P : Program} {sm : List Nat} {o : Oper} {a : Act} {w0 : World} {fz0 : Nat → Prop} {m : Mem} {w : World} {L : Nat → Nat → Prop} {σ : St} {base : Nat} {i : Ins} {v : AV} {h' : List Ob}

theorem run_isAgg {t : TypeId} {b : Bool} (h : aggT P t = some b) (w : World) : (isAgg t).run P w = .ok b w := by
  unfold aggT at h
  unfold isAgg
  cases hu : P.underlying t with
  | none => simp [hu] at h
  | some d =>
    simp only [hu] at h
    have := run_underlying hu w
    cases d <;> simp at h <;> subst h <;> simp [this]
theorem run_typeInfo {t : TypeId} {d : TypeInfo} (h : P.info? t = some d) (w : World) : (typeInfo t).run P w = .ok d w := by
  simp [typeInfo, h]
theorem run_sizeOf {t : TypeId} {n : Nat} (h : szT P t = some n) (w : World) : (sizeOf t).run P w = .ok n w := by
  unfold szT at h
  cases hi : P.info? t with
  | none => simp [hi] at h
  | some d => simp [hi] at h; simp [sizeOf, run_typeInfo hi w, h]
theorem zeroT_some {t : TypeId} {z : AV} (h : zeroT P t = some z) : ∃ d v, P.info? t = some d ∧ d.zero = some v ∧ ofV v = some z := by
  unfold zeroT at h
  cases hi : P.info? t with
  | none => simp [hi] at h
  | some d =>
    simp [hi] at h
    cases hz : d.zero with
    | none => simp [hz] at h
    | some v => simp [hz] at h; exact ⟨d, v, rfl, hz, h⟩
theorem run_zeroValue {t : TypeId} {d : TypeInfo} {v : Value} (hi : P.info? t = some d) (hz : d.zero = some v) (w : World) : (zeroValue t).run P w = .ok v w := by
  simp [zeroValue, run_typeInfo hi w, hz]

theorem ok_cvi (ht : TR w m σ.h L σ.t a.tmps) (hr : Rel w0 fz0 m σ.h w) {src dst : TypeId} {x : Operand} {x' : Opd} {k : IntKind} {d : TypeDesc} (ho : o.op = .convert src dst x)
    (hs : P.underlying src = some d) (hd : P.underlying dst = some (.int k)) (h1 : opd x = some x')
    (hx : ax base (.cvi k x') σ = some (v, h')) : OpOk P o a w0 fz0 m σ.h w L v h' := by
  have hb := ht.get (a := a) h1
  simp only [ax] at hx
  generalize hg : σ.get x' = g at hx hb
  cases g <;> simp at hx
  obtain ⟨rfl, rfl⟩ := hx
  refine OpOk.quiet hr (c := _) ?_ (.base _ _ (.int _ _))
  have e := hb.inv_int
  simp only [execOp, ho, e, convert]
  simp [run_underlying hs, run_underlying hd, Conv.intToInt]

theorem opds_get (ht : TR w m σ.h L σ.t a.tmps) : ∀ {xs : List Operand} {ys : List Opd}, opds xs = some ys → ys.length = xs.length ∧ ∀ (j : Nat) (c : AV) (v : Value), (σ.gets ys)[j]? = some c → (xs.map a.eval)[j]? = some v → VRel w m.fz (RefR w m σ.h L) c v := by
  intro xs
  induction xs with
  | nil => intro ys h; simp [opds] at h; subst h; exact ⟨rfl, fun j c v h => by simp [St.gets] at h⟩
  | cons x xs ih =>
    intro ys h
    simp only [opds] at h
    cases hx : opd x with
    | none => simp [hx] at h
    | some y =>
      simp [hx] at h
      cases hxs : opds xs with
      | none => simp [hxs] at h
      | some ys' =>
        simp [hxs] at h; subst h
        obtain ⟨h1, h2⟩ := ih hxs
        refine ⟨by simp [h1], fun j c v hc hv => ?_⟩
        cases j with
        | zero =>
          simp [St.gets] at hc hv
          subst hc; subst hv
          exact ht.get hx
        | succ j => simp only [St.gets, List.map_cons, List.getElem?_cons_succ] at hc hv; exact h2 j c v hc hv

theorem ok_mkf (ht : TR w m σ.h L σ.t a.tmps) (hr : Rel w0 fz0 m σ.h w) {f : FuncId} {first caps : Array Operand} {ys : List Opd} (ho : o.op = .makeFunc (.func f) first caps) (hf : first.isEmpty = true)
    (h1 : opds caps.toList = some ys) (hx : ax base (.mkf f ys) σ = some (v, h')) : OpOk P o a w0 fz0 m σ.h w L v h' := by
  obtain ⟨hl, hall⟩ := opds_get ht h1
  simp only [ax, Option.some.injEq, Prod.mk.injEq] at hx
  obtain ⟨rfl, rfl⟩ := hx
  refine OpOk.quiet hr (c := .func (.func f) #[] (caps.map a.eval)) ?_ (.fn _ _ _ (by simp [St.gets, hl]) (fun j c v hc hv => hall j c v hc ?_))
  · have : first = #[] := by simpa using hf
    subst this
    simp [execOp, ho, Instr.makeFunc]
  · rw [← Array.getElem?_toList] at hv
    simpa using hv

theorem ok_ext (ht : TR w m σ.h L σ.t a.tmps) (hr : Rel w0 fz0 m σ.h w) {x : Operand} {x' : Opd} {k : Nat} (ho : o.op = .extract x k)
    (h1 : opd x = some x') (hx : ax base (.ext x' k) σ = some (v, h')) : OpOk P o a w0 fz0 m σ.h w L v h' := by
  have hb := ht.get (a := a) h1
  simp only [ax] at hx
  generalize hg : σ.get x' = g at hx hb
  cases g <;> simp at hx
  rename_i vs
  cases hk : vs[k]? with
  | none => simp [hk] at hx
  | some u =>
    simp [hk] at hx
    obtain ⟨rfl, rfl⟩ := hx
    obtain ⟨cs, e, hl, hall⟩ := hb.inv_tup
    have hlt : k < cs.size := by rw [hl]; exact List.lt_of_some hk
    refine OpOk.quiet hr (c := cs[k]) ?_ (hall k u _ hk (Array.getElem?_eq_getElem hlt))
    simp [execOp, ho, e, Instr.extract, Array.getElem?_eq_getElem hlt]

theorem ok_mxn (ht : TR w m σ.h L σ.t a.tmps) (hr : Rel w0 fz0 m σ.h w) {mx : Bool} {b : Builtin} {x y : Operand} {x' y' : Opd} {args : Array Operand} {ts : Array TypeId}
    (ho : o.op = .call { callee := .builtin b, args := args, argTypes := ts }) (hb : b = if mx then .max else .min) (has : args.toList = [x, y])
    (h1 : opd x = some x') (h2 : opd y = some y') (hx : ax base (.mxn mx x' y') σ = some (v, h')) : OpOk P o a w0 fz0 m σ.h w L v h' := by
  have hb1 := ht.get (a := a) h1
  have hb2 := ht.get (a := a) h2
  have hs : args = #[x, y] := by apply Array.toList_inj.1; simpa using has
  subst hs
  simp only [ax] at hx
  generalize hg : σ.get x' = g at hx hb1
  generalize hg' : σ.get y' = g' at hx hb2
  cases g <;> cases g' <;> simp at hx
  rename_i k p k' q
  obtain ⟨hk, rfl, rfl⟩ := hx
  have e1 := hb1.inv_int
  have e2 := hb2.inv_int
  refine OpOk.quiet hr (c := _) ?_ (.base _ _ (.int _ _))
  cases mx <;> simp at hb <;> subst hb
  · simp [execOp, ho, resolve, e1, e2, invoke, builtin, Builtin.min_, Builtin.min2]
  · simp [execOp, ho, resolve, e1, e2, invoke, builtin, Builtin.max_, Builtin.max2]

theorem run_sliceBound {x : Value} {n : Int} {k : IntKind} (e : x = .int k n) {y : Nat} (h : 0 ≤ n ∧ n ≤ (y : Int)) (cd : BoundsCode) : (Instr.sliceBound x y cd).run P w = .ok n.toNat w := by
  subst e
  simp [Instr.sliceBound, asIntOf, h]

theorem bound_some {x : Option AV} {d y n : Nat} (h : bound x d y = some n) : (x = none ∧ n = d) ∨ ∃ k q, x = some (.int k q) ∧ 0 ≤ q ∧ q ≤ (y : Int) ∧ n = q.toNat := by
  unfold bound at h
  split at h
  · cases h; exact .inl ⟨rfl, rfl⟩
  · rename_i k q
    split at h
    · rename_i hc; cases h; exact .inr ⟨k, q, rfl, hc.1, hc.2, rfl⟩
    · cases h
  · cases h

theorem opdo_get (ht : TR w m σ.h L σ.t a.tmps) {x : Option Operand} {x' : Option Opd} (h : opdo x = some x') :
    (x = none ∧ x' = none) ∨ ∃ y y', x = some y ∧ x' = some y' ∧ VRel w m.fz (RefR w m σ.h L) (σ.get y') (a.eval y) := by
  cases x with
  | none => simp [opdo] at h; exact .inl ⟨rfl, h.symm⟩
  | some y =>
    simp only [opdo] at h
    cases hy : opd y with
    | none => simp [hy] at h
    | some y' => simp [hy] at h; exact .inr ⟨y, y', rfl, h.symm, ht.get hy⟩

/-- the bounds of a slice expression, as the model reckons them -/
theorem run_bounds (ht : TR w m σ.h L σ.t a.tmps) {lo hi : Option Operand} {lo' hi' : Option Opd} (hlo : opdo lo = some lo') (hhi : opdo hi = some hi') (isS : Bool) {len cap nh nl : Nat} (hcap : len ≤ cap)
    (h1 : bound (hi'.map σ.get) len len = some nh) (h2 : bound (lo'.map σ.get) 0 nh = some nl) :
    (Instr.sliceBounds isS len cap (lo.map a.eval) (hi.map a.eval) none).run P w = .ok (nl, nh, cap) w ∧ nl ≤ nh ∧ nh ≤ len := by
  have hH : ∃ s : Sem Nat, True := ⟨pure 0, trivial⟩
  have e1 : nh ≤ len := by
    rcases bound_some h1 with ⟨_, rfl⟩ | ⟨k, q, _, h3, h4, rfl⟩ <;> omega
  have e2 : nl ≤ nh := by
    rcases bound_some h2 with ⟨_, rfl⟩ | ⟨k, q, _, h3, h4, rfl⟩ <;> omega
  refine ⟨?_, e2, e1⟩
  unfold Instr.sliceBounds
  rcases opdo_get ht hhi with ⟨rfl, rfl⟩ | ⟨y, y', rfl, rfl, hy⟩
  · rcases bound_some h1 with ⟨_, rfl⟩ | ⟨k, q, h3, _⟩
    · rcases opdo_get ht hlo with ⟨rfl, rfl⟩ | ⟨x, x', rfl, rfl, hx⟩
      · rcases bound_some h2 with ⟨_, rfl⟩ | ⟨k, q, h3, _⟩
        · simp
        · cases h3
      · rcases bound_some h2 with ⟨h3, _⟩ | ⟨k, q, h3, h4, h5, rfl⟩
        · cases h3
        · simp only [Option.map_some, Option.some.injEq] at h3
          rw [h3] at hx
          simp [run_sliceBound hx.inv_int ⟨h4, h5⟩]
    · cases h3
  · rcases bound_some h1 with ⟨h3, _⟩ | ⟨k, q, h3, h4, h5, rfl⟩
    · cases h3
    · simp only [Option.map_some, Option.some.injEq] at h3
      rw [h3] at hy
      have h5' : q ≤ (cap : Int) := by omega
      rcases opdo_get ht hlo with ⟨rfl, rfl⟩ | ⟨x, x', rfl, rfl, hx⟩
      · rcases bound_some h2 with ⟨_, rfl⟩ | ⟨k, q, h3, _⟩
        · cases isS <;> simp [run_sliceBound hy.inv_int ⟨h4, h5'⟩]
        · cases h3
      · rcases bound_some h2 with ⟨h3, _⟩ | ⟨k, q', h3, h6, h7, rfl⟩
        · cases h3
        · simp only [Option.map_some, Option.some.injEq] at h3
          rw [h3] at hx
          cases isS <;> simp [run_sliceBound hy.inv_int ⟨h4, h5'⟩, run_sliceBound hx.inv_int ⟨h6, h7⟩]

theorem ok_ssl (ht : TR w m σ.h L σ.t a.tmps) (hr : Rel w0 fz0 m σ.h w) {t : TypeId} {x : Operand} {lo hi : Option Operand} {x' : Opd} {lo' hi' : Option Opd} (ho : o.op = .slice t x lo hi none)
    (hu : P.underlying t = some .string) (h1 : opd x = some x') (hlo : opdo lo = some lo') (hhi : opdo hi = some hi')
    (hx : ax base (.ssl x' lo' hi') σ = some (v, h')) : OpOk P o a w0 fz0 m σ.h w L v h' := by
  have hb := ht.get (a := a) h1
  simp only [ax] at hx
  generalize hg : σ.get x' = g at hx hb
  cases g <;> simp at hx
  rename_i s
  cases e1 : bound (hi'.map σ.get) s.size s.size with
  | none => simp [e1] at hx
  | some nh =>
    simp [e1] at hx
    cases e2 : bound (lo'.map σ.get) 0 nh with
    | none => simp [e2] at hx
    | some nl =>
      simp [e2] at hx
      obtain ⟨rfl, rfl⟩ := hx
      have hbd := run_bounds (P := P) ht hlo hhi false (Nat.le_refl _) e1 e2
      refine OpOk.quiet hr (c := .string (s.extract nl nh)) ?_ (.base _ _ (.str _))
      simp only [execOp, ho, Instr.sliceAt, Instr.slice, hb.inv_str]
      simp [run_underlying hu, hbd.1]

theorem ok_idx (ht : TR w m σ.h L σ.t a.tmps) (hr : Rel w0 fz0 m σ.h w) {t : TypeId} {x y : Operand} {x' y' : Opd} (ho : o.op = .index t x y)
    (hu : P.underlying t = some .string) (h1 : opd x = some x') (h2 : opd y = some y')
    (hx : ax base (.idx x' y') σ = some (v, h')) : OpOk P o a w0 fz0 m σ.h w L v h' := by
  have hb := ht.get (a := a) h1
  have hd := ht.get (a := a) h2
  simp only [ax] at hx
  generalize hg : σ.get x' = g at hx hb
  generalize hg' : σ.get y' = g' at hx hd
  cases g <;> cases g' <;> simp at hx
  rename_i s k n
  obtain ⟨h0, hx⟩ := hx
  cases hs : s[n.toNat]? with
  | none => simp [hs] at hx
  | some b =>
    simp [hs] at hx
    obtain ⟨rfl, rfl⟩ := hx
    refine OpOk.quiet hr (c := .int .u8 b.toNat) ?_ (.base _ _ (.int _ _))
    simp only [execOp, ho, Instr.index, hb.inv_str, hd.inv_int, asIntOf]
    simp [run_underlying hu, h0, hs]

theorem run_part {t : TypeId} {ag : Bool} {n off : Nat} {cs : List AV} {vs : Array Value} {u : AV} {R : AV → Value → Prop} {fz : Nat → Prop} (hag : aggT P t = some ag) (hn : szT P t = some n)
    (hl : vs.size = cs.length) (h1 : ∀ (j : Nat) (d : AV) (v : Value), cs[j]? = some d → vs[j]? = some v → d.one = true ∧ v.oneCell' = true) (hr : ∀ (j : Nat) (d : AV) (v : Value), cs[j]? = some d → vs[j]? = some v → VRel w fz R d v)
    (hle : off + n ≤ cs.length)
    (hx : (if ag = true then some (AV.agg ((cs.drop off).take n)) else cs[off]?) = some u) :
    ∃ c, (part t vs off).run P w = .ok c w ∧ VRel w fz R u c := by
  unfold part
  cases ag with
  | true =>
    simp only [if_true, Option.some.injEq] at hx
    subst hx
    refine ⟨.agg (vs.extract off (off + n)), by simp [run_isAgg hag, run_sizeOf hn], ?_⟩
    have key : ∀ (j : Nat) (d : AV) (v : Value), ((cs.drop off).take n)[j]? = some d → (vs.extract off (off + n))[j]? = some v → cs[off + j]? = some d ∧ vs[off + j]? = some v := by
      intro j d v hd hv
      rw [List.getElem?_take] at hd
      split at hd
      · rw [List.getElem?_drop] at hd
        rw [Array.getElem?_extract] at hv
        split at hv
        · exact ⟨hd, hv⟩
        · cases hv
      · cases hd
    refine .agg _ _ (by simp [hl]; omega) (fun j d v hd hv => ?_) (fun j d v hd hv => ?_)
    · obtain ⟨g1, g2⟩ := key j d v hd hv; exact h1 _ _ _ g1 g2
    · obtain ⟨g1, g2⟩ := key j d v hd hv; exact hr _ _ _ g1 g2
  | false =>
    simp only [Bool.false_eq_true, if_false] at hx
    have hlt : off < vs.size := by rw [hl]; exact List.lt_of_some hx
    exact ⟨vs[off], by simp [run_isAgg hag, Array.getElem?_eq_getElem hlt], hr off u _ hx (Array.getElem?_eq_getElem hlt)⟩

theorem ok_fld (ht : TR w m σ.h L σ.t a.tmps) (hr : Rel w0 fz0 m σ.h w) {t : TypeId} {x : Operand} {x' : Opd} {k n : Nat} {ag : Bool} {fs : Array Field} {f : Field} (ho : o.op = .field t x k)
    (hu : P.underlying t = some (.struct fs)) (hf : fs[k]? = some f) (h1 : opd x = some x') (hag : aggT P f.type = some ag) (hn : szT P f.type = some n)
    (hx : ax base (.fld ag f.offset n x') σ = some (v, h')) : OpOk P o a w0 fz0 m σ.h w L v h' := by
  have hb := ht.get (a := a) h1
  simp only [ax] at hx
  generalize hg : σ.get x' = g at hx hb
  cases g <;> simp only [reduceCtorEq] at hx
  rename_i cs
  split at hx
  · rename_i hle
    obtain ⟨vs, e, hl, hone, hall⟩ := hb.inv_agg
    have : ∃ u, (if ag = true then some (AV.agg ((cs.drop f.offset).take n)) else cs[f.offset]?) = some u ∧ v = u ∧ h' = σ.h := by
      split at hx
      · rename_i hag'; cases hx; exact ⟨_, by simp [hag'], rfl, rfl⟩
      · rename_i hag'
        cases hc : cs[f.offset]? with
        | none => simp [hc] at hx
        | some u => simp [hc] at hx; exact ⟨u, by simp [hag'], hx.1.symm, hx.2.symm⟩
    obtain ⟨u, hu', rfl, rfl⟩ := this
    obtain ⟨c, hrun, hrel⟩ := run_part hag hn hl hone hall hle hu'
    refine OpOk.quiet hr (c := c) ?_ hrel
    simp only [execOp, ho, Instr.field, e]
    simp [run_underlying hu, hf, asAgg, hrun]
  · cases hx

theorem ok_ixa (ht : TR w m σ.h L σ.t a.tmps) (hr : Rel w0 fz0 m σ.h w) {t e : TypeId} {x y : Operand} {x' y' : Opd} {len n : Nat} {ag : Bool} (ho : o.op = .index t x y)
    (hu : P.underlying t = some (.array len e)) (h1 : opd x = some x') (h2 : opd y = some y') (hag : aggT P e = some ag) (hn : szT P e = some n)
    (hx : ax base (.ixa ag len n x' y') σ = some (v, h')) : OpOk P o a w0 fz0 m σ.h w L v h' := by
  have hb := ht.get (a := a) h1
  have hd := ht.get (a := a) h2
  simp only [ax] at hx
  generalize hg : σ.get x' = g at hx hb
  generalize hg' : σ.get y' = g' at hx hd
  cases g <;> cases g' <;> simp only [reduceCtorEq] at hx
  rename_i cs k q
  split at hx
  · rename_i hle
    obtain ⟨vs, ev, hl, hone, hall⟩ := hb.inv_agg
    have : ∃ u, (if ag = true then some (AV.agg ((cs.drop (q.toNat * n)).take n)) else cs[q.toNat * n]?) = some u ∧ v = u ∧ h' = σ.h := by
      split at hx
      · rename_i hag'; cases hx; exact ⟨_, by simp [hag'], rfl, rfl⟩
      · rename_i hag'
        cases hc : cs[q.toNat * n]? with
        | none => simp [hc] at hx
        | some u => simp [hc] at hx; exact ⟨u, by simp [hag'], hx.1.symm, hx.2.symm⟩
    obtain ⟨u, hu', rfl, rfl⟩ := this
    obtain ⟨c, hrun, hrel⟩ := run_part hag hn hl hone hall hle.2.2 hu'
    refine OpOk.quiet hr (c := c) ?_ hrel
    have hlt : 0 ≤ q ∧ q < (len : Int) := ⟨hle.1, hle.2.1⟩
    simp only [execOp, ho, Instr.index, ev, hd.inv_int, asIntOf]
    simp [run_underlying hu, hlt, run_sizeOf hn, hrun]
  · cases hx

end
end Go.Mw

/- Operations that read. -/
namespace Go.Mw
open Go.RowKit
set_option linter.unusedVariables false
set_option linter.unusedSimpArgs false

section
variable {P : Program} {sm : List Nat} {o : Oper} {a : Act} {w0 : World} {fz0 : Nat → Prop} {m : Mem} {w : World} {L : Nat → Nat → Prop} {σ : St} {base : Nat} {i : Ins} {v : AV} {h' : List Ob}

theorem Rel.nodeF {h : List Ob} (hr : Rel w0 fz0 m h w) {r st : Nat} {p : Path} {ss : Nat} {nd : AV} (hn : node h r st p ss = some nd) : NodeF w m r p nd := hr.nodes _ _ _ (node_at hn)

theorem run_equalIn_bool (d : Nat) (t : TypeId) (p q : Bool) (h : P.underlying t = some .bool) : (Op.equalIn (d + 1) t (.bool p) (.bool q)).run P w = .ok (p == q) w := by
  simp [Op.equalIn, run_underlying h]
theorem run_equal_bool (t : TypeId) (p q : Bool) (h : P.underlying t = some .bool) : (Op.equal t (.bool p) (.bool q)).run P w = .ok (p == q) w := run_equalIn_bool 9999 t p q h
theorem ok_beq (ht : TR w m σ.h L σ.t a.tmps) (hr : Rel w0 fz0 m σ.h w) {neg : Bool} {t yt : TypeId} {x y : Operand} {x' y' : Opd} (ho : o.op = .binOp (if neg then .neq else .eql) t x y yt)
    (hu : P.underlying t = some .bool) (h1 : opd x = some x') (h2 : opd y = some y')
    (hx : ax base (.beq neg x' y') σ = some (v, h')) : OpOk P o a w0 fz0 m σ.h w L v h' := by
  have hb := ht.get (a := a) h1
  have hd := ht.get (a := a) h2
  simp only [ax] at hx
  generalize hg : σ.get x' = g at hx hb
  generalize hg' : σ.get y' = g' at hx hd
  cases g <;> cases g' <;> simp at hx
  rename_i p q
  obtain ⟨rfl, rfl⟩ := hx
  have e1 := hb.inv_bool
  have e2 := hd.inv_bool
  refine OpOk.quiet hr (c := _) ?_ (.base _ _ (.bool _))
  cases neg
  · have hgd : eqGuard .eql t x y (.bool p) (.bool q) = pure () := rfl
    simp only [execOp, ho, e1, e2, Bool.false_eq_true, if_false, hgd, binOp]
    simp [run_equal_bool t p q hu]
  · have hgd : eqGuard .neq t x y (.bool p) (.bool q) = pure () := rfl
    simp only [execOp, ho, e1, e2, if_true, hgd, binOp]
    simp [run_equal_bool t p q hu]

theorem ok_nilc (ht : TR w m σ.h L σ.t a.tmps) (hr : Rel w0 fz0 m σ.h w) {neg : Bool} {t yt e : TypeId} {x y : Operand} {x' y' : Opd} (ho : o.op = .binOp (if neg then .neq else .eql) t x y yt)
    (hu : P.underlying t = some (.slice e)) (h1 : opd x = some x') (h2 : opd y = some y')
    (hx : ax base (.nilc neg x' y') σ = some (v, h')) : OpOk P o a w0 fz0 m σ.h w L v h' := by
  have hb := ht.get (a := a) h1
  have hd := ht.get (a := a) h2
  simp only [ax] at hx
  generalize hg' : σ.get y' = g' at hx hd
  cases g' <;> simp only [reduceCtorEq] at hx
  have e2 := hd.inv_nils
  cases hn : nilAV σ.h (σ.get x') with
  | none => simp [hn] at hx
  | some b =>
    simp [hn] at hx
    obtain ⟨rfl, rfl⟩ := hx
    have key : ∃ A l c, a.eval x = .slice A l c ∧ A.isNone = b := by
      generalize hg : σ.get x' = g at hn hb
      cases g <;> simp [nilAV] at hn
      · subst hn; exact ⟨none, 0, 0, hb.inv_nils, rfl⟩
      · rename_i xs
        cases xs with
        | nil => simp at hn
        | cons x xs =>
          simp at hn
          subst hn
          rcases hb.inv_lst with ⟨h0, _⟩ | ⟨A, cap, es, vs, e, _⟩
          · cases h0
          · exact ⟨some A, _, cap, e, rfl⟩
      · rename_i r st p ss off len
        split at hn
        · rename_i es xs hnd
          simp only [Option.some.injEq] at hn
          subst hn
          obtain ⟨o', _, _, _, h3⟩ := hb.inv_ref rfl
          obtain ⟨_, A, cap, e, _⟩ := h3 _ _ hnd
          exact ⟨some A, _, cap, e, rfl⟩
        · cases hn
      · subst hn; obtain ⟨A, cap, e⟩ := hb.inv_ne; exact ⟨some A, _, cap, e, rfl⟩
    obtain ⟨A, l, c, e1, hb'⟩ := key
    refine OpOk.quiet hr (c := _) ?_ (.base _ _ (.bool _))
    cases neg
    · have hgd : eqGuard .eql t x y (.slice A l c) (.slice none 0 0) = pure () := rfl
      simp only [execOp, ho, e1, e2, Bool.false_eq_true, if_false, hgd, binOp]
      simp [run_equal_slice_nil w t e A l c hu, hb']
    · have hgd : eqGuard .neq t x y (.slice A l c) (.slice none 0 0) = pure () := rfl
      simp only [execOp, ho, e1, e2, if_true, hgd, binOp]
      simp [run_equal_slice_nil w t e A l c hu, hb']

/-! #### loads -/
theorem Addr.add_none (b off k : Nat) : (⟨b, off, none⟩ : Addr).add k = ⟨b, off + k, none⟩ := by unfold Addr.add; split <;> simp_all
theorem Addr.add_spot {A : Addr} (h : A.spot = none) (k : Nat) : A.add k = ⟨A.block, A.off + k, none⟩ := by cases A; simp at h; subst h; exact Addr.add_none _ _ _

theorem run_loadAt {t : TypeId} {ag : Bool} {n : Nat} {A : Addr} (hag : aggT P t = some ag) (hn : szT P t = some n) (h1 : ag = true ∨ n = 1) (vs : List Value) (hl : vs.length = n)
    (hc : ∀ (j : Nat) (u : Value), vs[j]? = some u → w.cell? (A.add j) = some u) :
    (Instr.loadAt t (.pointer (some A))).run P w = .ok (if ag then .agg vs.toArray else vs.headD undef) w := by
  simp only [Instr.loadAt, Instr.sureAddr, loadVar]
  cases ag with
  | true =>
    have := run_loadCells_list (P := P) w A vs hc
    rw [hl] at this
    simp [run_isAgg hag, run_sizeOf hn, this]
  | false =>
    have h2 : n = 1 := by simpa using h1
    subst h2
    match vs, hl with
    | [u], _ =>
      have := hc 0 u rfl
      rw [Addr.add_zero'] at this
      simp [run_isAgg hag, run_load, this]

/-- an operation that changes nothing -/
def QOk (P : Program) (o : Oper) (a : Act) (m : Mem) (h : List Ob) (w : World) (L : Nat → Nat → Prop) (v : AV) (h' : List Ob) : Prop :=
  h' = h ∧ ∃ c, (execOp a.eval o).run P w = .ok (.value c) w ∧ VRel w m.fz (RefR w m h L) v c
theorem QOk.quiet {h : List Ob} {c : Value} (hrun : (execOp a.eval o).run P w = .ok (.value c) w) (hv : VRel w m.fz (RefR w m h L) v c) : QOk P o a m h w L v h := ⟨rfl, c, hrun, hv⟩

theorem ld_q (ht : TR w m σ.h L σ.t a.tmps) (hr : Rel w0 fz0 m σ.h w) {t : TypeId} {x : Operand} {x' : Opd} {n : Nat} {ag : Bool} (ho : o.op = .load t x)
    (hag : aggT P t = some ag) (hn : szT P t = some n) (hn1 : ag = true ∨ n = 1) (h1 : opd x = some x')
    (hx : ax base (.ld ag n x') σ = some (v, h')) : QOk P o a m σ.h w L v h' := by
  have hb := ht.get (a := a) h1
  simp only [ax] at hx
  generalize hg : σ.get x' = g at hx hb
  cases g <;> simp only [reduceCtorEq] at hx
  · -- frozen
    rename_i cs
    split at hx
    · rename_i hle
      obtain ⟨A, vs, e, hfz, hsp, hc, hrel⟩ := hb.inv_pfro
      have hcell : ∀ (j : Nat) (u : Value), ((List.range n).map vs)[j]? = some u → w.cell? (A.add j) = some u := by
        intro j u hj
        rw [List.getElem?_map] at hj
        rcases Nat.lt_or_ge j n with hlt | hge
        · rw [List.getElem?_range hlt] at hj
          simp at hj; subst hj
          have hjc : j < cs.length := by omega
          rw [Addr.add_spot hsp]
          exact (hc j _ (List.getElem?_eq_getElem hjc)).2.2
        · rw [List.getElem?_eq_none (by simpa using hge)] at hj; simp at hj
      have hrun := run_loadAt (P := P) hag hn hn1 ((List.range n).map vs) (by simp) hcell
      cases ag with
      | true =>
        simp only [if_true, Option.some.injEq, Prod.mk.injEq] at hx
        obtain ⟨rfl, rfl⟩ := hx
        refine QOk.quiet (c := .agg ((List.range n).map vs).toArray) ?_ (.base _ _ (.agg _ _ (by simp; omega) (fun j d u hd hu => ?_) (fun j d u hd hu => ?_)))
        · simp only [execOp, ho, e]; simp [hrun]
        all_goals
          rw [List.getElem?_take] at hd
          split at hd
          · rename_i hjn
            simp [hjn] at hu
            subst hu
            first | exact ⟨(hc j d hd).1, (hc j d hd).2.1⟩ | exact hrel j d hd
          · cases hd
      | false =>
        have h2 : n = 1 := by simpa using hn1
        subst h2
        cases cs with
        | nil => simp at hle
        | cons c cs =>
          simp only [Bool.false_eq_true, if_false, Option.some.injEq, Prod.mk.injEq] at hx
          obtain ⟨rfl, rfl⟩ := hx
          refine QOk.quiet (c := vs 0) ?_ (.base _ _ (hrel 0 _ rfl))
          simp only [execOp, ho, e]; simp [hrun]
    · cases hx
  · -- owned
    rename_i r st p ss k j
    cases hnd : node σ.h r st p ss with
    | none => simp [hnd] at hx
    | some nd =>
      obtain ⟨ob, ho1, hst, hss, hnav⟩ := node_eq.1 hnd
      simp only [hnd, ho1] at hx
      cases nd <;> simp only [reduceCtorEq] at hx
      rename_i es xs
      cases hk : xs[k]? with
      | none => simp [hk] at hx
      | some e =>
        simp only [hk] at hx
        split at hx
        · rename_i hle
          obtain ⟨o', _, _, _, h3⟩ := hb.inv_ref rfl
          have ep := h3 _ _ hnd
          obtain ⟨hpos, arr, ty, hheap, hcells⟩ := hr.nodeF hnd
          obtain ⟨hes, hcs⟩ := hcells k e hk
          -- the values
          let off := (m.blk r p).2 + (k * es + j)
          let vs := (arr.toList.drop off).take n
          have hval : ∀ q, q < n → ∃ d u, e.cells[j + q]? = some d ∧ arr[off + q]? = some u ∧ d.one = true ∧ u.oneCell' = true ∧ CellR w m r (p ++ [(k, j + q)]) d u := by
            intro q hq
            have hlt : j + q < e.cells.length := by omega
            obtain ⟨g1, u, g2, g3, g4⟩ := hcs (j + q) _ (List.getElem?_eq_getElem hlt)
            exact ⟨_, u, List.getElem?_eq_getElem hlt, by rw [← g2]; congr 1; simp only [off]; omega, g1, g3, g4⟩
          have hvs : ∀ q u, vs[q]? = some u → q < n ∧ arr[off + q]? = some u := by
            intro q u hq
            simp only [vs] at hq
            rw [List.getElem?_take] at hq
            split at hq
            · rw [List.getElem?_drop] at hq; exact ⟨by assumption, by rw [← Array.getElem?_toList]; exact hq⟩
            · cases hq
          have hvl : vs.length = n := by
            have : ∀ q, q < n → off + q < arr.size := fun q hq => by
              obtain ⟨_, u, _, g, _⟩ := hval q hq
              exact (Array.getElem?_eq_some_iff.1 g).1
            simp only [vs, List.length_take, List.length_drop, Array.length_toList]
            rcases Nat.eq_zero_or_pos n with h0 | h0
            · omega
            · have := this (n - 1) (by omega); omega
          have hcell : ∀ (q : Nat) (u : Value), vs[q]? = some u → w.cell? ((⟨(m.blk r p).1, (m.blk r p).2 + (k * es + j), none⟩ : Addr).add q) = some u := by
            intro q u hq
            obtain ⟨h4, h5⟩ := hvs q u hq
            rw [Addr.add_none]
            simp only [World.cell?, hheap]
            simpa [off] using h5
          have hrun := run_loadAt (P := P) hag hn hn1 vs hvl hcell
          -- the abstract values
          have hout : ∀ (l : List AV) (q : Nat) (cs' : List AV), (∀ x d, l[x]? = some d → e.cells[j + (q + x)]? = some d) → q + l.length ≤ n → outL r st p ob.ss k (j + q) l = some cs' → cs'.length = l.length ∧
              ∀ x d u, cs'[x]? = some d → arr[off + (q + x)]? = some u → d.one = true ∧ u.oneCell' = true ∧ VRel w m.fz (RefR w m σ.h L) d u := by
            intro l
            induction l with
            | nil => intro q cs' _ _ hh; simp [outL] at hh; subst hh; exact ⟨rfl, fun x d u h => by simp at h⟩
            | cons c l ih =>
              intro q cs' hmem hq hh
              simp only [outL] at hh
              cases h5 : outv r st (p ++ [(k, j + q)]) ob.ss c with
              | none => simp [h5] at hh
              | some d0 =>
                simp only [h5] at hh
                cases h6 : outL r st p ob.ss k (j + q + 1) l with
                | none => simp [h6] at hh
                | some ds =>
                  simp only [h6, Option.some.injEq] at hh
                  subst hh
                  have hih := ih (q + 1) ds (fun x d hd => by have := hmem (x + 1) d (by simpa using hd); rw [← this]; congr 1; omega) (by simp at hq; omega) (by rw [← h6]; congr 1)
                  refine ⟨by simp [hih.1], fun x d u hd hu => ?_⟩
                  cases x with
                  | succ x =>
                    simp at hd
                    exact hih.2 x d u hd (by rw [← hu]; congr 1; omega)
                  | zero =>
                    simp at hd
                    subst hd
                    have hcc := hmem 0 c rfl
                    simp only [Nat.add_zero] at hcc hu
                    obtain ⟨d1, u1, g1, g2, g3, g4, g5⟩ := hval q (by simp at hq; omega)
                    rw [hcc] at g1; cases g1
                    rw [hu] at g2; cases g2
                    have hpn : nav ob.c (p ++ [(k, j + q)]) = some c := nav_append _ _ _ _ _ hnav ((nav_cons ..).2 ⟨es, xs, e, c, rfl, hk, hcc, nav_nil _⟩)
                    cases c <;> simp [outv] at h5 <;> subst h5
                    case own es2 ys =>
                      refine ⟨rfl, g4, .ref _ _ rfl ⟨ob, ho1, by omega, fun _ _ => Nat.le_refl _, fun es3 zs h7 => ?_⟩⟩
                      obtain ⟨ob2, k1, k2, k3, k4⟩ := node_eq.1 h7
                      rw [ho1] at k1; cases k1
                      rw [hpn] at k4; cases k4
                      exact ⟨by simp, g5⟩
                    case ownm es2 =>
                      refine ⟨rfl, g4, .ref _ _ rfl ⟨ob, ho1, by omega, fun _ _ => Nat.le_refl _, fun es3 h7 => ?_⟩⟩
                      obtain ⟨ob2, k1, k2, k3, k4⟩ := node_eq.1 h7
                      rw [ho1] at k1; cases k1
                      rw [hpn] at k4; cases k4
                      exact g5
                    all_goals exact ⟨g3, g4, .base _ _ g5⟩
          cases hol : outL r st p ob.ss k j ((e.cells.drop j).take n) with
          | none => simp [hol] at hx
          | some cs' =>
            simp only [hol] at hx
            obtain ⟨hl1, hl2⟩ := hout ((e.cells.drop j).take n) 0 cs' (fun x d hd => by
              rw [List.getElem?_take] at hd
              split at hd
              · rw [List.getElem?_drop] at hd; simpa using hd
              · cases hd) (by simp; omega) (by simpa using hol)
            have hlen : cs'.length = n := by rw [hl1]; simp; omega
            cases ag with
            | true =>
              simp only [if_true, Option.some.injEq, Prod.mk.injEq] at hx
              obtain ⟨rfl, rfl⟩ := hx
              refine QOk.quiet (c := .agg vs.toArray) ?_ (.agg _ _ (by simp [hvl, hlen]) (fun q d u hd hu => ?_) (fun q d u hd hu => ?_))
              · simp only [execOp, ho, ep]; simp [hrun]
              · have := hl2 q d u hd (by simpa using (hvs q u (by simpa using hu)).2); exact ⟨this.1, this.2.1⟩
              · exact (hl2 q d u hd (by simpa using (hvs q u (by simpa using hu)).2)).2.2
            | false =>
              have h2 : n = 1 := by simpa using hn1
              subst h2
              match cs', hlen, hx with
              | [d], _, hx =>
                simp only [Bool.false_eq_true, if_false, Option.some.injEq, Prod.mk.injEq] at hx
                obtain ⟨rfl, rfl⟩ := hx
                have h8 : vs[0]? = some (vs.headD undef) := by
                  cases hvv : vs with
                  | nil => rw [hvv] at hvl; simp at hvl
                  | cons u us => rfl
                have h9 := (hvs 0 _ h8).2
                refine QOk.quiet (c := vs.headD undef) ?_ (hl2 0 d _ rfl (by simpa using h9)).2.2
                simp only [execOp, ho, ep]; simp [hrun]
        · cases hx

theorem ok_ld (ht : TR w m σ.h L σ.t a.tmps) (hr : Rel w0 fz0 m σ.h w) {t : TypeId} {x : Operand} {x' : Opd} {n : Nat} {ag : Bool} (ho : o.op = .load t x)
    (hag : aggT P t = some ag) (hn : szT P t = some n) (hn1 : ag = true ∨ n = 1) (h1 : opd x = some x')
    (hx : ax base (.ld ag n x') σ = some (v, h')) : OpOk P o a w0 fz0 m σ.h w L v h' := by
  obtain ⟨rfl, c, h2, h3⟩ := ld_q ht hr ho hag hn hn1 h1 hx
  exact OpOk.quiet hr h2 h3
end
end Go.Mw

/- Addresses, slices, lengths, literals of structs. -/
namespace Go.Mw
open Go.RowKit
set_option linter.unusedVariables false
set_option linter.unusedSimpArgs false

section
variable {P : Program} {sm : List Nat} {o : Oper} {a : Act} {w0 : World} {fz0 : Nat → Prop} {m : Mem} {w : World} {L : Nat → Nat → Prop} {σ : St} {base : Nat} {i : Ins} {v : AV} {h' : List Ob}

theorem pfro_drop {w : World} {fz : Nat → Prop} {R : AV → Value → Prop} {cs : List AV} {A : Addr} (h : VRel w fz R (.pfro cs) (.pointer (some A))) (n : Nat) : VRel w fz R (.pfro (cs.drop n)) (.pointer (some (A.add n))) := by
  obtain ⟨A', vs, e, hfz, hsp, hc, hrel⟩ := h.inv_pfro
  cases e
  rw [Addr.add_spot hsp]
  refine .base _ _ (.pfro _ _ (fun j => vs (n + j)) hfz rfl (fun j d hd => ?_) (fun j d hd => ?_))
  · rw [List.getElem?_drop] at hd
    obtain ⟨g1, g2, g3⟩ := hc _ d hd
    exact ⟨g1, g2, by rw [← g3]; simp [Nat.add_assoc]⟩
  · rw [List.getElem?_drop] at hd
    exact hrel _ d hd

theorem ptr_add {w : World} {m : Mem} {h : List Ob} {r st : Nat} {p : Path} {ss k j : Nat} {c : Value} (hb : VRel w m.fz (RefR w m h L) (.ptr r st p ss k j) c) (n : Nat) {A : Addr} (e : c = .pointer (some A)) :
    VRel w m.fz (RefR w m h L) (.ptr r st p ss k (j + n)) (.pointer (some (A.add n))) := by
  obtain ⟨ob, h1, h2, h3, h4⟩ := hb.inv_ref rfl
  refine .ref _ _ rfl ⟨ob, h1, h2, h3, fun es xs hn => ?_⟩
  have := h4 es xs hn
  rw [e] at this
  injection this with this
  injection this with this
  rw [this, Addr.add_none, Nat.add_assoc, Nat.add_assoc]

/-- a pointer into an object that is no longer there says nothing: the operation must not depend on it -/
theorem ok_fad (ht : TR w m σ.h L σ.t a.tmps) (hr : Rel w0 fz0 m σ.h w) {t : TypeId} {x : Operand} {x' : Opd} {k n : Nat} {fs : Array Field} {f : Field} (ho : o.op = .fieldAddr t x k)
    (hu : P.underlying t = some (.struct fs)) (hf : fs[k]? = some f) (h1 : opd x = some x') (hn : szT P f.type = some (n + 1))
    (hx : ax base (.fad f.offset x') σ = some (v, h')) : OpOk P o a w0 fz0 m σ.h w L v h' := by
  have hb := ht.get (a := a) h1
  have hfp : ∀ A : Addr, (fieldPlace A f).run P w = .ok (A.add f.offset) w := fun A => by simp [fieldPlace, run_sizeOf hn]
  simp only [ax] at hx
  generalize hg : σ.get x' = g at hx hb
  cases g <;> simp only [reduceCtorEq] at hx
  · rename_i cs
    split at hx
    · cases hx
      obtain ⟨A, vs, e, _⟩ := hb.inv_pfro
      rw [e] at hb
      refine OpOk.quiet hr (c := .pointer (some (A.add f.offset))) ?_ (pfro_drop hb _)
      simp only [execOp, ho, Instr.fieldAt, e]
      simp [run_underlying hu, hf, Instr.sureAddr, hfp]
    · cases hx
  · rename_i r st p ss k j
    split at hx
    · rename_i es xs hnd
      cases hx
      obtain ⟨ob, g1, g2, g3, g4⟩ := hb.inv_ref rfl
      have e := g4 _ _ hnd
      refine OpOk.quiet hr (c := .pointer (some ((⟨(m.blk r p).1, (m.blk r p).2 + (k * es + j), none⟩ : Addr).add f.offset))) ?_ (ptr_add hb _ e)
      simp only [execOp, ho, Instr.fieldAt, e]
      simp [run_underlying hu, hf, Instr.sureAddr, hfp]
    · cases hx

theorem run_indexAt_array' {t e : TypeId} {len n : Nat} (hu : P.underlying t = some (.array len e)) (hn : szT P e = some n) (A : Addr) (k : IntKind) (q : Int) (h : 0 ≤ q ∧ q < (len : Int)) :
    (Instr.indexAt t (.pointer (some A)) (.int k q)).run P w = .ok (.pointer (some (A.add (q.toNat * n)))) w := by
  simp [Instr.indexAt, asIntOf, run_underlying hu, Instr.sureAddr, h, run_sizeOf hn]

theorem ok_iaa (ht : TR w m σ.h L σ.t a.tmps) (hr : Rel w0 fz0 m σ.h w) {t e : TypeId} {x y : Operand} {x' y' : Opd} {len n : Nat} (ho : o.op = .indexAddr t x y)
    (hu : P.underlying t = some (.array len e)) (h1 : opd x = some x') (h2 : opd y = some y') (hn : szT P e = some n)
    (hx : ax base (.iaa len n x' y') σ = some (v, h')) : OpOk P o a w0 fz0 m σ.h w L v h' := by
  have hb := ht.get (a := a) h1
  have hd := ht.get (a := a) h2
  simp only [ax] at hx
  generalize hg : σ.get x' = g at hx hb
  generalize hg' : σ.get y' = g' at hx hd
  cases g <;> cases g' <;> simp only [reduceCtorEq] at hx
  · rename_i cs k q
    split at hx
    · rename_i hc
      cases hx
      obtain ⟨A, vs, e', _⟩ := hb.inv_pfro
      rw [e'] at hb
      refine OpOk.quiet hr (c := .pointer (some (A.add (q.toNat * n)))) ?_ (pfro_drop hb _)
      simp only [execOp, ho, e', hd.inv_int]
      simp [run_indexAt_array' hu hn A k q ⟨hc.1, hc.2.1⟩]
    · cases hx
  · rename_i r st p ss kk j k q
    split at hx
    · rename_i hc
      split at hx
      · rename_i es xs hnd
        cases hx
        obtain ⟨ob, g1, g2, g3, g4⟩ := hb.inv_ref rfl
        have e' := g4 _ _ hnd
        refine OpOk.quiet hr (c := .pointer (some ((⟨(m.blk r p).1, (m.blk r p).2 + (kk * es + j), none⟩ : Addr).add (q.toNat * n)))) ?_ (ptr_add hb _ e')
        simp only [execOp, ho, e', hd.inv_int]
        simp [run_indexAt_array' hu hn _ k q hc]
      · cases hx
    · cases hx

theorem run_indexAt_slice' {t e : TypeId} {n : Nat} (hu : P.underlying t = some (.slice e)) (hn : szT P e = some n) (A : Addr) (len cap : Nat) (k : IntKind) (q : Int) (h : 0 ≤ q ∧ q < (len : Int)) :
    (Instr.indexAt t (.slice (some A) len cap) (.int k q)).run P w = .ok (.pointer (some (A.add (q.toNat * n)))) w := by
  simp [Instr.indexAt, asIntOf, run_underlying hu, h, run_sizeOf hn]

theorem ok_iad (ht : TR w m σ.h L σ.t a.tmps) (hr : Rel w0 fz0 m σ.h w) {t e : TypeId} {x y : Operand} {x' y' : Opd} {n : Nat} (ho : o.op = .indexAddr t x y)
    (hu : P.underlying t = some (.slice e)) (h1 : opd x = some x') (h2 : opd y = some y') (hn : szT P e = some n)
    (hx : ax base (.iad n x' y') σ = some (v, h')) : OpOk P o a w0 fz0 m σ.h w L v h' := by
  have hb := ht.get (a := a) h1
  have hd := ht.get (a := a) h2
  simp only [ax] at hx
  generalize hg : σ.get x' = g at hx hb
  generalize hg' : σ.get y' = g' at hx hd
  cases g <;> cases g' <;> simp only [reduceCtorEq] at hx
  · rename_i xs k q
    split at hx
    · rename_i h0
      cases hq : xs[q.toNat]? with
      | none => simp [hq] at hx
      | some el =>
        simp only [hq] at hx
        split at hx
        · rename_i hel
          cases hx
          obtain ⟨A, cap, es, vs, e', hcap, hfz, hes, hc, hrel⟩ := hb.inv_lst.resolve_left (fun h => by rw [h.1] at hq; simp at hq)
          have hlt := List.lt_of_some hq
          have hee : es = n := by rw [← hes _ _ hq, hel]
          subst hee
          obtain ⟨hf1, hf2⟩ := hfz (by omega)
          refine OpOk.quiet hr (c := .pointer (some (A.add (q.toNat * es)))) ?_ (.base _ _ ?_)
          · simp only [execOp, ho, e', hd.inv_int]
            simp [run_indexAt_slice' hu hn A xs.length cap k q ⟨h0, by omega⟩]
          · rw [Addr.add_spot hf2]
            refine .pfro _ _ (vs q.toNat) hf1 rfl (fun j d hj => ?_) (fun j d hj => hrel _ _ _ _ hq hj)
            obtain ⟨g1, g2, g3⟩ := hc _ _ _ _ hq hj
            exact ⟨g1, g2, by rw [← g3]; simp [Nat.add_assoc]⟩
        · cases hx
    · cases hx
  · rename_i r st p ss off len k q
    split at hx
    · rename_i h0
      split at hx
      · rename_i es xs hnd
        split at hx
        · rename_i hee
          subst hee
          cases hx
          obtain ⟨ob, g1, g2, g3, g4⟩ := hb.inv_ref rfl
          obtain ⟨g5, A, cap, e', hcap, g6⟩ := g4 _ _ hnd
          have hA : A = ⟨(m.blk r p).1, (m.blk r p).2 + off * es, none⟩ := by
            rcases g6 with g6 | g6
            · omega
            · exact g6.1
          subst hA
          refine OpOk.quiet hr (c := .pointer (some ((⟨(m.blk r p).1, (m.blk r p).2 + off * es, none⟩ : Addr).add (q.toNat * es)))) ?_ (.ref _ _ rfl ⟨ob, g1, g2, g3, fun es' xs' hn' => ?_⟩)
          · simp only [execOp, ho, e', hd.inv_int]
            simp [run_indexAt_slice' hu hn _ _ cap k q h0]
          · rw [hnd] at hn'; cases hn'
            rw [Addr.add_none, Nat.add_mul]
            simp [Nat.add_assoc]
        · cases hx
      · cases hx
    · cases hx

theorem ok_lenx (hr : Rel w0 fz0 m σ.h w) {args : Array Operand} {ts : Array TypeId} {t : TypeId} {x : Operand} {n : Nat} (ho : o.op = .call { callee := .builtin .len, args := args, argTypes := ts })
    (ha : args.toList = [x]) (hts : ts.toList = [t]) (hn : (Builtin.len_ #[t] o.type #[a.eval x]).run P w = .ok (goInt n) w) : OpOk P o a w0 fz0 m σ.h w L (.int .i64 n) σ.h := by
  have e1 : args = #[x] := by apply Array.toList_inj.1; simpa using ha
  have e2 : ts = #[t] := by apply Array.toList_inj.1; simpa using hts
  subst e1; subst e2
  refine OpOk.quiet hr (c := goInt n) ?_ (.base _ _ (.int _ _))
  simp [execOp, ho, resolve, invoke, builtin, hn]

theorem ok_lens (ht : TR w m σ.h L σ.t a.tmps) (hr : Rel w0 fz0 m σ.h w) {args : Array Operand} {ts : Array TypeId} {t : TypeId} {x : Operand} {x' : Opd} (ho : o.op = .call { callee := .builtin .len, args := args, argTypes := ts })
    (h1 : opd x = some x') (ha : args.toList = [x]) (hts : ts.toList = [t]) (hty : P.underlying t = some .string)
    (hx : ax base (.lens x') σ = some (v, h')) : OpOk P o a w0 fz0 m σ.h w L v h' := by
  have hb := ht.get (a := a) h1
  simp only [ax] at hx
  generalize hg : σ.get x' = g at hx hb
  cases g <;> simp only [reduceCtorEq, Option.some.injEq, Prod.mk.injEq] at hx
  obtain ⟨rfl, rfl⟩ := hx
  refine ok_lenx hr ho ha hts ?_
  simp [Builtin.len_, run_underlying hty, hb.inv_str]

theorem ok_lenl (ht : TR w m σ.h L σ.t a.tmps) (hr : Rel w0 fz0 m σ.h w) {args : Array Operand} {ts : Array TypeId} {t e : TypeId} {x : Operand} {x' : Opd} (ho : o.op = .call { callee := .builtin .len, args := args, argTypes := ts })
    (h1 : opd x = some x') (ha : args.toList = [x]) (hts : ts.toList = [t]) (hty : P.underlying t = some (.slice e))
    (hx : ax base (.lenl x') σ = some (v, h')) : OpOk P o a w0 fz0 m σ.h w L v h' := by
  have hb := ht.get (a := a) h1
  simp only [ax] at hx
  generalize hg : σ.get x' = g at hx hb
  cases g <;> simp only [reduceCtorEq, Option.some.injEq, Prod.mk.injEq] at hx
  · obtain ⟨rfl, rfl⟩ := hx
    refine ok_lenx (n := 0) hr ho ha hts ?_
    simp [Builtin.len_, run_underlying hty, hb.inv_nils]
  · obtain ⟨rfl, rfl⟩ := hx
    obtain ⟨A, e'⟩ := hb.inv_emp
    refine ok_lenx (n := 0) hr ho ha hts ?_
    simp [Builtin.len_, run_underlying hty, e']
  · obtain ⟨rfl, rfl⟩ := hx
    rcases hb.inv_lst with ⟨h0, e'⟩ | ⟨A, cap, es, vs, e', _⟩
    · subst h0
      refine ok_lenx (n := 0) hr ho ha hts ?_
      simp [Builtin.len_, run_underlying hty, e']
    · refine ok_lenx hr ho ha hts ?_
      simp [Builtin.len_, run_underlying hty, e']
  · split at hx
    · rename_i es xs hnd
      simp only [Option.some.injEq, Prod.mk.injEq] at hx
      obtain ⟨rfl, rfl⟩ := hx
      obtain ⟨ob, g1, g2, g3, g4⟩ := hb.inv_ref rfl
      obtain ⟨g5, A, cap, e', _⟩ := g4 _ _ hnd
      refine ok_lenx hr ho ha hts ?_
      simp [Builtin.len_, run_underlying hty, e']
    · cases hx
  · obtain ⟨rfl, rfl⟩ := hx
    obtain ⟨A, cap, e'⟩ := hb.inv_ne
    refine ok_lenx (n := 0) hr ho ha hts ?_
    simp [Builtin.len_, run_underlying hty, e']

theorem ok_lenm (ht : TR w m σ.h L σ.t a.tmps) (hr : Rel w0 fz0 m σ.h w) {args : Array Operand} {ts : Array TypeId} {t k e : TypeId} {x : Operand} {x' : Opd} (ho : o.op = .call { callee := .builtin .len, args := args, argTypes := ts })
    (h1 : opd x = some x') (ha : args.toList = [x]) (hts : ts.toList = [t]) (hty : P.underlying t = some (.map k e))
    (hx : ax base (.lenm x') σ = some (v, h')) : OpOk P o a w0 fz0 m σ.h w L v h' := by
  have hb := ht.get (a := a) h1
  simp only [ax] at hx
  generalize hg : σ.get x' = g at hx hb
  cases g <;> simp only [reduceCtorEq, Option.some.injEq, Prod.mk.injEq] at hx
  · obtain ⟨rfl, rfl⟩ := hx
    refine ok_lenx (n := 0) hr ho ha hts ?_
    simp [Builtin.len_, run_underlying hty, hb.inv_nilm]
  · split at hx
    · rename_i es hnd
      simp only [Option.some.injEq, Prod.mk.injEq] at hx
      obtain ⟨rfl, rfl⟩ := hx
      obtain ⟨ob, g1, g2, g3, g4⟩ := hb.inv_ref rfl
      have e' := g4 _ hnd
      obtain ⟨ents, clock, k1, k2, _⟩ := hr.nodeF hnd
      refine ok_lenx hr ho ha hts ?_
      rw [e']
      simp [Builtin.len_, run_underlying hty, getObj, Sem.run, k1, k2, goInt]
    · cases hx
end
end Go.Mw

/- Equality of structs and arrays; slice expressions; literals of structs; look-ups. -/
namespace Go.Mw
open Go.RowKit
set_option linter.unusedVariables false
set_option linter.unusedSimpArgs false

section
variable {P : Program} {sm : List Nat} {o : Oper} {a : Act} {w0 : World} {fz0 : Nat → Prop} {m : Mem} {w : World} {L : Nat → Nat → Prop} {σ : St} {base : Nat} {i : Ins} {v : AV} {h' : List Ob}
variable {fz : Nat → Prop} {R R' : AV → Value → Prop} {w' : World}

theorem kindT_some {t : TypeId} {k : Nat} (h : kindT P t = some k) : szT P t = some 1 ∧ aggT P t = some false ∧ ((k = 0 ∧ P.underlying t = some .bool) ∨ (k = 1 ∧ ∃ q, P.underlying t = some (.int q)) ∨ (k = 2 ∧ P.underlying t = some .string)) := by
  unfold kindT at h
  split at h
  · rename_i hs
    refine ⟨hs, ?_⟩
    unfold aggT
    split at h <;> cases h
    · rename_i hu; simp [hu]
    · rename_i q hu; simp [hu]
    · rename_i hu; simp [hu]
  · cases h

theorem run_equalIn_kind (d : Nat) {t : TypeId} {k : Nat} (hk : kindT P t = some k) {x y : AV} {b : Bool} (h : eqCell k x y = some b) {c c' : Value} (hx : VRel w' fz R x c) (hy : VRel w' fz R' y c') :
    (Op.equalIn (d + 1) t c c').run P w = .ok b w := by
  obtain ⟨_, _, hc⟩ := kindT_some hk
  unfold eqCell at h
  split at h
  · cases h
    rcases hc with ⟨_, hu⟩ | ⟨h, _⟩ | ⟨h, _⟩
    · rw [hx.inv_bool, hy.inv_bool]; simp [Op.equalIn, run_underlying hu]
    · cases h
    · cases h
  · split at h
    · rename_i hkk
      cases h
      subst hkk
      rcases hc with ⟨h, _⟩ | ⟨_, q, hu⟩ | ⟨h, _⟩
      · cases h
      · rw [hx.inv_int, hy.inv_int]; simp [Op.equalIn, run_underlying hu]
      · cases h
    · cases h
  · cases h
    rcases hc with ⟨h, _⟩ | ⟨h, _⟩ | ⟨_, hu⟩
    · cases h
    · cases h
    · rw [hx.inv_str, hy.inv_str]; simp [Op.equalIn, run_underlying hu]
  · cases h

theorem eqCells_cons {k : Nat} {ks : List Nat} {xs ys : List AV} {b : Bool} (h : eqCells (k :: ks) xs ys = some b) :
    ∃ x xs' y ys' b1 b2, xs = x :: xs' ∧ ys = y :: ys' ∧ eqCell k x y = some b1 ∧ eqCells ks xs' ys' = some b2 ∧ b = (b1 && b2) := by
  cases xs with
  | nil => simp [eqCells] at h
  | cons x xs =>
    cases ys with
    | nil => simp [eqCells] at h
    | cons y ys =>
      simp only [eqCells] at h
      split at h
      · rename_i h1; exact ⟨x, xs, y, ys, true, b, rfl, rfl, h1, h, by simp⟩
      · rename_i h1
        split at h
        · rename_i b2 h2; cases h; exact ⟨x, xs, y, ys, false, b2, rfl, rfl, h1, h2, rfl⟩
        · cases h
      · cases h

theorem run_part1 {t : TypeId} (h : aggT P t = some false) {cs : Array Value} {j : Nat} {c : Value} (hj : cs[j]? = some c) : (part t cs j).run P w = .ok c w := by
  simp [part, run_isAgg h, hj]

theorem List.drop_cons_get {α : Type} {l : List α} {n : Nat} {x : α} {t : List α} (h : l.drop n = x :: t) : l[n]? = some x ∧ l.drop (n + 1) = t := by
  constructor
  · have := congrArg (·[0]?) h; simpa [List.getElem?_drop] using this
  · have := congrArg (List.drop 1) h; simpa [List.drop_drop] using this

theorem run_eq_fields (d : Nat) {X Y : Array Value} {xs ys : List AV} (hX : X.size = xs.length) (hY : Y.size = ys.length)
    (hx : ∀ (j : Nat) (e : AV) (u : Value), xs[j]? = some e → X[j]? = some u → VRel w' fz R e u) (hy : ∀ (j : Nat) (e : AV) (u : Value), ys[j]? = some e → Y[j]? = some u → VRel w' fz R' e u) :
    ∀ (fs : List Field) (n : Nat) (ks : List Nat) (b : Bool), kindsF P n fs = some ks → eqCells ks (xs.drop n) (ys.drop n) = some b →
    (forIn (m := Sem) fs ((none, ()) : Option Bool × Unit) fun (f : Field) __s =>
                if f.name = "_" then pure (ForInStep.yield (none, ()))
                else do
                  let __do_lift ← part f.type X f.offset
                  let __do_lift_1 ← part f.type Y f.offset
                  let __do_lift ← Op.equalIn (d + 1) f.type __do_lift __do_lift_1
                  if __do_lift = false then pure (ForInStep.done (some false, ()))
                    else pure (ForInStep.yield (none, ()))).run P w = .ok (if b then (none, ()) else (some false, ())) w := by
  intro fs
  induction fs with
  | nil => intro n ks b hk he; simp [kindsF] at hk; subst hk; cases hxs : xs.drop n <;> cases hys : ys.drop n <;> simp [hxs, hys, eqCells] at he; subst he; simp
  | cons f fs ih =>
    intro n ks b hk he
    simp only [kindsF] at hk
    split at hk
    · rename_i hnm
      cases h1 : kindT P f.type with
      | none => simp [h1] at hk
      | some k =>
        cases h2 : kindsF P (n + 1) fs with
        | none => simp [h1, h2] at hk
        | some ks' =>
          simp [h1, h2] at hk
          subst hk
          obtain ⟨x, xs', y, ys', b1, b2, e1, e2, e3, e4, rfl⟩ := eqCells_cons he
          obtain ⟨g1, g2⟩ := List.drop_cons_get e1
          obtain ⟨g3, g4⟩ := List.drop_cons_get e2
          have hlX : n < X.size := by rw [hX]; exact List.lt_of_some g1
          have hlY : n < Y.size := by rw [hY]; exact List.lt_of_some g3
          have p1 := run_part1 (P := P) (w := w) (kindT_some h1).2.1 (Array.getElem?_eq_getElem hlX)
          have p2 := run_part1 (P := P) (w := w) (kindT_some h1).2.1 (Array.getElem?_eq_getElem hlY)
          have p3 := run_equalIn_kind (P := P) (w := w) d h1 e3 (hx _ _ _ g1 (Array.getElem?_eq_getElem hlX)) (hy _ _ _ g3 (Array.getElem?_eq_getElem hlY))
          have hrest := ih (n + 1) ks' b2 h2 (by rw [g2, g4]; exact e4)
          rw [List.forIn_cons]
          rw [if_neg hnm.1, hnm.2]
          simp only [Sem.run_bind, p1, p2, p3, Result.andThen]
          cases b1
          · simp
          · simp only [Bool.true_eq_false, if_false, Bool.true_and]
            simp [hrest]
    · cases hk

theorem run_eq_cells (d : Nat) {e : TypeId} {k : Nat} (hk : kindT P e = some k) {X Y : Array Value} {xs ys : List AV} (hX : X.size = xs.length) (hY : Y.size = ys.length)
    (hx : ∀ (j : Nat) (e : AV) (u : Value), xs[j]? = some e → X[j]? = some u → VRel w' fz R e u) (hy : ∀ (j : Nat) (e : AV) (u : Value), ys[j]? = some e → Y[j]? = some u → VRel w' fz R' e u) :
    ∀ (len n : Nat) (b : Bool), eqCells (List.replicate len k) (xs.drop n) (ys.drop n) = some b →
    (forIn (m := Sem) (List.range' n len) ((none, ()) : Option Bool × Unit) fun i __s => do
            let __do_lift ← part e X i
            let __do_lift_1 ← part e Y i
            let __do_lift ← Op.equalIn (d + 1) e __do_lift __do_lift_1
            if __do_lift = false then pure (ForInStep.done (some false, ())) else pure (ForInStep.yield (none, ()))).run P w = .ok (if b then (none, ()) else (some false, ())) w := by
  intro len
  induction len with
  | zero => intro n b he; cases hxs : xs.drop n <;> cases hys : ys.drop n <;> simp [hxs, hys, eqCells] at he; subst he; simp
  | succ len ih =>
    intro n b he
    rw [List.replicate_succ] at he
    obtain ⟨x, xs', y, ys', b1, b2, e1, e2, e3, e4, rfl⟩ := eqCells_cons he
    obtain ⟨g1, g2⟩ := List.drop_cons_get e1
    obtain ⟨g3, g4⟩ := List.drop_cons_get e2
    have hlX : n < X.size := by rw [hX]; exact List.lt_of_some g1
    have hlY : n < Y.size := by rw [hY]; exact List.lt_of_some g3
    have p1 := run_part1 (P := P) (w := w) (kindT_some hk).2.1 (Array.getElem?_eq_getElem hlX)
    have p2 := run_part1 (P := P) (w := w) (kindT_some hk).2.1 (Array.getElem?_eq_getElem hlY)
    have p3 := run_equalIn_kind (P := P) (w := w) d hk e3 (hx _ _ _ g1 (Array.getElem?_eq_getElem hlX)) (hy _ _ _ g3 (Array.getElem?_eq_getElem hlY))
    have hrest := ih (n + 1) b2 (by rw [g2, g4]; exact e4)
    rw [List.range'_succ, List.forIn_cons]
    simp only [Sem.run_bind, p1, p2, p3, Result.andThen]
    cases b1
    · simp
    · simp only [Bool.true_eq_false, if_false, Bool.true_and]
      simp [hrest]

theorem run_equalIn_flat (d : Nat) {t : TypeId} {ks : List Nat} (hk : flatT P t = some ks) {X Y : Array Value} {xs ys : List AV} {b : Bool} (he : eqCells ks xs ys = some b) (hX : X.size = xs.length) (hY : Y.size = ys.length)
    (hx : ∀ (j : Nat) (e : AV) (u : Value), xs[j]? = some e → X[j]? = some u → VRel w' fz R e u) (hy : ∀ (j : Nat) (e : AV) (u : Value), ys[j]? = some e → Y[j]? = some u → VRel w' fz R' e u) :
    (Op.equalIn (d + 2) t (.agg X) (.agg Y)).run P w = .ok b w := by
  unfold flatT at hk
  split at hk
  · rename_i fs hu
    split at hk
    · rename_i hs
      have := run_eq_fields (P := P) (w := w) d hX hY hx hy fs.toList 0 ks b hk (by simpa using he)
      rw [Op.equalIn]
      simp only [Sem.run_bind, run_underlying hu, Result.andThen, program, Sem.run, hs]
      simp only [Array.forIn_toList] at this
      simp only [Bool.false_eq_true, if_false, pure_bind, Sem.run_bind, ne_eq, ite_not, Bool.not_eq_true', this]
      cases b <;> simp
    · cases hk
  · rename_i n e hu
    cases hke : kindT P e with
    | none => simp [hke] at hk
    | some k =>
      simp [hke] at hk
      subst hk
      have := run_eq_cells (P := P) (w := w) d hke hX hY hx hy n 0 b (by simpa using he)
      rw [Op.equalIn]
      simp [run_underlying hu, run_sizeOf (kindT_some hke).1, this]
      cases b <;> simp
  · cases hk
end
end Go.Mw
