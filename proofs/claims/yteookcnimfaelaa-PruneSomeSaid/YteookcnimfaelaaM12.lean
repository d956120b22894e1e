/- Each operation depends on what it names alone. -/
import Derived.Test.YteookcnimfaelaaM11
set_option linter.unusedVariables false
set_option linter.unusedSimpArgs false
namespace Go.Mw
theorem gets_congr {σ τ : St} {xs : List Opd} (ho : ∀ x ∈ xs, τ.get x = σ.get x) : τ.gets xs = σ.gets xs := by
 unfold St.gets
 exact List.map_congr_left ho
theorem dry_val {i : Ins} (hd : i.dry = true) (b : Nat) (σ τ : St) (ho : ∀ x ∈ i.opds, τ.get x = σ.get x) : ∃ g : Option AV, ax b i σ = g.map (·, σ.h) ∧ ax b i τ = g.map (·, τ.h) := by
 cases i <;> simp only [Ins.dry, Bool.false_eq_true] at hd <;> simp only [Ins.opds, List.mem_cons, List.not_mem_nil, or_false, forall_eq_or_imp, forall_eq, List.mem_append, List.mem_singleton] at ho
 case mov x => exact ⟨some (σ.get x), rfl, by simp [ax, ho]⟩
 case bad => exact ⟨none, rfl, rfl⟩
 case pick c x y =>
  simp only [ax, ho.1, ho.2.1, ho.2.2]
  split
  ·exact ⟨some (σ.get x), rfl, rfl⟩
  ·exact ⟨some (σ.get y), rfl, rfl⟩
  ·exact ⟨none, rfl, rfl⟩
 case bin op x y => exact ⟨binAV op (σ.get x) (σ.get y), rfl, by simp [ax, ho]⟩
 case beq neg x y =>
  simp only [ax, ho.1, ho.2]
  split
  ·exact ⟨some _, rfl, rfl⟩
  ·exact ⟨none, rfl, rfl⟩
 case eqa neg ks x y =>
  simp only [ax, ho.1, ho.2]
  split
  ·rename_i xs ys _ _
   exact ⟨(eqCells ks xs ys).map fun b => .bool (b != neg), by cases eqCells ks xs ys <;> rfl, by cases eqCells ks xs ys <;> rfl⟩
  ·exact ⟨none, rfl, rfl⟩
 case un op x => exact ⟨unAV op (σ.get x), rfl, by simp [ax, ho]⟩
 case cvi k x =>
  simp only [ax, ho]
  split
  ·exact ⟨some _, rfl, rfl⟩
  ·exact ⟨none, rfl, rfl⟩
 case bxf x =>
  simp only [ax, ho]
  split
  ·exact ⟨some _, rfl, rfl⟩
  ·exact ⟨none, rfl, rfl⟩
 case mkf f cs => exact ⟨some (.fn f (σ.gets cs)), rfl, by simp [ax, gets_congr ho]⟩
 case ssl x lo hi =>
  have hx : τ.get x = σ.get x := ho x (by simp)
  have hlo : lo.map τ.get = lo.map σ.get := by cases lo with | none => rfl | some y => simp only [Option.map_some]; rw [ho y (by simp)]
  have hhi : hi.map τ.get = hi.map σ.get := by cases hi with | none => rfl | some y => simp only [Option.map_some]; rw [ho y (by simp)]
  simp only [ax, hx, hlo, hhi]
  split
  ·split
   ·split
    ·exact ⟨some _, rfl, rfl⟩
    ·exact ⟨none, rfl, rfl⟩
   ·exact ⟨none, rfl, rfl⟩
  ·exact ⟨none, rfl, rfl⟩
 case fld ag off n x =>
  simp only [ax, ho]
  split
  ·split
   ·split
    ·exact ⟨some _, rfl, rfl⟩
    ·split
     ·exact ⟨some _, rfl, rfl⟩
     ·exact ⟨none, rfl, rfl⟩
   ·exact ⟨none, rfl, rfl⟩
  ·exact ⟨none, rfl, rfl⟩
 case idx x y =>
  simp only [ax, ho.1, ho.2]
  split
  ·split
   ·split
    ·exact ⟨some _, rfl, rfl⟩
    ·exact ⟨none, rfl, rfl⟩
   ·exact ⟨none, rfl, rfl⟩
  ·exact ⟨none, rfl, rfl⟩
 case ixa ag len es x y =>
  simp only [ax, ho.1, ho.2]
  split
  ·split
   ·split
    ·exact ⟨some _, rfl, rfl⟩
    ·split
     ·exact ⟨some _, rfl, rfl⟩
     ·exact ⟨none, rfl, rfl⟩
   ·exact ⟨none, rfl, rfl⟩
  ·exact ⟨none, rfl, rfl⟩
 case ext x k =>
  simp only [ax, ho]
  split
  ·split
   ·exact ⟨some _, rfl, rfl⟩
   ·exact ⟨none, rfl, rfl⟩
  ·exact ⟨none, rfl, rfl⟩
 case lens x =>
  simp only [ax, ho]
  split
  ·exact ⟨some _, rfl, rfl⟩
  ·exact ⟨none, rfl, rfl⟩
 case mxn mx x y =>
  simp only [ax, ho.1, ho.2]
  split
  ·split
   ·exact ⟨some _, rfl, rfl⟩
   ·exact ⟨none, rfl, rfl⟩
  ·exact ⟨none, rfl, rfl⟩
theorem bld_loc {rs : List Nat} {σ τ : St} (ha : Alike rs σ.h τ.h) : ∀ (ps : List (Nat × Nat × Opd)) (cs : List AV), (∀ x ∈ ps.map (·.2.2), τ.get x = σ.get x) → (∀ x ∈ ps.map (·.2.2), Named rs (σ.get x)) → bldAV τ cs ps = bldAV σ cs ps := by
 intro ps
 induction ps with
 | nil => intro cs _ _; rfl
 | cons p ps ih =>
   intro cs ho hn
   obtain ⟨off, n, x⟩ := p
   simp only [bldAV]
   rw [ho x (by simp), vcells_loc ha (hn x (by simp))]
   split
   ·split
    ·exact ih _ (fun y hy => ho y (by simp at hy ⊢; exact .inr hy)) (fun y hy => hn y (by simp at hy ⊢; exact .inr hy))
    ·rfl
   ·rfl
theorem calm_val {i : Ins} (hd : i.calm = true) (b : Nat) (σ τ : St) {rs : List Nat} (ha : Alike rs σ.h τ.h) (ho : ∀ x ∈ i.opds, τ.get x = σ.get x) (hn : ∀ x ∈ i.opds, Named rs (σ.get x)) : ∃ g : Option AV, ax b i σ = g.map (·, σ.h) ∧ ax b i τ = g.map (·, τ.h) := by
 by_cases hdry : i.dry = true
 ·exact dry_val hdry b σ τ ho
 cases i <;> (first | (simp only [Ins.calm, Ins.dry, Bool.false_eq_true, not_true_eq_false] at hd hdry; done) | skip) <;> simp only [Ins.opds, List.mem_cons, List.not_mem_nil, or_false, forall_eq_or_imp, forall_eq] at ho hn
 case bld z ps =>
  simp only [ax, bld_loc ha ps z ho hn]
  split
  ·exact ⟨some _, rfl, rfl⟩
  ·exact ⟨none, rfl, rfl⟩
 case ld ag n x =>
  simp only [ax, ho]
  cases hg : σ.get x <;> simp only [] <;> try exact ⟨none, rfl, rfl⟩
  ·split
   ·split
    ·exact ⟨some _, rfl, rfl⟩
    ·split
     ·exact ⟨some _, rfl, rfl⟩
     ·exact ⟨none, rfl, rfl⟩
   ·exact ⟨none, rfl, rfl⟩
  ·rename_i r st p ss i j
   have hr : r ∈ rs := by rw [hg] at hn; exact hn r (by simp [rootsOf])
   rw [node_loc ha hr, ha r hr]
   split
   ·split
    ·split
     ·split
      ·split
       ·exact ⟨some _, rfl, rfl⟩
       ·split
        ·exact ⟨some _, rfl, rfl⟩
        ·exact ⟨none, rfl, rfl⟩
      ·exact ⟨none, rfl, rfl⟩
     ·exact ⟨none, rfl, rfl⟩
    ·exact ⟨none, rfl, rfl⟩
   ·exact ⟨none, rfl, rfl⟩
 case nilc neg x y =>
  simp only [ax, ho.1, ho.2]
  have : nilAV τ.h (σ.get x) = nilAV σ.h (σ.get x) := by
   cases hg : σ.get x <;> first | rfl | skip
   ·rename_i xs; cases xs <;> rfl
   rename_i r st p ss off len
   simp only [nilAV]
   rw [node_loc ha (by have := hn.1; rw [hg] at this; exact this r (by simp [rootsOf]))]
  rw [this]
  split
  ·exact ⟨(nilAV σ.h (σ.get x)).map fun b => .bool (b != neg), by cases nilAV σ.h (σ.get x) <;> rfl, by cases nilAV σ.h (σ.get x) <;> rfl⟩
  ·exact ⟨none, rfl, rfl⟩
 case fad off x =>
  simp only [ax, ho]
  cases hg : σ.get x <;> simp only [] <;> try exact ⟨none, rfl, rfl⟩
  ·split
   ·exact ⟨some _, rfl, rfl⟩
   ·exact ⟨none, rfl, rfl⟩
  ·rename_i r st p ss i j
   have hr : r ∈ rs := by rw [hg] at hn; exact hn r (by simp [rootsOf])
   rw [node_loc ha hr]
   split
   ·exact ⟨some _, rfl, rfl⟩
   ·exact ⟨none, rfl, rfl⟩
 case lenl x =>
  simp only [ax, ho]
  cases hg : σ.get x <;> simp only [] <;> first | exact ⟨none, rfl, rfl⟩ | exact ⟨some _, rfl, rfl⟩ | skip
  rename_i r st p ss off len
  have hr : r ∈ rs := by rw [hg] at hn; exact hn r (by simp [rootsOf])
  rw [node_loc ha hr]
  split
  ·exact ⟨some _, rfl, rfl⟩
  ·exact ⟨none, rfl, rfl⟩
 case lenm x =>
  simp only [ax, ho]
  cases hg : σ.get x <;> simp only [] <;> first | exact ⟨none, rfl, rfl⟩ | exact ⟨some _, rfl, rfl⟩ | skip
  rename_i r st p ss
  have hr : r ∈ rs := by rw [hg] at hn; exact hn r (by simp [rootsOf])
  rw [node_loc ha hr]
  split
  ·exact ⟨some _, rfl, rfl⟩
  ·exact ⟨none, rfl, rfl⟩
 case iad es x y =>
  simp only [ax, ho.1, ho.2]
  have hnx := hn.1
  generalize σ.get x = gx at hnx ⊢
  split
  ·(repeat' split) <;> first | exact ⟨some _, rfl, rfl⟩ | exact ⟨none, rfl, rfl⟩
  ·rename_i r st p ss off len k i e
   rw [node_loc ha (hnx r (by simp [rootsOf]))]
   (repeat' split) <;> first | exact ⟨some _, rfl, rfl⟩ | exact ⟨none, rfl, rfl⟩
  ·exact ⟨none, rfl, rfl⟩
 case iaa len es x y =>
  simp only [ax, ho.1, ho.2]
  have hnx := hn.1
  generalize σ.get x = gx at hnx ⊢
  split
  ·(repeat' split) <;> first | exact ⟨some _, rfl, rfl⟩ | exact ⟨none, rfl, rfl⟩
  ·rename_i r st p ss i j k q e
   rw [node_loc ha (hnx r (by simp [rootsOf]))]
   (repeat' split) <;> first | exact ⟨some _, rfl, rfl⟩ | exact ⟨none, rfl, rfl⟩
  ·exact ⟨none, rfl, rfl⟩
 case lok kk z ok x y =>
  simp only [ax, ho.1, ho.2]
  have hnx := hn.1
  cases hg : σ.get x
  case mp r st p ss =>
   have hr : r ∈ rs := by rw [hg] at hnx; exact hnx r (by simp [rootsOf])
   simp only [node_loc ha hr]
   generalize (match node σ.h r st p ss with
    | some (.ownm es) => some es
    | _ => none) = o
   (repeat' split) <;> first | exact ⟨some _, rfl, rfl⟩ | exact ⟨none, rfl, rfl⟩
  case nilm => (try simp only []); (repeat' split) <;> first | exact ⟨some _, rfl, rfl⟩ | exact ⟨none, rfl, rfl⟩
  all_goals exact ⟨none, rfl, rfl⟩
 case sli es x lo hi mx =>
  have hx : τ.get x = σ.get x := ho x (by simp)
  have hlo : lo.map τ.get = lo.map σ.get := by cases lo with | none => rfl | some y => simp only [Option.map_some]; rw [ho y (by simp)]
  have hhi : hi.map τ.get = hi.map σ.get := by cases hi with | none => rfl | some y => simp only [Option.map_some]; rw [ho y (by simp)]
  have hmx : mx.map τ.get = mx.map σ.get := by cases mx with | none => rfl | some y => simp only [Option.map_some]; rw [ho y (by simp)]
  have hmx2 : ∀ y, mx = some y → τ.get y = σ.get y := fun y e => ho y (by simp [e])
  have hnx := hn x (by simp)
  simp only [ax, hx, hlo, hhi, hmx]
  cases hg : σ.get x <;> simp only [] <;> try exact ⟨none, rfl, rfl⟩
  case sl r st p ss off len =>
   have hr : r ∈ rs := by rw [hg] at hnx; exact hnx r (by simp [rootsOf])
   rw [node_loc ha hr]
   cases mx with
   | none => simp only []; (repeat' split) <;> first | exact ⟨some _, rfl, rfl⟩ | exact ⟨none, rfl, rfl⟩
   | some y => simp only [hmx2 y rfl]; (repeat' split) <;> first | exact ⟨some _, rfl, rfl⟩ | exact ⟨none, rfl, rfl⟩
  case lst xs =>
   cases mx with
   | none => simp only []; (repeat' split) <;> first | exact ⟨some _, rfl, rfl⟩ | exact ⟨none, rfl, rfl⟩
   | some y => simp only [hmx2 y rfl]; (repeat' split) <;> first | exact ⟨some _, rfl, rfl⟩ | exact ⟨none, rfl, rfl⟩
  all_goals ((repeat' split) <;> first | exact ⟨some _, rfl, rfl⟩ | exact ⟨none, rfl, rfl⟩)
end Go.Mw
/- What writes depends on, and writes, what it names alone. -/
namespace Go.Mw
section
variable {rs : List Nat} {h k : List Ob}
theorem appY_loc (ha : Alike rs h k) {es : Nat} {y : AV} (hn : Named rs y) {ys : List AV} {h1 : List Ob} (hs : appY h es y = some (ys, h1)) : ∃ k1, appY k es y = some (ys, k1) ∧ Same rs h1 k k1 := by
 cases y <;> simp only [appY, reduceCtorEq] at hs ⊢
 case nils => simp only [Option.some.injEq, Prod.mk.injEq] at hs; obtain ⟨rfl, rfl⟩ := hs; exact ⟨k, rfl, Same.refl ha⟩
 case emp => simp only [Option.some.injEq, Prod.mk.injEq] at hs; obtain ⟨rfl, rfl⟩ := hs; exact ⟨k, rfl, Same.refl ha⟩
 case ne => simp only [Option.some.injEq, Prod.mk.injEq] at hs; obtain ⟨rfl, rfl⟩ := hs; exact ⟨k, rfl, Same.refl ha⟩
 case lst xs =>
  split at hs
  ·rename_i hc
   simp only [Option.some.injEq, Prod.mk.injEq] at hs; obtain ⟨rfl, rfl⟩ := hs
   exact ⟨k, by rw [if_pos hc], Same.refl ha⟩
  ·cases hs
 case sl r st p ss off len =>
  have hr := hn r (by simp [rootsOf])
  rw [node_loc ha hr]
  cases hnd : node h r st p ss with
  | none => simp [hnd] at hs
  | some nd =>
    simp only [hnd] at hs
    cases nd <;> simp only [reduceCtorEq] at hs ⊢
    split at hs
    ·rename_i hc
     rw [if_pos hc]
     simp only [Option.some.injEq, Prod.mk.injEq] at hs; obtain ⟨rfl, rfl⟩ := hs
     exact ⟨k, rfl, Same.refl ha⟩
    ·rename_i hc
     rw [if_neg hc]
     split at hs
     ·rename_i hc2
      rw [if_pos hc2]
      cases hso : setOb h r p .gone false with
      | none => simp [hso] at hs
      | some hh =>
        simp only [hso, Option.map_some, Option.some.injEq, Prod.mk.injEq] at hs
        obtain ⟨rfl, rfl⟩ := hs
        obtain ⟨k', e1, e2⟩ := setOb_loc ha hr hso
        exact ⟨k', by rw [e1]; rfl, e2⟩
     ·cases hs
theorem appX_loc (ha : Alike rs h k) {es : Nat} {x : AV} (hn : Named rs x) {xs : List AV} {h1 : List Ob} (hs : appX h es x = some (xs, h1)) : ∃ k1, appX k es x = some (xs, k1) ∧ Same rs h1 k k1 := by
 unfold appX at hs ⊢
 split at hs
 ·simp only [Option.some.injEq, Prod.mk.injEq] at hs; obtain ⟨rfl, rfl⟩ := hs; exact ⟨k, rfl, Same.refl ha⟩
 ·simp only [Option.some.injEq, Prod.mk.injEq] at hs; obtain ⟨rfl, rfl⟩ := hs; exact ⟨k, rfl, Same.refl ha⟩
 ·simp only [Option.some.injEq, Prod.mk.injEq] at hs; obtain ⟨rfl, rfl⟩ := hs; exact ⟨k, rfl, Same.refl ha⟩
 ·rename_i r st p ss off len
  have hr := hn r (by simp [rootsOf])
  simp only [node_loc ha hr]
  cases hnd : node h r st p ss with
  | none => simp [hnd] at hs
  | some nd =>
    simp only [hnd] at hs
    cases nd <;> simp only [reduceCtorEq] at hs ⊢
    split at hs
    ·rename_i hc
     rw [if_pos hc]
     cases hso : setOb h r p .gone false with
     | none => simp [hso] at hs
     | some hh =>
       simp only [hso, Option.map_some, Option.some.injEq, Prod.mk.injEq] at hs
       obtain ⟨rfl, rfl⟩ := hs
       obtain ⟨k', e1, e2⟩ := setOb_loc ha hr hso
       exact ⟨k', by rw [e1]; rfl, e2⟩
    ·cases hs
 ·cases hs
end
theorem cpyY_loc {rs : List Nat} {h k : List Ob} (ha : Alike rs h k) {y : AV} (hn : Named rs y) : cpyY k y = cpyY h y := by
 cases y <;> simp only [cpyY]
 case sl r st p ss off len => rw [node_loc ha (hn r (by simp [rootsOf]))]
theorem wr_loc {i : Ins} (hi : i.calm = false) {b : Nat} {σ τ : St} {rs : List Nat} (ha : Alike rs σ.h τ.h) (ho : ∀ x ∈ i.opds, τ.get x = σ.get x) (hn : ∀ x ∈ i.opds, Named rs (σ.get x)) (hst : ∀ s ∈ i.sites, b + s ∈ rs) {v : AV} {h' : List Ob} (hx : ax b i σ = some (v, h')) :
 ∃ k', ax b i τ = some (v, k') ∧ Same rs h' τ.h k' := by
 cases i <;> (first | (simp [Ins.calm, Ins.dry] at hi; done) | skip) <;> simp only [Ins.opds, List.mem_cons, List.not_mem_nil, or_false, forall_eq_or_imp, forall_eq] at ho hn <;> (try simp only [Ins.sites, List.mem_cons, List.not_mem_nil, or_false, forall_eq] at hst)
 case alc s es z =>
  simp only [ax] at hx ⊢
  split at hx
  ·rename_i hc
   rw [if_pos hc]
   cases hnew : newOb σ.h (b + s) (.own es [z]) with
   | none => simp [hnew] at hx
   | some p =>
     obtain ⟨hh, st⟩ := p
     simp only [hnew, Option.some.injEq, Prod.mk.injEq] at hx
     obtain ⟨rfl, rfl⟩ := hx
     obtain ⟨k', e1, e2⟩ := newOb_loc ha hst hnew
     exact ⟨k', by rw [e1], e2⟩
  ·cases hx
 case mkm s =>
  simp only [ax] at hx ⊢
  cases hnew : newOb σ.h (b + s) (.ownm []) with
  | none => simp [hnew] at hx
  | some p =>
    obtain ⟨hh, st⟩ := p
    simp only [hnew, Option.some.injEq, Prod.mk.injEq] at hx
    obtain ⟨rfl, rfl⟩ := hx
    obtain ⟨k', e1, e2⟩ := newOb_loc ha hst hnew
    exact ⟨k', by rw [e1], e2⟩
 case box s es x =>
  simp only [ax, ho] at hx ⊢
  split at hx
  ·rename_i hc
   rw [if_pos hc]
   cases htv : takeVal σ.h es (σ.get x) with
   | none => simp [htv] at hx
   | some p =>
     obtain ⟨c, h1⟩ := p
     simp only [htv] at hx
     cases hnew : newOb h1 (b + s) (.own es [c]) with
     | none => simp [hnew] at hx
     | some p =>
       obtain ⟨hh, st⟩ := p
       simp only [hnew, Option.some.injEq, Prod.mk.injEq] at hx
       obtain ⟨rfl, rfl⟩ := hx
       obtain ⟨k1, e1, e2⟩ := takeVal_loc ha hn htv
       obtain ⟨k2, e3, e4⟩ := newOb_loc e2.alike hst hnew
       exact ⟨k2, by rw [e1]; simp only [e3], e2.trans e4⟩
  ·cases hx
 case bsl s es n xs =>
  have hg : τ.gets xs = σ.gets xs := gets_congr ho
  simp only [ax, hg] at hx ⊢
  split at hx
  ·rename_i hc
   rw [if_pos hc]
   by_cases hn0 : n = 0
   ·rw [if_pos hn0] at hx ⊢
    simp only [Option.some.injEq, Prod.mk.injEq] at hx
    obtain ⟨rfl, rfl⟩ := hx
    exact ⟨_, rfl, Same.refl ha⟩
   rw [if_neg hn0] at hx ⊢
   cases htv : takeVals σ.h es (σ.gets xs) with
   | none => simp [htv] at hx
   | some p =>
     obtain ⟨c, h1⟩ := p
     simp only [htv] at hx
     cases hnew : newOb h1 (b + s) (.own es c) with
     | none => simp [hnew] at hx
     | some p =>
       obtain ⟨hh, st⟩ := p
       simp only [hnew, Option.some.injEq, Prod.mk.injEq] at hx
       obtain ⟨rfl, rfl⟩ := hx
       obtain ⟨k1, e1, e2⟩ := takeVals_loc _ ha (fun v hv => by
        simp only [St.gets, List.mem_map] at hv
        obtain ⟨x, hx, rfl⟩ := hv
        exact hn x hx) htv
       obtain ⟨k2, e3, e4⟩ := newOb_loc e2.alike hst hnew
       exact ⟨k2, by rw [e1]; simp only [e3], e2.trans e4⟩
  ·cases hx
 case app s es bytes x y =>
  simp only [ax, ho.1, ho.2] at hx ⊢
  cases hy : appY σ.h es (σ.get y) with
  | none => simp [hy] at hx
  | some p =>
    obtain ⟨ys, h1⟩ := p
    simp only [hy] at hx
    cases hxx : appX h1 es (σ.get x) with
    | none => simp [hxx] at hx
    | some p =>
      obtain ⟨xs, h2⟩ := p
      simp only [hxx] at hx
      obtain ⟨k1, e1, e2⟩ := appY_loc ha hn.2 hy
      obtain ⟨k2, e3, e4⟩ := appX_loc e2.alike hn.1 hxx
      have e5 := e2.trans e4
      simp only [e1, e3]
      split at hx
      ·rename_i hc
       rw [if_pos hc]
       split at hx <;> (first | cases hx | skip)
       all_goals exact ⟨k2, rfl, e5⟩
      ·rename_i hc
       rw [if_neg hc]
       split at hx
       ·rename_i hc2
        rw [if_pos hc2]
        cases hnew : newOb h2 (b + s) (.own es (xs ++ ys)) with
        | none => simp [hnew] at hx
        | some p =>
          obtain ⟨hh, st⟩ := p
          simp only [hnew, Option.some.injEq, Prod.mk.injEq] at hx
          obtain ⟨rfl, rfl⟩ := hx
          obtain ⟨k3, e6, e7⟩ := newOb_loc e5.alike hst hnew
          exact ⟨k3, by rw [e6], e5.trans e7⟩
       ·cases hx
 case mks s es bytes z x y =>
  simp only [ax, ho.1, ho.2] at hx ⊢
  generalize σ.get x = gx at hx ⊢
  generalize σ.get y = gy at hx ⊢
  split at hx
  ·rename_i l c
   split at hx
   ·rename_i hc
    rw [if_pos hc]
    cases hnew : newOb σ.h (b + s) (.own es (List.replicate l.toNat z)) with
    | none => simp [hnew] at hx
    | some p =>
      obtain ⟨hh, st⟩ := p
      simp only [hnew, Option.some.injEq, Prod.mk.injEq] at hx
      obtain ⟨rfl, rfl⟩ := hx
      obtain ⟨k', e3, e4⟩ := newOb_loc ha hst hnew
      exact ⟨k', by rw [e3], e4⟩
   ·cases hx
  ·cases hx
 case sto n x y =>
  have hnx := hn.1
  simp only [ax, ho.1, ho.2] at hx ⊢
  cases hg : σ.get x <;> simp only [hg, reduceCtorEq] at hx ⊢
  rename_i r st p ss i j
  have hr : r ∈ rs := by rw [hg] at hnx; exact hnx r (by simp [rootsOf])
  rw [node_loc ha hr, vcells_loc ha hn.2]
  cases hnd : node σ.h r st p ss with
  | none => simp [hnd] at hx
  | some nd =>
    cases hvc : vcells σ.h n (σ.get y) with
    | none => cases nd <;> simp [hnd, hvc] at hx
    | some vs =>
      cases nd <;> simp only [hnd, hvc, reduceCtorEq] at hx ⊢
      cases htk : takeCells σ.h vs with
      | none => simp [htk] at hx
      | some q =>
        obtain ⟨cs, h1⟩ := q
        simp only [htk] at hx
        obtain ⟨k1, e1, e2⟩ := takeCells_loc vs ha (vcells_named hn.2 hvc) htk
        simp only [e1, nodeAt_loc e2.alike hr]
        cases hna : nodeAt h1 r p with
        | none => simp [hna] at hx
        | some nd2 =>
          cases nd2 <;> simp only [hna, reduceCtorEq] at hx ⊢
          rename_i es xs
          cases hxi : xs[i]? with
          | none => simp [hxi] at hx
          | some e =>
            simp only [hxi] at hx ⊢
            split at hx
            ·rename_i hc
             rw [if_pos hc]
             cases hso : setOb h1 r p (.own es (xs.set i (setCells e j cs))) (cs.any isNode || ((e.cells.drop j).take n).any isNode) with
             | none => simp [hso] at hx
             | some hf =>
               simp only [hso, Option.map_some, Option.some.injEq, Prod.mk.injEq] at hx
               obtain ⟨rfl, rfl⟩ := hx
               obtain ⟨k2, e3, e4⟩ := setOb_loc e2.alike hr hso
               exact ⟨k2, by rw [e3]; rfl, e2.trans e4⟩
            ·cases hx
 case cpy x y =>
  have hnx := hn.1
  simp only [ax, ho.1, ho.2] at hx ⊢
  cases hg : σ.get x <;> simp only [hg, reduceCtorEq] at hx ⊢
  rename_i r st p ss off len
  have hr : r ∈ rs := by rw [hg] at hnx; exact hnx r (by simp [rootsOf])
  rw [node_loc ha hr, cpyY_loc ha hn.2]
  cases hnd : node σ.h r st p ss with
  | none => simp [hnd] at hx
  | some nd =>
    cases hcy : cpyY σ.h (σ.get y) with
    | none => cases nd <;> simp [hnd, hcy] at hx
    | some ys =>
      cases nd <;> simp only [hnd, hcy, reduceCtorEq] at hx ⊢
      rename_i es xs
      split at hx
      ·rename_i hc
       rw [if_pos hc]
       cases hso : setOb σ.h r p (.own 1 (xs.take off ++ ys.take len ++ xs.drop (off + min ys.length len))) false with
       | none => simp only [hso, Option.map_none, reduceCtorEq] at hx
       | some hf =>
         simp only [hso, Option.map_some, Option.some.injEq, Prod.mk.injEq] at hx
         obtain ⟨rfl, rfl⟩ := hx
         obtain ⟨k2, e3, e4⟩ := setOb_loc ha hr hso
         exact ⟨k2, by rw [e3]; rfl, e4⟩
      ·cases hx
 case mup kk x y z =>
  have hnx := hn.1
  simp only [ax, ho.1, ho.2.1, ho.2.2] at hx ⊢
  cases hg : σ.get x <;> simp only [hg, reduceCtorEq] at hx ⊢
  rename_i r st p ss
  have hr : r ∈ rs := by rw [hg] at hnx; exact hnx r (by simp [rootsOf])
  rw [node_loc ha hr]
  cases hnd : node σ.h r st p ss with
  | none => simp [hnd] at hx
  | some nd =>
    cases nd <;> simp only [hnd, reduceCtorEq] at hx ⊢
    rename_i es
    split at hx
    ·rename_i hc
     rw [if_pos hc]
     cases hfk : findK kk (σ.get y) es with
     | none => simp [hfk] at hx
     | some o =>
       cases o with
       | some i =>
         simp only [hfk] at hx ⊢
         cases hei : es[i]? with
         | none => simp [hei] at hx
         | some kv =>
           obtain ⟨k', v'⟩ := kv
           simp only [hei] at hx ⊢
           cases hso : setOb σ.h r p (.ownm (es.set i (k', σ.get z))) false with
           | none => simp [hso] at hx
           | some hf =>
             simp only [hso, Option.map_some, Option.some.injEq, Prod.mk.injEq] at hx
             obtain ⟨rfl, rfl⟩ := hx
             obtain ⟨k2, e3, e4⟩ := setOb_loc ha hr hso
             exact ⟨k2, by rw [e3]; rfl, e4⟩
       | none =>
         simp only [hfk] at hx ⊢
         cases hso : setOb σ.h r p (.ownm (es ++ [(σ.get y, σ.get z)])) false with
         | none => simp [hso] at hx
         | some hf =>
           simp only [hso, Option.map_some, Option.some.injEq, Prod.mk.injEq] at hx
           obtain ⟨rfl, rfl⟩ := hx
           obtain ⟨k2, e3, e4⟩ := setOb_loc ha hr hso
           exact ⟨k2, by rw [e3]; rfl, e4⟩
    ·cases hx
 case men kk z x y =>
  have hnx := hn.1
  simp only [ax, ho.1, ho.2] at hx ⊢
  cases hg : σ.get x <;> simp only [hg, reduceCtorEq] at hx ⊢
  rename_i r st p ss
  have hr : r ∈ rs := by rw [hg] at hnx; exact hnx r (by simp [rootsOf])
  rw [node_loc ha hr]
  cases hnd : node σ.h r st p ss with
  | none => simp [hnd] at hx
  | some nd =>
    cases nd <;> simp only [hnd, reduceCtorEq] at hx ⊢
    rename_i es
    split at hx
    ·rename_i hc
     rw [if_pos hc]
     cases hfk : findK kk (σ.get y) es with
     | none => simp [hfk] at hx
     | some o =>
       cases o with
       | some i =>
         simp only [hfk] at hx ⊢
         cases hei : es[i]? with
         | none => simp [hei] at hx
         | some kv =>
           obtain ⟨k', v'⟩ := kv
           simp only [hei, Option.some.injEq, Prod.mk.injEq] at hx ⊢
           obtain ⟨rfl, rfl⟩ := hx
           exact ⟨τ.h, ⟨rfl, rfl⟩, Same.refl ha⟩
       | none =>
         simp only [hfk] at hx ⊢
         cases hso : setOb σ.h r p (.ownm (es ++ [(σ.get y, z)])) false with
         | none => simp [hso] at hx
         | some hf =>
           simp only [hso, Option.map_some, Option.some.injEq, Prod.mk.injEq] at hx
           obtain ⟨rfl, rfl⟩ := hx
           obtain ⟨k2, e3, e4⟩ := setOb_loc ha hr hso
           exact ⟨k2, by rw [e3]; rfl, e4⟩
    ·cases hx
 case est x y z =>
  have hnx := hn.1
  simp only [ax, ho.1, ho.2.1, ho.2.2] at hx ⊢
  generalize σ.get x = gx at hnx hx ⊢
  generalize σ.get y = gy at hx ⊢
  split at hx
  ·rename_i r st p ss r' st' p' ss' i
   have hr : r ∈ rs := hnx r (by simp [rootsOf])
   split at hx
   ·rename_i hc
    rw [if_pos hc, node_loc ha hr]
    cases hnd : node σ.h r st p ss with
    | none => simp [hnd] at hx
    | some nd =>
      cases nd <;> simp only [hnd, reduceCtorEq] at hx ⊢
      rename_i es
      cases hei : es[i]? with
      | none => simp [hei] at hx
      | some kv =>
        obtain ⟨k', v'⟩ := kv
        simp only [hei] at hx ⊢
        cases hso : setOb σ.h r p (.ownm (es.set i (k', σ.get z))) false with
        | none => simp [hso] at hx
        | some hf =>
          simp only [hso, Option.map_some, Option.some.injEq, Prod.mk.injEq] at hx
          obtain ⟨rfl, rfl⟩ := hx
          obtain ⟨k2, e3, e4⟩ := setOb_loc ha hr hso
          exact ⟨k2, by rw [e3]; rfl, e4⟩
   ·cases hx
  ·cases hx
 all_goals (simp [ax] at hx)
end Go.Mw
/- A call by value depends on what it names alone. -/
namespace Go.Mw
section
variable {rs : List Nat} {h k : List Ob}
mutual
theorem treeB_loc (ha : Alike rs h k) (B : Nat) : ∀ (v : AV), Named rs v → treeB B k v = treeB B h v
 | .agg cs, hn => by simp only [treeB]; rw [treeBL_loc ha B cs (fun r hr => hn r (by simpa [rootsOf] using hr))]
 | .tup cs, hn => by simp only [treeB]; rw [treeBL_loc ha B cs (fun r hr => hn r (by simpa [rootsOf] using hr))]
 | .fn f cs, hn => by simp only [treeB]; rw [treeBL_loc ha B cs (fun r hr => hn r (by simpa [rootsOf] using hr))]
 | .sl r st p ss off len, hn => by simp only [treeB, tree]; rw [node_loc ha (hn r (by simp [rootsOf]))]
 | .ptr r st p ss i j, hn => by simp only [treeB, tree]; rw [node_loc ha (hn r (by simp [rootsOf]))]
 | .mp r st p ss, hn => rfl
 | .ent .., hn => rfl
 | .yld _, hn => rfl
 | .undef, hn => rfl
 | .gone, hn => rfl
 | .bool _, hn => rfl
 | .int .., hn => rfl
 | .str _, hn => rfl
 | .nilp, hn => rfl
 | .nils, hn => rfl
 | .nilm, hn => rfl
 | .nilf, hn => rfl
 | .emp, hn => rfl
 | .ne, hn => rfl
 | .lst _, hn => rfl
 | .pfro _, hn => rfl
 | .own .., hn => rfl
 | .ownm _, hn => rfl
theorem treeBL_loc (ha : Alike rs h k) (B : Nat) : ∀ (xs : List AV), (∀ r ∈ rootsL xs, r ∈ rs) → treeBL B k xs = treeBL B h xs
 | [], _ => rfl
 | x :: xs, hn => by
   simp only [treeBL]
   rw [treeB_loc ha B x (fun r hr => hn r (by simp only [rootsL, List.mem_append]; exact .inl hr)), treeBL_loc ha B xs (fun r hr => hn r (by simp only [rootsL, List.mem_append]; exact .inr hr))]
end
theorem dropRoots_loc (ha : Alike rs h k) {qs : List Nat} (hq : ∀ r ∈ qs, r ∈ rs) : Same rs (dropRoots h qs) k (dropRoots k qs) := by
 have get : ∀ (h : List Ob) (r : Nat), (dropRoots h qs)[r]? = (h[r]?).map fun o => if r ∈ qs then { o with c := .gone } else o := by
  intro h r
  cases ho : h[r]? with
  | some o => rw [dropRoots_get qs h r o ho]; rfl
  | none =>
    have hlt : h.length ≤ r := by
     rcases Nat.lt_or_ge r h.length with x | x
     ·rw [List.getElem?_eq_getElem x] at ho; cases ho
     ·exact x
    rw [List.getElem?_eq_none (by rw [dropRoots_len]; exact hlt)]; rfl
 refine ⟨fun r hr => by rw [get, get, ha r hr], fun r hr => ?_⟩
 rw [get]
 have : r ∉ qs := fun h => hr (hq r h)
 simp only [this, if_false]
 cases k[r]? <;> rfl
theorem give_loc {fo : Bool} {B b : Nat} {ss : List Nat} {h1 h0 k0 hf : List Ob} {xs : List AV} {v : AV} (ha : Alike rs h0 k0) (hst : ∀ s ∈ ss, b + s ∈ rs) (hg : give fo B h1 h0 b ss xs = some (v, hf)) :
 ∃ kf, give fo B h1 k0 b ss xs = some (v, kf) ∧ Same rs hf k0 kf := by
 unfold give at hg ⊢
 split at hg
 ·rename_i r st s2 off len s
  split at hg
  ·rename_i hB
   rw [if_pos hB]
   cases hnd : node h1 r st [] 0 with
   | none => simp [hnd] at hg
   | some nd =>
     cases nd <;> simp only [hnd, reduceCtorEq] at hg ⊢
     rename_i es ys
     split at hg
     ·rename_i hc
      rw [if_pos hc]
      cases hnew : newOb h0 (b + s) (.own es ys) with
      | none => simp [hnew] at hg
      | some p =>
        obtain ⟨hh, st'⟩ := p
        simp only [hnew, Option.some.injEq, Prod.mk.injEq] at hg
        obtain ⟨rfl, rfl⟩ := hg
        obtain ⟨k', e1, e2⟩ := newOb_loc ha (hst s (by simp)) hnew
        exact ⟨k', by rw [e1], e2⟩
     ·cases hg
  ·cases hg
 ·simp only [Option.some.injEq, Prod.mk.injEq] at hg
  obtain ⟨rfl, rfl⟩ := hg
  exact ⟨k0, rfl, Same.refl ha⟩
 ·simp only [Option.some.injEq, Prod.mk.injEq] at hg
  obtain ⟨rfl, rfl⟩ := hg
  exact ⟨k0, rfl, Same.refl ha⟩
 ·cases hg
 ·simp only [Option.some.injEq, Prod.mk.injEq] at hg
  obtain ⟨rfl, rfl⟩ := hg
  exact ⟨k0, rfl, Same.refl ha⟩
end
theorem callF_loc {G : Prg} {n : Nat} {f : FuncId} {F : IF} (hf : G f = some F) (hp : F.pure = true) {xs : List AV} {b : Nat} {ss : List Nat} {σ τ σ' : St} {rs : List Nat} {v : AV} (ha : Alike rs σ.h τ.h) (hn : ∀ r ∈ rootsL xs, r ∈ rs) (hst : ∀ s ∈ ss, b + s ∈ rs)
 (hx : callF G n f xs b ss σ = some (v, σ')) : ∃ k', callF G n f xs b ss τ = some (v, { τ with h := k' }) ∧ Same rs σ'.h τ.h k' ∧ σ' = { σ with h := σ'.h } := by
 cases n with
 | zero => simp [callF] at hx
 | succ n =>
   simp only [callF, hf, hp, if_true] at hx ⊢
   rw [treeBL_loc ha 0 xs hn]
   split at hx
   ·rename_i hl
    rw [if_pos hl]
    by_cases hsp : splits F (treeBL 0 σ.h xs) = true
    ·rw [if_pos hsp] at hx ⊢
     split at hx
     ·rename_i y1 σ1 y2 σ2 e1 e2
      split at hx
      ·rename_i hv
       try rw [if_pos hv]
       simp only [Option.some.injEq, Prod.mk.injEq] at hx
       obtain ⟨rfl, rfl⟩ := hx
       exact ⟨τ.h, rfl, Same.refl ha, rfl⟩
      ·cases hx
     ·cases hx
    rw [if_neg hsp] at hx ⊢
    cases hr : runF G n F (treeBL 0 σ.h xs) [] [] with
    | none => simp [hr] at hx
    | some p =>
      obtain ⟨rr, σ1⟩ := p
      simp only [hr] at hx
      have h0 : Same rs (if xs.all AV.free || rr.all AV.flats then σ.h else dropRoots σ.h (rootsL xs)) τ.h (if xs.all AV.free || rr.all AV.flats then τ.h else dropRoots τ.h (rootsL xs)) := by
       split
       ·exact Same.refl ha
       ·exact dropRoots_loc ha hn
      cases hg : give F.fo 0 σ1.h (if xs.all AV.free || rr.all AV.flats then σ.h else dropRoots σ.h (rootsL xs)) b ss rr with
      | none => simp only [hg] at hx; cases hx
      | some q =>
        obtain ⟨v1, hh⟩ := q
        simp only [hg, Option.some.injEq, Prod.mk.injEq] at hx
        obtain ⟨rfl, rfl⟩ := hx
        obtain ⟨kf, e1, e2⟩ := give_loc h0.alike hst hg
        exact ⟨kf, by simp only [e1], h0.trans e2, rfl⟩
   ·cases hx
end Go.Mw
/- What an operation leaves as it was: the shape of the nodes ahead of a place. -/
namespace Go.Mw
def shp : AV → Option (Nat × Nat)
 | .own es xs => some (es, xs.length)
 | _ => none
theorem shp_upd (p : Path) : ∀ (x v x' : AV), (∀ cs, v ≠ .agg cs) → upd x p v = some x' → ∀ q, ¬ p <+: q → (nav x' q).bind shp = (nav x q).bind shp := by
 induction p with
 | nil => intro x v x' _ h q hn; exact absurd List.nil_prefix hn
 | cons a p ih =>
   obtain ⟨i, j⟩ := a
   intro x v x' hv h q hn
   obtain ⟨es, xs, e, c, c', rfl, he, hc, hu, rfl⟩ := (upd_cons ..).1 h
   have hi : i < xs.length := List.lt_of_some he
   have hj : j < e.cells.length := List.lt_of_some hc
   have hc' : ∀ cs, c' ≠ .agg cs := by
    cases p with
    | nil => rw [upd_nil] at hu; cases hu; exact hv
    | cons a p =>
      obtain ⟨i', j'⟩ := a
      obtain ⟨_, _, _, _, _, _, _, _, _, rfl⟩ := (upd_cons ..).1 hu
      intro cs h; cases h
   have hcs := cells_setCellOf e j c' hc'
   cases q with
   | nil => simp only [nav_nil, Option.bind_some, shp, List.length_set]
   | cons b q =>
     obtain ⟨i', j'⟩ := b
     by_cases ei : i' = i
     ·subst ei
      simp only [nav, List.getElem?_set_self hi, he]
      rw [hcs.2 hj j']
      by_cases ej : j' = j
      ·subst ej
       rw [if_pos rfl, hc]
       exact ih _ _ _ hv hu q (fun hpq => hn (by obtain ⟨t, rfl⟩ := hpq; exact ⟨t, rfl⟩))
      ·rw [if_neg ej]
     ·simp only [nav, List.getElem?_set_ne (fun h => ei h.symm)]
def mapOf : AV → Option (List (AV × AV))
 | .ownm es => some es
 | _ => none
theorem map_upd (p : Path) : ∀ (x v x' : AV), (∀ cs, v ≠ .agg cs) → upd x p v = some x' → ∀ q, ¬ p <+: q → (nav x' q).bind mapOf = (nav x q).bind mapOf := by
 induction p with
 | nil => intro x v x' _ h q hn; exact absurd List.nil_prefix hn
 | cons a p ih =>
   obtain ⟨i, j⟩ := a
   intro x v x' hv h q hn
   obtain ⟨es, xs, e, c, c', rfl, he, hc, hu, rfl⟩ := (upd_cons ..).1 h
   have hi : i < xs.length := List.lt_of_some he
   have hj : j < e.cells.length := List.lt_of_some hc
   have hc' : ∀ cs, c' ≠ .agg cs := by
    cases p with
    | nil => rw [upd_nil] at hu; cases hu; exact hv
    | cons a p =>
      obtain ⟨i', j'⟩ := a
      obtain ⟨_, _, _, _, _, _, _, _, _, rfl⟩ := (upd_cons ..).1 hu
      intro cs h; cases h
   have hcs := cells_setCellOf e j c' hc'
   cases q with
   | nil => simp only [nav_nil, Option.bind_some, mapOf]
   | cons b q =>
     obtain ⟨i', j'⟩ := b
     by_cases ei : i' = i
     ·subst ei
      simp only [nav, List.getElem?_set_self hi, he]
      rw [hcs.2 hj j']
      by_cases ej : j' = j
      ·subst ej
       rw [if_pos rfl, hc]
       exact ih _ _ _ hv hu q (fun hpq => hn (by obtain ⟨t, rfl⟩ := hpq; exact ⟨t, rfl⟩))
      ·rw [if_neg ej]
     ·simp only [nav, List.getElem?_set_ne (fun h => ei h.symm)]
def atO (q : Path) (o : Ob) : Nat × Nat × Option (Nat × Nat) := (o.st, o.ss, (nav o.c q).bind shp)
theorem at_setOb {h h' : List Ob} {r : Nat} {p : Path} {v : AV} (hv : ∀ cs, v ≠ .agg cs) (hs : setOb h r p v false = some h') {q : Path} (hq : ¬ p <+: q) (r' : Nat) : (h'[r']?).map (atO q) = (h[r']?).map (atO q) := by
 obtain ⟨o, c, h1, h2, rfl⟩ := setOb_some hs
 by_cases e : r = r'
 ·subst e
  rw [List.getElem?_set_self (List.lt_of_some h1), h1]
  simp only [Option.map_some, atO, Bool.false_eq_true, if_false, shp_upd p _ _ _ hv h2 q hq]
 ·rw [List.getElem?_set_ne e]
theorem gone_ne : ∀ cs, AV.gone ≠ .agg cs := by intro cs h; cases h
theorem appY_at {h h' : List Ob} {es : Nat} {y : AV} {ys : List AV} (hs : appY h es y = some (ys, h')) {r : Nat} (hr : r ∉ rootsOf y) : h'[r]? = h[r]? := by
 cases y <;> simp only [appY, reduceCtorEq, Option.some.injEq, Prod.mk.injEq] at hs
 case nils => rw [hs.2]
 case emp => rw [hs.2]
 case ne => rw [hs.2]
 case lst xs =>
  split at hs
  ·simp only [Option.some.injEq, Prod.mk.injEq] at hs; rw [hs.2]
  ·cases hs
 case sl r0 st p ss off len =>
  have hne : r0 ≠ r := fun e => hr (by simp [rootsOf, e])
  split at hs
  ·split at hs
   ·simp only [Option.some.injEq, Prod.mk.injEq] at hs; rw [hs.2]
   ·split at hs
    ·cases hso : setOb h r0 p .gone false with
     | none => simp [hso] at hs
     | some hh =>
       simp only [hso, Option.map_some, Option.some.injEq, Prod.mk.injEq] at hs
       obtain ⟨o, c, h1, h2, rfl⟩ := setOb_some hso
       rw [← hs.2, List.getElem?_set_ne hne]
    ·cases hs
  ·cases hs
theorem appX_at {h h' : List Ob} {es : Nat} {x : AV} {xs : List AV} (hs : appX h es x = some (xs, h')) {r : Nat} {q : Path} (hr : ∀ st p ss off len, x = .sl r st p ss off len → ¬ p <+: q) : (h'[r]?).map (atO q) = (h[r]?).map (atO q) := by
 unfold appX at hs
 split at hs
 ·simp only [Option.some.injEq, Prod.mk.injEq] at hs; rw [hs.2]
 ·simp only [Option.some.injEq, Prod.mk.injEq] at hs; rw [hs.2]
 ·simp only [Option.some.injEq, Prod.mk.injEq] at hs; rw [hs.2]
 ·rename_i r0 st p ss off len
  split at hs
  ·split at hs
   ·cases hso : setOb h r0 p .gone false with
    | none => simp [hso] at hs
    | some hh =>
      simp only [hso, Option.map_some, Option.some.injEq, Prod.mk.injEq] at hs
      rw [← hs.2]
      by_cases e : r0 = r
      ·subst e; exact at_setOb gone_ne hso (hr _ _ _ _ _ rfl) _
      ·obtain ⟨o, c, h1, h2, rfl⟩ := setOb_some hso
       rw [List.getElem?_set_ne e]
   ·cases hs
  ·cases hs
 ·cases hs
theorem app_at {b s es bytes : Nat} {x y : Opd} {σ : St} {v : AV} {h' : List Ob} (hx : ax b (.app s es bytes x y) σ = some (v, h')) {r : Nat} {q : Path} (h1 : r ≠ b + s) (h2 : r ∉ rootsOf (σ.get y)) (h3 : ∀ st p ss off len, σ.get x = .sl r st p ss off len → ¬ p <+: q) :
 (h'[r]?).map (atO q) = (σ.h[r]?).map (atO q) := by
 simp only [ax] at hx
 cases hy : appY σ.h es (σ.get y) with
 | none => simp [hy] at hx
 | some py =>
   obtain ⟨ys, ha⟩ := py
   simp only [hy] at hx
   cases hxx : appX ha es (σ.get x) with
   | none => simp [hxx] at hx
   | some px =>
     obtain ⟨xs, hb⟩ := px
     simp only [hxx] at hx
     have e1 := appY_at hy h2
     have e2 := appX_at hxx h3
     rw [e1] at e2
     split at hx
     ·split at hx <;> first | (simp only [Option.some.injEq, Prod.mk.injEq] at hx; rw [← hx.2]; exact e2) | cases hx
     ·split at hx
      ·cases hn : newOb hb (b + s) (.own es (xs ++ ys)) with
       | none => simp [hn] at hx
       | some pn =>
         obtain ⟨hc, st⟩ := pn
         simp only [hn, Option.some.injEq, Prod.mk.injEq] at hx
         obtain ⟨o, _, _, _, rfl⟩ := newOb_some hn
         rw [← hx.2, List.getElem?_set_ne (fun e => h1 e.symm)]
         exact e2
      ·cases hx
theorem node_at_shape {h k : List Ob} {r st ss : Nat} {p : Path} {es : Nat} {xs : List AV} (hn : node h r st p ss = some (.own es xs)) (ha : (k[r]?).map (atO p) = (h[r]?).map (atO p)) : ∃ ys, node k r st p ss = some (.own es ys) ∧ ys.length = xs.length := by
 rw [node_eq] at hn
 obtain ⟨o, h1, h2, h3, h4⟩ := hn
 rw [h1, Option.map_some] at ha
 cases hk : k[r]? with
 | none => simp [hk] at ha
 | some o' =>
   simp only [hk, Option.map_some, Option.some.injEq, atO, Prod.mk.injEq, h4, Option.bind_some, shp] at ha
   obtain ⟨a1, a2, a3⟩ := ha
   cases hnv : nav o'.c p with
   | none => simp [hnv] at a3
   | some nd =>
     simp only [hnv, Option.bind_some] at a3
     cases nd <;> simp only [shp, reduceCtorEq, Option.some.injEq, Prod.mk.injEq] at a3
     rename_i es' ys
     obtain ⟨rfl, hl⟩ := a3
     refine ⟨ys, node_eq.2 ⟨o', hk, by rw [a1]; exact h2, ?_, hnv⟩, hl⟩
     rcases h3 with h3 | h3
     ·exact .inl h3
     ·exact .inr (by rw [a2]; exact h3)
def rdLoc (i : Ins) (σ : St) : Option (Nat × Path) :=
 match i with
 | .fad _ x => match σ.get x with
   | .ptr r _ p _ _ _ => some (r, p)
   | _ => none
 | .iad _ x _ => match σ.get x with
   | .sl r _ p _ _ _ => some (r, p)
   | _ => none
 | _ => none
theorem rd_at {b : Nat} {i : Ins} {σ τ : St} {r : Nat} {p : Path} (hl : rdLoc i σ = some (r, p)) (ho : ∀ x ∈ i.opds, τ.get x = σ.get x) {v : AV} {h' : List Ob} (hx : ax b i σ = some (v, h')) (ha : (τ.h[r]?).map (atO p) = (σ.h[r]?).map (atO p)) : h' = σ.h ∧ ax b i τ = some (v, τ.h) := by
 cases i <;> simp only [rdLoc, reduceCtorEq] at hl
 case fad off x =>
  have hox := ho x (by simp [Ins.opds])
  simp only [ax, hox] at hx ⊢
  cases hg : σ.get x <;> simp only [hg, reduceCtorEq, Option.some.injEq, Prod.mk.injEq] at hl hx ⊢
  rename_i r' st p' ss i j
  obtain ⟨e1, e2⟩ := hl
  rw [← e1, ← e2] at ha
  cases hn : node σ.h r' st p' ss with
  | none => simp [hn] at hx
  | some nd =>
    cases nd <;> simp only [hn, reduceCtorEq, Option.some.injEq, Prod.mk.injEq] at hx
    obtain ⟨ys, e3, _⟩ := node_at_shape hn ha
    rw [e3]
    exact ⟨hx.2.symm, by simp only [hx.1]⟩
 case iad es x k =>
  have hox := ho x (by simp [Ins.opds])
  have hok := ho k (by simp [Ins.opds])
  simp only [ax, hox, hok] at hx ⊢
  cases hg : σ.get x <;> simp only [hg, reduceCtorEq, Option.some.injEq, Prod.mk.injEq] at hl hx ⊢
  rename_i r' st p' ss off len
  obtain ⟨e1, e2⟩ := hl
  rw [← e1, ← e2] at ha
  cases hk : σ.get k <;> simp only [hk, reduceCtorEq] at hx ⊢
  rename_i kk n
  split at hx
  ·rename_i hc
   rw [if_pos hc]
   cases hn : node σ.h r' st p' ss with
   | none => simp [hn] at hx
   | some nd =>
     cases nd <;> simp only [hn, reduceCtorEq] at hx
     obtain ⟨ys, e3, _⟩ := node_at_shape hn ha
     rw [e3]
     simp only
     split at hx
     ·rename_i he
      rw [if_pos he]
      simp only [Option.some.injEq, Prod.mk.injEq] at hx
      exact ⟨hx.2.symm, by rw [hx.1]⟩
     ·cases hx
  ·cases hx
theorem ld_at {b : Nat} {a : Opd} {σ τ : St} {r st ss i j es : Nat} {p : Path} {xs : List AV} (hg : σ.get a = .ptr r st p ss i j) (hg2 : τ.get a = .ptr r st p ss i j) (hc : nodeAt σ.h r (p ++ [(i, j)]) = some (.own es xs)) {v : AV} {h' : List Ob} (hx : ax b (.ld false 1 a) σ = some (v, h'))
 (ha : (τ.h[r]?).map (atO (p ++ [(i, j)])) = (σ.h[r]?).map (atO (p ++ [(i, j)]))) : h' = σ.h ∧ ax b (.ld false 1 a) τ = some (v, τ.h) := by
 have key : ∀ {h : List Ob} {o : Ob} {ys : List AV}, h[r]? = some o → o.st = st → (p = [] ∨ o.ss = ss) → nav o.c (p ++ [(i, j)]) = some (.own es ys) →
  ∃ (es1 : Nat) (xs1 : List AV) (e : AV), node h r st p ss = some (.own es1 xs1) ∧ xs1[i]? = some e ∧ j + 1 ≤ e.cells.length ∧ (e.cells.drop j).take 1 = [AV.own es ys] := by
  intro h o ys h1 h2 h3 h4
  obtain ⟨nd, g1, g2⟩ := nav_split p [(i, j)] _ _ h4
  obtain ⟨es', xs', e, c, rfl, he, hc, hq⟩ := (nav_cons ..).1 g2
  rw [nav_nil] at hq
  cases hq
  have hj : j < e.cells.length := List.lt_of_some hc
  refine ⟨es', xs', e, node_eq.2 ⟨o, h1, h2, h3, g1⟩, he, hj, ?_⟩
  rw [List.drop_eq_getElem_cons hj]
  rw [List.getElem?_eq_getElem hj] at hc
  simp only [Option.some.injEq] at hc
  simp [hc]
 simp only [ax, hg, hg2] at hx ⊢
 obtain ⟨o, h1, h4⟩ := nodeAt_eq.1 hc
 cases hn : node σ.h r st p ss with
 | none => simp [hn] at hx
 | some nd =>
   obtain ⟨o2, q1, q2, q3, _⟩ := node_eq.1 hn
   rw [h1] at q1; cases q1
   obtain ⟨es1, xs1, e, k1, k2, k3, k4⟩ := key h1 q2 q3 h4
   rw [h1] at ha
   cases hk : τ.h[r]? with
   | none => simp [hk] at ha
   | some o' =>
     simp only [hk, Option.map_some, Option.some.injEq, atO, Prod.mk.injEq, h4, Option.bind_some, shp] at ha
     obtain ⟨a1, a2, a3⟩ := ha
     cases hnv : nav o'.c (p ++ [(i, j)]) with
     | none => simp [hnv] at a3
     | some nd' =>
       simp only [hnv, Option.bind_some] at a3
       cases nd' <;> simp only [shp, reduceCtorEq, Option.some.injEq, Prod.mk.injEq] at a3
       rename_i es' ys
       obtain ⟨rfl, hl⟩ := a3
       obtain ⟨es2, xs2, e', m1, m2, m3, m4⟩ := key hk (by rw [a1]; exact q2) (by rw [a2]; exact q3) hnv
       rw [k1] at hn; cases hn
       simp only [k1, h1, k2, k3, if_true, k4, outL, outv, Bool.false_eq_true, if_false, Option.some.injEq, Prod.mk.injEq] at hx
       simp only [m1, m2, m3, if_true, m4, outL, outv, Bool.false_eq_true, if_false, Option.some.injEq, Prod.mk.injEq, and_true]
       exact ⟨hx.2.symm, by rw [hl, a2]; exact hx.1⟩
end Go.Mw
/- Regions whose order is drawn. -/
namespace Go.Mw
def look1 (kk : KK) (z : AV) (es : List (AV × AV)) (k : AV) : Option AV := match findK kk k es with
 | some (some i) => (es[i]?).map (·.2)
 | some none => some z
 | none => none
def viewO (kk : KK) (z : AV) (p : Path) (o : Ob) : Nat × Nat × Option (AV → Option AV) := (o.st, o.ss, ((nav o.c p).bind mapOf).map (look1 kk z))
inductive Loc where
 | tmp (n : Nat) | root (r : Nat) | lps | view (r : Nat) (p : Path) (kk : KK) (z : AV) | shp (r : Nat) (q : Path)
inductive Vl where
 | t (o : Option AV) | r (o : Option Ob) | l (x : List Lp) | v  (o : Option (Nat × Nat × Option (AV → Option AV))) | a (o : Option (Nat × Nat × Option (Nat × Nat)))
def valS (σ : St) : Loc → Vl
 | .tmp n => .t σ.t[n]?
 | .root r => .r σ.h[r]?
 | .lps => .l σ.lp
 | .view r p kk z => .v ((σ.h[r]?).map (viewO kk z p))
 | .shp r q => .a ((σ.h[r]?).map (atO q))
theorem valS_ext {σ τ : St} (h : ∀ x, valS σ x = valS τ x) : σ = τ := by
 obtain ⟨t, hh, l⟩ := σ
 obtain ⟨t', hh', l'⟩ := τ
 have h1 : t = t' := List.ext_getElem? fun n => by have := h (.tmp n); simpa [valS] using this
 have h2 : hh = hh' := List.ext_getElem? fun n => by have := h (.root n); simpa [valS] using this
 have h3 : l = l' := by have := h .lps; simpa [valS] using this
 rw [h1, h2, h3]
def ropE (f : Ins → Nat → St → Option (AV × St)) (b : Nat) (r : Rop) (σ : St) : Option St :=
 match wantedO r.g σ with
 | some true => match f r.i b σ with
   | some (v, σ1) => some (σ1.put r.d v)
   | none => none
 | some false => some (σ.put r.d (.tup []))
 | none => none
theorem opsE_ropE (f : Ins → Nat → St → Option (AV × St)) (b : Nat) (r : Rop) (rs : List Rop) (σ : St) : opsE f (r :: rs) b σ = match ropE f b r σ with
 | some σ1 => opsE f rs b σ1
 | none => none := by
 simp only [opsE, ropE]
 cases wantedO r.g σ with
 | none => rfl
 | some w =>
   cases w with
   | false => rfl
   | true => simp only []; cases f r.i b σ with
     | none => rfl
     | some p => rfl
def footR (G : Prg) (b : Nat) (r : Rop) (σ : St) : Option (List Nat) :=
 match wantedO r.g σ with
 | some true => foot G b r.i σ
 | _ => some []
theorem drwE_ropE (G : Prg) (f : Ins → Nat → St → Option (AV × St)) (b : Nat) (r : Rop) (rs : List Rop) (σ : St) {σ' : St} {fs : List (Option (List Nat))} (h : drwE G f (r :: rs) b σ = some (σ', fs)) :
 ∃ σ1 fs', ropE f b r σ = some σ1 ∧ drwE G f rs b σ1 = some (σ', fs') ∧ fs = footR G b r σ :: fs' := by
 simp only [drwE] at h
 split at h
 ·rename_i hw
  split at h
  ·rename_i v σ1 hf
   split at h
   ·rename_i σ2 fs' hd
    simp only [Option.some.injEq, Prod.mk.injEq] at h
    obtain ⟨rfl, rfl⟩ := h
    exact ⟨σ1.put r.d v, fs', by simp only [ropE, hw, hf], hd, by simp only [footR, hw]⟩
   ·cases h
  ·cases h
 ·rename_i hw
  split at h
  ·rename_i σ2 fs' hd
   simp only [Option.some.injEq, Prod.mk.injEq] at h
   obtain ⟨rfl, rfl⟩ := h
   exact ⟨σ.put r.d (.tup []), fs', by simp only [ropE, hw], hd, by simp only [footR, hw]⟩
  ·cases h
 ·cases h
theorem drwE_run (G : Prg) (f : Ins → Nat → St → Option (AV × St)) (b : Nat) : ∀ (rs : List Rop) (σ σ' : St) (fs : List (Option (List Nat))), drwE G f rs b σ = some (σ', fs) →
 ∃ st : Nat → St, st 0 = σ ∧ st rs.length = σ' ∧ fs.length = rs.length ∧ (∀ k r, rs[k]? = some r → ropE f b r (st k) = some (st (k + 1)) ∧ fs[k]? = some (footR G b r (st k))) ∧ (∀ k r, rs[k]? = some r → wantedO r.g (st k) = some true → (sftE f rs b σ)[k]? = some (sftI b r.i (st k))) := by
 intro rs
 induction rs with
 | nil =>
   intro σ σ' fs h
   simp only [drwE, Option.some.injEq, Prod.mk.injEq] at h
   obtain ⟨rfl, rfl⟩ := h
   exact ⟨fun _ => σ, rfl, rfl, rfl, fun k r h => by simp at h, fun k r h => by simp at h⟩
 | cons r rs ih =>
   intro σ σ' fs h
   obtain ⟨σ1, fs', h1, h2, rfl⟩ := drwE_ropE G f b r rs σ h
   obtain ⟨st, s0, sN, hl, hst, hsf⟩ := ih σ1 σ' fs' h2
   refine ⟨fun k => match k with | 0 => σ | k + 1 => st k, rfl, sN, by simp [hl], fun k r' hk => ?_, fun k r' hk hw => ?_⟩
   ·cases k with
    | zero => simp at hk; subst hk; exact ⟨by rw [h1, ← s0], rfl⟩
    | succ k => exact hst k r' (by simpa using hk)
   ·have hs : ∀ w, wantedO r.g σ = some w → sftE f (r :: rs) b σ = (if w then sftI b r.i σ else .no) :: sftE f rs b σ1 := by
     intro w hw
     simp only [ropE, hw] at h1
     simp only [sftE, hw]
     cases w with
     | false => simp only [Option.some.injEq] at h1; subst h1; rfl
     | true =>
       simp only at h1 ⊢
       cases hf : f r.i b σ with
       | none => simp [hf] at h1
       | some p => simp only [hf, Option.some.injEq] at h1; subst h1; rfl
    cases k with
    | zero => simp at hk; subst hk; simp only at hw; rw [hs _ hw]; rfl
    | succ k =>
      cases hw0 : wantedO r.g σ with
      | none => simp [ropE, hw0] at h1
      | some w => rw [hs _ hw0]; exact hsf k r' (by simpa using hk) hw
end Go.Mw
/- One operation of a region depends on what it names alone. -/
namespace Go.Mw
theorem callF_t {G : Prg} {n : Nat} {f : FuncId} {xs : List AV} {b : Nat} {ss : List Nat} {σ σ' : St} {v : AV} (t : List AV) (h : callF G n f xs b ss σ = some (v, σ')) : callF G n f xs b ss { σ with t } = some (v, { σ' with t }) ∧ σ'.t = σ.t := by
 cases n with
 | zero => simp [callF] at h
 | succ n =>
   simp only [callF] at h ⊢
   cases hF : G f with
   | none => simp [hF] at h
   | some F =>
     simp only [hF] at h ⊢
     split at h
     ·rename_i hl
      rw [if_pos hl]
      split at h
      ·rename_i hp
       rw [if_pos hp]
       by_cases hsp : splits F (treeBL 0 σ.h xs) = true
       ·rw [if_pos hsp] at h ⊢
        split at h
        ·split at h
         ·rename_i hv
          simp only [Option.some.injEq, Prod.mk.injEq] at h
          obtain ⟨rfl, rfl⟩ := h
          exact ⟨by first | rfl | simp only [hv, if_true], rfl⟩
         ·cases h
        ·cases h
       rw [if_neg hsp] at h ⊢
       split at h
       ·rename_i rr σ1 hr
        try simp only [hr]
        split at h
        ·rename_i v1 hh hg
         simp only [Option.some.injEq, Prod.mk.injEq] at h
         obtain ⟨rfl, rfl⟩ := h
         exact ⟨by simp only [hg], rfl⟩
        ·cases h
       ·cases h
      ·rename_i hp
       rw [if_neg hp]
       split at h
       ·rename_i rr σ1 hr
        try simp only [hr]
        split at h
        ·rename_i v1 hh hg
         simp only [Option.some.injEq, Prod.mk.injEq] at h
         obtain ⟨rfl, rfl⟩ := h
         exact ⟨by simp only [hg], rfl⟩
        ·cases h
       ·cases h
     ·cases h
theorem yieldF_t {G : Prg} {n l : Nat} {xs : List AV} {σ σ' : St} {v : AV} (t : List AV) (h : yieldF G n l xs σ = some (v, σ')) : yieldF G n l xs { σ with t } = some (v, { σ' with t }) ∧ σ'.t = σ.t := by
 cases n with
 | zero => simp [yieldF] at h
 | succ n =>
   simp only [yieldF] at h ⊢
   cases hl : σ.lp[l]? with
   | none => simp [hl] at h
   | some lp =>
     simp only [hl] at h ⊢
     split at h
     ·rename_i hc
      rw [if_pos hc]
      split at h
      ·rename_i σ1 h1
       try simp only [h1]
       split at h
       ·rename_i lp1 h2
        try simp only [h2]
        split at h
        ·rename_i hc2
         rw [if_pos hc2]
         split at h
         ·rename_i e σ2 h3
          try simp only [h3]
          split at h
          ·rename_i lp2 h4
           try simp only [h4]
           simp only [Option.some.injEq, Prod.mk.injEq] at h
           obtain ⟨rfl, rfl⟩ := h
           exact ⟨rfl, rfl⟩
          ·cases h
         ·cases h
        ·cases h
       ·cases h
      ·cases h
     ·cases h
def footL (fo : Option (List Nat)) : Loc → Prop
 | .tmp _ => False
 | .root r => match fo with
   | some fs => r ∈ fs
   | none => True
 | .lps => fo = none
 | .view r _ _ _ => match fo with
   | some fs => r ∈ fs
   | none => True
 | .shp r _ => match fo with
   | some fs => r ∈ fs
   | none => True
theorem evO_loc {G : Prg} {n : Nat} {i : Ins} {b : Nat} {σ σ1 τ : St} {v : AV} (hx : evO G n i b σ = some (v, σ1)) (ho : ∀ x ∈ i.opds, τ.get x = σ.get x) (hf : ∀ x, footL (foot G b i σ) x → valS τ x = valS σ x) :
 ∃ τ1, evO G n i b τ = some (v, τ1) ∧ τ1.t = τ.t ∧ σ1.t = σ.t ∧ (∀ x, footL (foot G b i σ) x → valS τ1 x = valS σ1 x) ∧ (∀ x, ¬ (footL (foot G b i σ) x ∧ i.calm = false) → valS τ1 x = valS τ x) := by
 -- what touches everything
 have whole : foot G b i σ = none → τ = { σ with t := τ.t } := by
  intro hn
  refine valS_ext (fun x => ?_)
  cases x with
  | tmp n => rfl
  | root r => exact hf (.root r) (by simp [footL, hn])
  | lps => exact hf .lps (by simp [footL, hn])
  | view r p kk z => exact hf (.view r p kk z) (by simp [footL, hn])
  | shp r kk => exact hf (.shp r kk) (by simp [footL, hn])
 have wholeFin : foot G b i σ = none → evO G n i b τ = some (v, { σ1 with t := τ.t }) → σ1.t = σ.t → i.calm = false → ∃ τ1, evO G n i b τ = some (v, τ1) ∧ τ1.t = τ.t ∧ σ1.t = σ.t ∧ (∀ x, footL (foot G b i σ) x → valS τ1 x = valS σ1 x) ∧ (∀ x, ¬ (footL (foot G b i σ) x ∧ i.calm = false) → valS τ1 x = valS τ x) := by
  intro hn h1 h2 h3
  refine ⟨_, h1, rfl, h2, fun x hx => ?_, fun x hx => ?_⟩
  ·cases x with
   | tmp n => exact hx.elim
   | root r => rfl
   | lps => rfl
   | view r p kk z => rfl
   | shp r kk => rfl
  ·cases x with
   | tmp n => rfl
   | root r => exact absurd ⟨by simp [footL, hn], h3⟩ hx
   | lps => exact absurd ⟨by simp [footL, hn], h3⟩ hx
   | view r p kk z => exact absurd ⟨by simp [footL, hn], h3⟩ hx
   | shp r kk => exact absurd ⟨by simp [footL, hn], h3⟩ hx
 -- what touches named roots
 have named : ∀ (rs : List Nat) (k' : List Ob), foot G b i σ = some rs → evO G n i b τ = some (v, { τ with h := k' }) → Same rs σ1.h τ.h k' → σ1.t = σ.t → (i.calm = true → k' = τ.h) → ∃ τ1, evO G n i b τ = some (v, τ1) ∧ τ1.t = τ.t ∧ σ1.t = σ.t ∧ (∀ x, footL (foot G b i σ) x → valS τ1 x = valS σ1 x) ∧ (∀ x, ¬ (footL (foot G b i σ) x ∧ i.calm = false) → valS τ1 x = valS τ x) := by
  intro rs k' hn h1 h2 h3 h4
  refine ⟨_, h1, rfl, h3, fun x hx => ?_, fun x hx => ?_⟩
  ·cases x with
   | tmp n => exact hx.elim
   | root r => simp only [valS]; rw [h2.1 r (by simpa [footL, hn] using hx)]
   | lps => simp [footL, hn] at hx
   | view r p kk z => simp only [valS]; rw [h2.1 r (by simpa [footL, hn] using hx)]
   | shp r kk => simp only [valS]; rw [h2.1 r (by simpa [footL, hn] using hx)]
  ·cases x with
   | tmp n => rfl
   | root r =>
     simp only [valS]
     cases hc : i.calm with
     | true => rw [h4 hc]
     | false =>
       rw [h2.2 r (fun hr => hx ⟨by simp only [footL, hn]; exact hr, hc⟩)]
   | lps => rfl
   | view r p kk z =>
     simp only [valS]
     cases hc : i.calm with
     | true => rw [h4 hc]
     | false =>
       rw [h2.2 r (fun hr => hx ⟨by simp only [footL, hn]; exact hr, hc⟩)]
   | shp r kk =>
     simp only [valS]
     cases hc : i.calm with
     | true => rw [h4 hc]
     | false =>
       rw [h2.2 r (fun hr => hx ⟨by simp only [footL, hn]; exact hr, hc⟩)]
 have alike : ∀ rs, foot G b i σ = some rs → Alike rs σ.h τ.h := by
  intro rs hn r hr
  have := hf (.root r) (by simp only [footL, hn]; exact hr)
  simpa [valS] using this
 cases n with
 | zero => simp [evO] at hx
 | succ n =>
   have plainOp : (∀ τ : St, evO G (n + 1) i b τ = match ax b i τ with
    | some (v, h) => some (v, { τ with h })
    | none => none) → (foot G b i σ = if i.dry then some [] else some (i.sites.map (b + ·) ++ rootsL (σ.gets i.opds))) → ∃ τ1, evO G (n + 1) i b τ = some (v, τ1) ∧ τ1.t = τ.t ∧ σ1.t = σ.t ∧ (∀ x, footL (foot G b i σ) x → valS τ1 x = valS σ1 x) ∧ (∀ x, ¬ (footL (foot G b i σ) x ∧ i.calm = false) → valS τ1 x = valS τ x) := by
    intro hev hft
    rw [hev] at hx
    cases hax : ax b i σ with
    | none => simp [hax] at hx
    | some p =>
      obtain ⟨v1, h1⟩ := p
      simp only [hax, Option.some.injEq, Prod.mk.injEq] at hx
      obtain ⟨rfl, rfl⟩ := hx
      by_cases hd : i.dry = true
      ·rw [if_pos hd] at hft
       obtain ⟨g, g1, g2⟩ := dry_val hd b σ τ ho
       rw [hax] at g1
       cases g with
       | none => cases g1
       | some u =>
         simp only [Option.map_some, Option.some.injEq, Prod.mk.injEq] at g1
         obtain ⟨rfl, rfl⟩ := g1
         exact named [] τ.h hft (by rw [hev, g2]; rfl) ⟨fun r hr => (by cases hr), fun _ _ => rfl⟩ rfl (fun _ => rfl)
      ·rw [if_neg hd] at hft
       have hal := alike _ hft
       have hnm : ∀ x ∈ i.opds, Named (i.sites.map (b + ·) ++ rootsL (σ.gets i.opds)) (σ.get x) := by
        intro x hx r hr
        refine List.mem_append.2 (.inr (rootsL_mem (x := σ.get x) ?_ hr))
        exact List.mem_map.2 ⟨x, hx, rfl⟩
       cases hc : i.calm with
       | true =>
         obtain ⟨g, g1, g2⟩ := calm_val hc b σ τ hal ho hnm
         rw [hax] at g1
         cases g with
         | none => cases g1
         | some u =>
           simp only [Option.map_some, Option.some.injEq, Prod.mk.injEq] at g1
           obtain ⟨rfl, rfl⟩ := g1
           have := named _ τ.h hft (by rw [hev, g2]; rfl) (Same.refl hal) rfl (fun _ => rfl)
           rw [hc] at this; exact this
       | false =>
         obtain ⟨k', e1, e2⟩ := wr_loc hc hal ho hnm (fun s hs => List.mem_append.2 (.inl (List.mem_map.2 ⟨s, hs, rfl⟩))) hax
         have := named _ k' hft (by rw [hev, e1]) e2 rfl (fun h => by rw [hc] at h; cases h)
         rw [hc] at this; exact this
   have callOp : ∀ (f : FuncId) (xs : List AV) (ss : List Nat), evO G (n + 1) i b σ = callF G n f xs b ss σ → evO G (n + 1) i b τ = callF G n f xs b ss τ → (foot G b i σ = match G f with
    | some F => if F.pure then some (ss.map (b + ·) ++ rootsL xs) else none
    | none => none) → i.calm = false → ∃ τ1, evO G (n + 1) i b τ = some (v, τ1) ∧ τ1.t = τ.t ∧ σ1.t = σ.t ∧ (∀ x, footL (foot G b i σ) x → valS τ1 x = valS σ1 x) ∧ (∀ x, ¬ (footL (foot G b i σ) x ∧ i.calm = false) → valS τ1 x = valS τ x) := by
    intro f xs ss h1 h2 hft hc
    rw [h1] at hx
    have nonp : foot G b i σ = none → ∃ τ1, evO G (n + 1) i b τ = some (v, τ1) ∧ τ1.t = τ.t ∧ σ1.t = σ.t ∧ (∀ x, footL (foot G b i σ) x → valS τ1 x = valS σ1 x) ∧ (∀ x, ¬ (footL (foot G b i σ) x ∧ i.calm = false) → valS τ1 x = valS τ x) := by
     intro hn
     obtain ⟨k1, k2⟩ := callF_t τ.t hx
     exact wholeFin hn (by rw [h2, whole hn]; exact k1) k2 hc
    cases hG : G f with
    | none => exact nonp (by rw [hft, hG])
    | some F =>
      cases hp : F.pure with
      | false => exact nonp (by rw [hft, hG]; simp [hp])
      | true =>
        have hft' : foot G b i σ = some (ss.map (b + ·) ++ rootsL xs) := by rw [hft, hG]; simp [hp]
        obtain ⟨k', e1, e2, e3⟩ := callF_loc hG hp (alike _ hft') (fun r hr => List.mem_append.2 (.inr hr)) (fun s hs => List.mem_append.2 (.inl (List.mem_map.2 ⟨s, hs, rfl⟩))) hx
        exact named _ k' hft' (by rw [h2]; exact e1) e2 (by rw [e3]) (fun h => by rw [hc] at h; cases h)
   cases i
   case call f az' ss => exact callOp f (σ.gets az') ss rfl (by simp only [evO]; rw [show τ.gets az' = σ.gets az' from gets_congr ho]) rfl rfl
   case calv x az' ss =>
    have hxx : τ.get x = σ.get x := ho x (by simp [Ins.opds])
    have hgg : τ.gets az' = σ.gets az' := gets_congr (fun y hy => ho y (by simp [Ins.opds, hy]))
    cases hg : σ.get x
    case fn f cs => exact callOp f (σ.gets az' ++ cs) ss (by simp only [evO, hg]) (by simp only [evO, hxx, hg, hgg]) (by simp only [foot, hg]; cases G f <;> rfl) rfl
    case yld l =>
     have hn : foot G b (.calv x az' ss) σ = none := by simp only [foot, hg]
     have h1 : evO G (n + 1) (.calv x az' ss) b σ = yieldF G n l (σ.gets az') σ := by simp only [evO, hg]
     rw [h1] at hx
     obtain ⟨k1, k2⟩ := yieldF_t τ.t hx
     refine wholeFin hn ?_ k2 rfl
     simp only [evO, hxx, hg, hgg]
     rw [whole hn]; exact k1
    all_goals (simp [evO, hg] at hx)
   all_goals exact plainOp (fun _ => rfl) rfl
end Go.Mw
