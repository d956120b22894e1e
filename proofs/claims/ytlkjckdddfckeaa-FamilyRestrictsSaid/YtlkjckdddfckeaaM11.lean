/- What writes depends on, and writes, what it names alone. -/
import Derived.Test.YtlkjckdddfckeaaM10
namespace Go.Mw
set_option linter.unusedVariables false
set_option linter.unusedSimpArgs false

section
variable {rs : List Nat} {h k : List Ob}

theorem appY_loc (ha : Alike rs h k) {es : Nat} {y : AV} (hn : Named rs y) {ys : List AV} {h1 : List Ob} (hs : appY h es y = some (ys, h1)) : ∃ k1, appY k es y = some (ys, k1) ∧ Same rs h1 k k1 := by
  cases y <;> simp only [appY, reduceCtorEq] at hs ⊢
  case nils => simp only [Option.some.injEq, Prod.mk.injEq] at hs; obtain ⟨rfl, rfl⟩ := hs; exact ⟨k, rfl, Same.refl ha⟩
  case emp => simp only [Option.some.injEq, Prod.mk.injEq] at hs; obtain ⟨rfl, rfl⟩ := hs; exact ⟨k, rfl, Same.refl ha⟩
  case ne => simp only [Option.some.injEq, Prod.mk.injEq] at hs; obtain ⟨rfl, rfl⟩ := hs; exact ⟨k, rfl, Same.refl ha⟩
  case lst xs =>
    split at hs
    · rename_i hc
      simp only [Option.some.injEq, Prod.mk.injEq] at hs; obtain ⟨rfl, rfl⟩ := hs
      exact ⟨k, by rw [if_pos hc], Same.refl ha⟩
    · cases hs
  case sl r st p ss off len =>
    have hr := hn r (by simp [rootsOf])
    rw [node_loc ha hr]
    cases hnd : node h r st p ss with
    | none => simp [hnd] at hs
    | some nd =>
      simp only [hnd] at hs
      cases nd <;> simp only [reduceCtorEq] at hs ⊢
      split at hs
      · rename_i hc
        rw [if_pos hc]
        simp only [Option.some.injEq, Prod.mk.injEq] at hs; obtain ⟨rfl, rfl⟩ := hs
        exact ⟨k, rfl, Same.refl ha⟩
      · rename_i hc
        rw [if_neg hc]
        split at hs
        · rename_i hc2
          rw [if_pos hc2]
          cases hso : setOb h r p .gone false with
          | none => simp [hso] at hs
          | some hh =>
            simp only [hso, Option.map_some, Option.some.injEq, Prod.mk.injEq] at hs
            obtain ⟨rfl, rfl⟩ := hs
            obtain ⟨k', e1, e2⟩ := setOb_loc ha hr hso
            exact ⟨k', by rw [e1]; rfl, e2⟩
        · cases hs
theorem appX_loc (ha : Alike rs h k) {es : Nat} {x : AV} (hn : Named rs x) {xs : List AV} {h1 : List Ob} (hs : appX h es x = some (xs, h1)) : ∃ k1, appX k es x = some (xs, k1) ∧ Same rs h1 k k1 := by
  unfold appX at hs ⊢
  split at hs
  · simp only [Option.some.injEq, Prod.mk.injEq] at hs; obtain ⟨rfl, rfl⟩ := hs; exact ⟨k, rfl, Same.refl ha⟩
  · simp only [Option.some.injEq, Prod.mk.injEq] at hs; obtain ⟨rfl, rfl⟩ := hs; exact ⟨k, rfl, Same.refl ha⟩
  · simp only [Option.some.injEq, Prod.mk.injEq] at hs; obtain ⟨rfl, rfl⟩ := hs; exact ⟨k, rfl, Same.refl ha⟩
  · rename_i r st p ss off len
    have hr := hn r (by simp [rootsOf])
    simp only [node_loc ha hr]
    cases hnd : node h r st p ss with
    | none => simp [hnd] at hs
    | some nd =>
      simp only [hnd] at hs
      cases nd <;> simp only [reduceCtorEq] at hs ⊢
      split at hs
      · rename_i hc
        rw [if_pos hc]
        cases hso : setOb h r p .gone false with
        | none => simp [hso] at hs
        | some hh =>
          simp only [hso, Option.map_some, Option.some.injEq, Prod.mk.injEq] at hs
          obtain ⟨rfl, rfl⟩ := hs
          obtain ⟨k', e1, e2⟩ := setOb_loc ha hr hso
          exact ⟨k', by rw [e1]; rfl, e2⟩
      · cases hs
  · cases hs
end

theorem wr_loc {i : Ins} (hi : i.calm = false) {b : Nat} {σ τ : St} {rs : List Nat} (ha : Alike rs σ.h τ.h) (ho : ∀ x ∈ i.opds, τ.get x = σ.get x) (hn : ∀ x ∈ i.opds, Named rs (σ.get x)) (hst : ∀ s ∈ i.sites, b + s ∈ rs) {v : AV} {h' : List Ob} (hx : ax b i σ = some (v, h')) :
    ∃ k', ax b i τ = some (v, k') ∧ Same rs h' τ.h k' := by
  cases i <;> (first | (simp [Ins.calm, Ins.dry] at hi; done) | skip) <;> simp only [Ins.opds, List.mem_cons, List.not_mem_nil, or_false, forall_eq_or_imp, forall_eq] at ho hn <;> (try simp only [Ins.sites, List.mem_cons, List.not_mem_nil, or_false, forall_eq] at hst)
  case alc s es z =>
    simp only [ax] at hx ⊢
    split at hx
    · rename_i hc
      rw [if_pos hc]
      cases hnew : newOb σ.h (b + s) (.own es [z]) with
      | none => simp [hnew] at hx
      | some p =>
        obtain ⟨hh, st⟩ := p
        simp only [hnew, Option.some.injEq, Prod.mk.injEq] at hx
        obtain ⟨rfl, rfl⟩ := hx
        obtain ⟨k', e1, e2⟩ := newOb_loc ha hst hnew
        exact ⟨k', by rw [e1], e2⟩
    · cases hx
  case mkm s =>
    simp only [ax] at hx ⊢
    cases hnew : newOb σ.h (b + s) (.ownm []) with
    | none => simp [hnew] at hx
    | some p =>
      obtain ⟨hh, st⟩ := p
      simp only [hnew, Option.some.injEq, Prod.mk.injEq] at hx
      obtain ⟨rfl, rfl⟩ := hx
      obtain ⟨k', e1, e2⟩ := newOb_loc ha hst hnew
      exact ⟨k', by rw [e1], e2⟩
  case box s es x =>
    simp only [ax, ho] at hx ⊢
    split at hx
    · rename_i hc
      rw [if_pos hc]
      cases htv : takeVal σ.h es (σ.get x) with
      | none => simp [htv] at hx
      | some p =>
        obtain ⟨c, h1⟩ := p
        simp only [htv] at hx
        cases hnew : newOb h1 (b + s) (.own es [c]) with
        | none => simp [hnew] at hx
        | some p =>
          obtain ⟨hh, st⟩ := p
          simp only [hnew, Option.some.injEq, Prod.mk.injEq] at hx
          obtain ⟨rfl, rfl⟩ := hx
          obtain ⟨k1, e1, e2⟩ := takeVal_loc ha hn htv
          obtain ⟨k2, e3, e4⟩ := newOb_loc e2.alike hst hnew
          exact ⟨k2, by rw [e1]; simp only [e3], e2.trans e4⟩
    · cases hx
  case bsl s es n xs =>
    have hg : τ.gets xs = σ.gets xs := gets_congr ho
    simp only [ax, hg] at hx ⊢
    split at hx
    · rename_i hc
      rw [if_pos hc]
      by_cases hn0 : n = 0
      · rw [if_pos hn0] at hx ⊢
        simp only [Option.some.injEq, Prod.mk.injEq] at hx
        obtain ⟨rfl, rfl⟩ := hx
        exact ⟨_, rfl, Same.refl ha⟩
      rw [if_neg hn0] at hx ⊢
      cases htv : takeVals σ.h es (σ.gets xs) with
      | none => simp [htv] at hx
      | some p =>
        obtain ⟨c, h1⟩ := p
        simp only [htv] at hx
        cases hnew : newOb h1 (b + s) (.own es c) with
        | none => simp [hnew] at hx
        | some p =>
          obtain ⟨hh, st⟩ := p
          simp only [hnew, Option.some.injEq, Prod.mk.injEq] at hx
          obtain ⟨rfl, rfl⟩ := hx
          obtain ⟨k1, e1, e2⟩ := takeVals_loc _ ha (fun v hv => by
            simp only [St.gets, List.mem_map] at hv
            obtain ⟨x, hx, rfl⟩ := hv
            exact hn x hx) htv
          obtain ⟨k2, e3, e4⟩ := newOb_loc e2.alike hst hnew
          exact ⟨k2, by rw [e1]; simp only [e3], e2.trans e4⟩
    · cases hx
  case app s es bytes x y =>
    simp only [ax, ho.1, ho.2] at hx ⊢
    cases hy : appY σ.h es (σ.get y) with
    | none => simp [hy] at hx
    | some p =>
      obtain ⟨ys, h1⟩ := p
      simp only [hy] at hx
      cases hxx : appX h1 es (σ.get x) with
      | none => simp [hxx] at hx
      | some p =>
        obtain ⟨xs, h2⟩ := p
        simp only [hxx] at hx
        obtain ⟨k1, e1, e2⟩ := appY_loc ha hn.2 hy
        obtain ⟨k2, e3, e4⟩ := appX_loc e2.alike hn.1 hxx
        have e5 := e2.trans e4
        simp only [e1, e3]
        split at hx
        · rename_i hc
          rw [if_pos hc]
          split at hx <;> (first | cases hx | skip)
          all_goals exact ⟨k2, rfl, e5⟩
        · rename_i hc
          rw [if_neg hc]
          split at hx
          · rename_i hc2
            rw [if_pos hc2]
            cases hnew : newOb h2 (b + s) (.own es (xs ++ ys)) with
            | none => simp [hnew] at hx
            | some p =>
              obtain ⟨hh, st⟩ := p
              simp only [hnew, Option.some.injEq, Prod.mk.injEq] at hx
              obtain ⟨rfl, rfl⟩ := hx
              obtain ⟨k3, e6, e7⟩ := newOb_loc e5.alike hst hnew
              exact ⟨k3, by rw [e6], e5.trans e7⟩
          · cases hx
  case mks s es bytes z x y =>
    simp only [ax, ho.1, ho.2] at hx ⊢
    generalize σ.get x = gx at hx ⊢
    generalize σ.get y = gy at hx ⊢
    split at hx
    · rename_i l c
      split at hx
      · rename_i hc
        rw [if_pos hc]
        cases hnew : newOb σ.h (b + s) (.own es (List.replicate l.toNat z)) with
        | none => simp [hnew] at hx
        | some p =>
          obtain ⟨hh, st⟩ := p
          simp only [hnew, Option.some.injEq, Prod.mk.injEq] at hx
          obtain ⟨rfl, rfl⟩ := hx
          obtain ⟨k', e3, e4⟩ := newOb_loc ha hst hnew
          exact ⟨k', by rw [e3], e4⟩
      · cases hx
    · cases hx
  case sto n x y =>
    have hnx := hn.1
    simp only [ax, ho.1, ho.2] at hx ⊢
    cases hg : σ.get x <;> simp only [hg, reduceCtorEq] at hx ⊢
    rename_i r st p ss i j
    have hr : r ∈ rs := by rw [hg] at hnx; exact hnx r (by simp [rootsOf])
    rw [node_loc ha hr, vcells_loc ha hn.2]
    cases hnd : node σ.h r st p ss with
    | none => simp [hnd] at hx
    | some nd =>
      cases hvc : vcells σ.h n (σ.get y) with
      | none => cases nd <;> simp [hnd, hvc] at hx
      | some vs =>
        cases nd <;> simp only [hnd, hvc, reduceCtorEq] at hx ⊢
        cases htk : takeCells σ.h vs with
        | none => simp [htk] at hx
        | some q =>
          obtain ⟨cs, h1⟩ := q
          simp only [htk] at hx
          obtain ⟨k1, e1, e2⟩ := takeCells_loc vs ha (vcells_named hn.2 hvc) htk
          simp only [e1, nodeAt_loc e2.alike hr]
          cases hna : nodeAt h1 r p with
          | none => simp [hna] at hx
          | some nd2 =>
            cases nd2 <;> simp only [hna, reduceCtorEq] at hx ⊢
            rename_i es xs
            cases hxi : xs[i]? with
            | none => simp [hxi] at hx
            | some e =>
              simp only [hxi] at hx ⊢
              split at hx
              · rename_i hc
                rw [if_pos hc]
                cases hso : setOb h1 r p (.own es (xs.set i (setCells e j cs))) (cs.any isNode || ((e.cells.drop j).take n).any isNode) with
                | none => simp [hso] at hx
                | some hf =>
                  simp only [hso, Option.map_some, Option.some.injEq, Prod.mk.injEq] at hx
                  obtain ⟨rfl, rfl⟩ := hx
                  obtain ⟨k2, e3, e4⟩ := setOb_loc e2.alike hr hso
                  exact ⟨k2, by rw [e3]; rfl, e2.trans e4⟩
              · cases hx
  case mup kk x y z =>
    have hnx := hn.1
    simp only [ax, ho.1, ho.2.1, ho.2.2] at hx ⊢
    cases hg : σ.get x <;> simp only [hg, reduceCtorEq] at hx ⊢
    rename_i r st p ss
    have hr : r ∈ rs := by rw [hg] at hnx; exact hnx r (by simp [rootsOf])
    rw [node_loc ha hr]
    cases hnd : node σ.h r st p ss with
    | none => simp [hnd] at hx
    | some nd =>
      cases nd <;> simp only [hnd, reduceCtorEq] at hx ⊢
      rename_i es
      split at hx
      · rename_i hc
        rw [if_pos hc]
        cases hfk : findK kk (σ.get y) es with
        | none => simp [hfk] at hx
        | some o =>
          cases o with
          | some i =>
            simp only [hfk] at hx ⊢
            cases hei : es[i]? with
            | none => simp [hei] at hx
            | some kv =>
              obtain ⟨k', v'⟩ := kv
              simp only [hei] at hx ⊢
              cases hso : setOb σ.h r p (.ownm (es.set i (k', σ.get z))) false with
              | none => simp [hso] at hx
              | some hf =>
                simp only [hso, Option.map_some, Option.some.injEq, Prod.mk.injEq] at hx
                obtain ⟨rfl, rfl⟩ := hx
                obtain ⟨k2, e3, e4⟩ := setOb_loc ha hr hso
                exact ⟨k2, by rw [e3]; rfl, e4⟩
          | none =>
            simp only [hfk] at hx ⊢
            cases hso : setOb σ.h r p (.ownm (es ++ [(σ.get y, σ.get z)])) false with
            | none => simp [hso] at hx
            | some hf =>
              simp only [hso, Option.map_some, Option.some.injEq, Prod.mk.injEq] at hx
              obtain ⟨rfl, rfl⟩ := hx
              obtain ⟨k2, e3, e4⟩ := setOb_loc ha hr hso
              exact ⟨k2, by rw [e3]; rfl, e4⟩
      · cases hx
  case men kk z x y =>
    have hnx := hn.1
    simp only [ax, ho.1, ho.2] at hx ⊢
    cases hg : σ.get x <;> simp only [hg, reduceCtorEq] at hx ⊢
    rename_i r st p ss
    have hr : r ∈ rs := by rw [hg] at hnx; exact hnx r (by simp [rootsOf])
    rw [node_loc ha hr]
    cases hnd : node σ.h r st p ss with
    | none => simp [hnd] at hx
    | some nd =>
      cases nd <;> simp only [hnd, reduceCtorEq] at hx ⊢
      rename_i es
      split at hx
      · rename_i hc
        rw [if_pos hc]
        cases hfk : findK kk (σ.get y) es with
        | none => simp [hfk] at hx
        | some o =>
          cases o with
          | some i =>
            simp only [hfk] at hx ⊢
            cases hei : es[i]? with
            | none => simp [hei] at hx
            | some kv =>
              obtain ⟨k', v'⟩ := kv
              simp only [hei, Option.some.injEq, Prod.mk.injEq] at hx ⊢
              obtain ⟨rfl, rfl⟩ := hx
              exact ⟨τ.h, ⟨rfl, rfl⟩, Same.refl ha⟩
          | none =>
            simp only [hfk] at hx ⊢
            cases hso : setOb σ.h r p (.ownm (es ++ [(σ.get y, z)])) false with
            | none => simp [hso] at hx
            | some hf =>
              simp only [hso, Option.map_some, Option.some.injEq, Prod.mk.injEq] at hx
              obtain ⟨rfl, rfl⟩ := hx
              obtain ⟨k2, e3, e4⟩ := setOb_loc ha hr hso
              exact ⟨k2, by rw [e3]; rfl, e4⟩
      · cases hx
  case est x y z =>
    have hnx := hn.1
    simp only [ax, ho.1, ho.2.1, ho.2.2] at hx ⊢
    generalize σ.get x = gx at hnx hx ⊢
    generalize σ.get y = gy at hx ⊢
    split at hx
    · rename_i r st p ss r' st' p' ss' i
      have hr : r ∈ rs := hnx r (by simp [rootsOf])
      split at hx
      · rename_i hc
        rw [if_pos hc, node_loc ha hr]
        cases hnd : node σ.h r st p ss with
        | none => simp [hnd] at hx
        | some nd =>
          cases nd <;> simp only [hnd, reduceCtorEq] at hx ⊢
          rename_i es
          cases hei : es[i]? with
          | none => simp [hei] at hx
          | some kv =>
            obtain ⟨k', v'⟩ := kv
            simp only [hei] at hx ⊢
            cases hso : setOb σ.h r p (.ownm (es.set i (k', σ.get z))) false with
            | none => simp [hso] at hx
            | some hf =>
              simp only [hso, Option.map_some, Option.some.injEq, Prod.mk.injEq] at hx
              obtain ⟨rfl, rfl⟩ := hx
              obtain ⟨k2, e3, e4⟩ := setOb_loc ha hr hso
              exact ⟨k2, by rw [e3]; rfl, e4⟩
      · cases hx
    · cases hx
  all_goals (simp [ax] at hx)
end Go.Mw

/- A call by value depends on what it names alone. -/
namespace Go.Mw
set_option linter.unusedVariables false
set_option linter.unusedSimpArgs false

section
variable {rs : List Nat} {h k : List Ob}

mutual
theorem treeB_loc (ha : Alike rs h k) (B : Nat) : ∀ (v : AV), Named rs v → treeB B k v = treeB B h v
  | .agg cs, hn => by simp only [treeB]; rw [treeBL_loc ha B cs (fun r hr => hn r (by simpa [rootsOf] using hr))]
  | .tup cs, hn => by simp only [treeB]; rw [treeBL_loc ha B cs (fun r hr => hn r (by simpa [rootsOf] using hr))]
  | .fn f cs, hn => by simp only [treeB]; rw [treeBL_loc ha B cs (fun r hr => hn r (by simpa [rootsOf] using hr))]
  | .sl r st p ss off len, hn => by simp only [treeB, tree]; rw [node_loc ha (hn r (by simp [rootsOf]))]
  | .ptr r st p ss i j, hn => by simp only [treeB, tree]; rw [node_loc ha (hn r (by simp [rootsOf]))]
  | .mp r st p ss, hn => rfl
  | .ent .., hn => rfl
  | .yld _, hn => rfl
  | .undef, hn => rfl
  | .gone, hn => rfl
  | .bool _, hn => rfl
  | .int .., hn => rfl
  | .str _, hn => rfl
  | .nilp, hn => rfl
  | .nils, hn => rfl
  | .nilm, hn => rfl
  | .nilf, hn => rfl
  | .emp, hn => rfl
  | .ne, hn => rfl
  | .lst _, hn => rfl
  | .pfro _, hn => rfl
  | .own .., hn => rfl
  | .ownm _, hn => rfl
theorem treeBL_loc (ha : Alike rs h k) (B : Nat) : ∀ (xs : List AV), (∀ r ∈ rootsL xs, r ∈ rs) → treeBL B k xs = treeBL B h xs
  | [], _ => rfl
  | x :: xs, hn => by
    simp only [treeBL]
    rw [treeB_loc ha B x (fun r hr => hn r (by simp only [rootsL, List.mem_append]; exact .inl hr)), treeBL_loc ha B xs (fun r hr => hn r (by simp only [rootsL, List.mem_append]; exact .inr hr))]
end

theorem dropRoots_loc (ha : Alike rs h k) {qs : List Nat} (hq : ∀ r ∈ qs, r ∈ rs) : Same rs (dropRoots h qs) k (dropRoots k qs) := by
  have get : ∀ (h : List Ob) (r : Nat), (dropRoots h qs)[r]? = (h[r]?).map fun o => if r ∈ qs then { o with c := .gone } else o := by
    intro h r
    cases ho : h[r]? with
    | some o => rw [dropRoots_get qs h r o ho]; rfl
    | none =>
      have hlt : h.length ≤ r := by
        rcases Nat.lt_or_ge r h.length with x | x
        · rw [List.getElem?_eq_getElem x] at ho; cases ho
        · exact x
      rw [List.getElem?_eq_none (by rw [dropRoots_len]; exact hlt)]; rfl
  refine ⟨fun r hr => by rw [get, get, ha r hr], fun r hr => ?_⟩
  rw [get]
  have : r ∉ qs := fun h => hr (hq r h)
  simp only [this, if_false]
  cases k[r]? <;> rfl

theorem give_loc {fo : Bool} {B b : Nat} {ss : List Nat} {h1 h0 k0 hf : List Ob} {xs : List AV} {v : AV} (ha : Alike rs h0 k0) (hst : ∀ s ∈ ss, b + s ∈ rs) (hg : give fo B h1 h0 b ss xs = some (v, hf)) :
    ∃ kf, give fo B h1 k0 b ss xs = some (v, kf) ∧ Same rs hf k0 kf := by
  unfold give at hg ⊢
  split at hg
  · rename_i r st s2 off len s
    split at hg
    · rename_i hB
      rw [if_pos hB]
      cases hnd : node h1 r st [] 0 with
      | none => simp [hnd] at hg
      | some nd =>
        cases nd <;> simp only [hnd, reduceCtorEq] at hg ⊢
        rename_i es ys
        split at hg
        · rename_i hc
          rw [if_pos hc]
          cases hnew : newOb h0 (b + s) (.own es ys) with
          | none => simp [hnew] at hg
          | some p =>
            obtain ⟨hh, st'⟩ := p
            simp only [hnew, Option.some.injEq, Prod.mk.injEq] at hg
            obtain ⟨rfl, rfl⟩ := hg
            obtain ⟨k', e1, e2⟩ := newOb_loc ha (hst s (by simp)) hnew
            exact ⟨k', by rw [e1], e2⟩
        · cases hg
    · cases hg
  · simp only [Option.some.injEq, Prod.mk.injEq] at hg
    obtain ⟨rfl, rfl⟩ := hg
    exact ⟨k0, rfl, Same.refl ha⟩
  · simp only [Option.some.injEq, Prod.mk.injEq] at hg
    obtain ⟨rfl, rfl⟩ := hg
    exact ⟨k0, rfl, Same.refl ha⟩
  · cases hg
  · simp only [Option.some.injEq, Prod.mk.injEq] at hg
    obtain ⟨rfl, rfl⟩ := hg
    exact ⟨k0, rfl, Same.refl ha⟩
end

theorem callF_loc {G : Prg} {n : Nat} {f : FuncId} {F : IF} (hf : G f = some F) (hp : F.pure = true) {xs : List AV} {b : Nat} {ss : List Nat} {σ τ σ' : St} {rs : List Nat} {v : AV} (ha : Alike rs σ.h τ.h) (hn : ∀ r ∈ rootsL xs, r ∈ rs) (hst : ∀ s ∈ ss, b + s ∈ rs)
    (hx : callF G n f xs b ss σ = some (v, σ')) : ∃ k', callF G n f xs b ss τ = some (v, { τ with h := k' }) ∧ Same rs σ'.h τ.h k' ∧ σ' = { σ with h := σ'.h } := by
  cases n with
  | zero => simp [callF] at hx
  | succ n =>
    simp only [callF, hf, hp, if_true] at hx ⊢
    rw [treeBL_loc ha 0 xs hn]
    split at hx
    · rename_i hl
      rw [if_pos hl]
      by_cases hsp : splits F (treeBL 0 σ.h xs) = true
      · rw [if_pos hsp] at hx ⊢
        split at hx
        · rename_i y1 σ1 y2 σ2 e1 e2
          split at hx
          · rename_i hv
            try rw [if_pos hv]
            simp only [Option.some.injEq, Prod.mk.injEq] at hx
            obtain ⟨rfl, rfl⟩ := hx
            exact ⟨τ.h, rfl, Same.refl ha, rfl⟩
          · cases hx
        · cases hx
      rw [if_neg hsp] at hx ⊢
      cases hr : runF G n F (treeBL 0 σ.h xs) [] [] with
      | none => simp [hr] at hx
      | some p =>
        obtain ⟨rr, σ1⟩ := p
        simp only [hr] at hx
        have h0 : Same rs (if xs.all AV.free || rr.all AV.flats then σ.h else dropRoots σ.h (rootsL xs)) τ.h (if xs.all AV.free || rr.all AV.flats then τ.h else dropRoots τ.h (rootsL xs)) := by
          split
          · exact Same.refl ha
          · exact dropRoots_loc ha hn
        cases hg : give F.fo 0 σ1.h (if xs.all AV.free || rr.all AV.flats then σ.h else dropRoots σ.h (rootsL xs)) b ss rr with
        | none => simp only [hg] at hx; cases hx
        | some q =>
          obtain ⟨v1, hh⟩ := q
          simp only [hg, Option.some.injEq, Prod.mk.injEq] at hx
          obtain ⟨rfl, rfl⟩ := hx
          obtain ⟨kf, e1, e2⟩ := give_loc h0.alike hst hg
          exact ⟨kf, by simp only [e1], h0.trans e2, rfl⟩
    · cases hx
end Go.Mw

/- Regions whose order is drawn. -/
namespace Go.Mw
set_option linter.unusedVariables false
set_option linter.unusedSimpArgs false

inductive Loc where
  | tmp (n : Nat) | root (r : Nat) | lps
inductive Vl where
  | t (o : Option AV) | r (o : Option Ob) | l (x : List Lp)
def valS (σ : St) : Loc → Vl
  | .tmp n => .t σ.t[n]?
  | .root r => .r σ.h[r]?
  | .lps => .l σ.lp
theorem valS_ext {σ τ : St} (h : ∀ x, valS σ x = valS τ x) : σ = τ := by
  obtain ⟨t, hh, l⟩ := σ
  obtain ⟨t', hh', l'⟩ := τ
  have h1 : t = t' := List.ext_getElem? fun n => by have := h (.tmp n); simpa [valS] using this
  have h2 : hh = hh' := List.ext_getElem? fun n => by have := h (.root n); simpa [valS] using this
  have h3 : l = l' := by have := h .lps; simpa [valS] using this
  rw [h1, h2, h3]

/-- one operation of a region -/
def ropE (f : Ins → Nat → St → Option (AV × St)) (b : Nat) (r : Rop) (σ : St) : Option St :=
  match wantedO r.g σ with
  | some true => match f r.i b σ with
    | some (v, σ1) => some (σ1.put r.d v)
    | none => none
  | some false => some (σ.put r.d (.tup []))
  | none => none
theorem opsE_ropE (f : Ins → Nat → St → Option (AV × St)) (b : Nat) (r : Rop) (rs : List Rop) (σ : St) : opsE f (r :: rs) b σ = match ropE f b r σ with
    | some σ1 => opsE f rs b σ1
    | none => none := by
  simp only [opsE, ropE]
  cases wantedO r.g σ with
  | none => rfl
  | some w =>
    cases w with
    | false => rfl
    | true => simp only []; cases f r.i b σ with
      | none => rfl
      | some p => rfl
/-- what it may touch, unwanted or not -/
def footR (G : Prg) (b : Nat) (r : Rop) (σ : St) : Option (List Nat) :=
  match wantedO r.g σ with
  | some true => foot G b r.i σ
  | _ => some []
theorem drwE_ropE (G : Prg) (f : Ins → Nat → St → Option (AV × St)) (b : Nat) (r : Rop) (rs : List Rop) (σ : St) {σ' : St} {fs : List (Option (List Nat))} (h : drwE G f (r :: rs) b σ = some (σ', fs)) :
    ∃ σ1 fs', ropE f b r σ = some σ1 ∧ drwE G f rs b σ1 = some (σ', fs') ∧ fs = footR G b r σ :: fs' := by
  simp only [drwE] at h
  split at h
  · rename_i hw
    split at h
    · rename_i v σ1 hf
      split at h
      · rename_i σ2 fs' hd
        simp only [Option.some.injEq, Prod.mk.injEq] at h
        obtain ⟨rfl, rfl⟩ := h
        exact ⟨σ1.put r.d v, fs', by simp only [ropE, hw, hf], hd, by simp only [footR, hw]⟩
      · cases h
    · cases h
  · rename_i hw
    split at h
    · rename_i σ2 fs' hd
      simp only [Option.some.injEq, Prod.mk.injEq] at h
      obtain ⟨rfl, rfl⟩ := h
      exact ⟨σ.put r.d (.tup []), fs', by simp only [ropE, hw], hd, by simp only [footR, hw]⟩
    · cases h
  · cases h
/-- the states in turn -/
theorem drwE_run (G : Prg) (f : Ins → Nat → St → Option (AV × St)) (b : Nat) : ∀ (rs : List Rop) (σ σ' : St) (fs : List (Option (List Nat))), drwE G f rs b σ = some (σ', fs) →
    ∃ st : Nat → St, st 0 = σ ∧ st rs.length = σ' ∧ fs.length = rs.length ∧ ∀ k r, rs[k]? = some r → ropE f b r (st k) = some (st (k + 1)) ∧ fs[k]? = some (footR G b r (st k)) := by
  intro rs
  induction rs with
  | nil =>
    intro σ σ' fs h
    simp only [drwE, Option.some.injEq, Prod.mk.injEq] at h
    obtain ⟨rfl, rfl⟩ := h
    exact ⟨fun _ => σ, rfl, rfl, rfl, fun k r h => by simp at h⟩
  | cons r rs ih =>
    intro σ σ' fs h
    obtain ⟨σ1, fs', h1, h2, rfl⟩ := drwE_ropE G f b r rs σ h
    obtain ⟨st, s0, sN, hl, hst⟩ := ih σ1 σ' fs' h2
    refine ⟨fun k => match k with | 0 => σ | k + 1 => st k, rfl, sN, by simp [hl], fun k r' hk => ?_⟩
    cases k with
    | zero => simp at hk; subst hk; exact ⟨by rw [h1, ← s0], rfl⟩
    | succ k => exact hst k r' (by simpa using hk)
end Go.Mw

/- One operation of a region depends on what it names alone. -/
namespace Go.Mw
set_option linter.unusedVariables false
set_option linter.unusedSimpArgs false

theorem callF_t {G : Prg} {n : Nat} {f : FuncId} {xs : List AV} {b : Nat} {ss : List Nat} {σ σ' : St} {v : AV} (t : List AV) (h : callF G n f xs b ss σ = some (v, σ')) : callF G n f xs b ss { σ with t } = some (v, { σ' with t }) ∧ σ'.t = σ.t := by
  cases n with
  | zero => simp [callF] at h
  | succ n =>
    simp only [callF] at h ⊢
    cases hF : G f with
    | none => simp [hF] at h
    | some F =>
      simp only [hF] at h ⊢
      split at h
      · rename_i hl
        rw [if_pos hl]
        split at h
        · rename_i hp
          rw [if_pos hp]
          by_cases hsp : splits F (treeBL 0 σ.h xs) = true
          · rw [if_pos hsp] at h ⊢
            split at h
            · split at h
              · rename_i hv
                simp only [Option.some.injEq, Prod.mk.injEq] at h
                obtain ⟨rfl, rfl⟩ := h
                exact ⟨by first | rfl | simp only [hv, if_true], rfl⟩
              · cases h
            · cases h
          rw [if_neg hsp] at h ⊢
          split at h
          · rename_i rr σ1 hr
            try simp only [hr]
            split at h
            · rename_i v1 hh hg
              simp only [Option.some.injEq, Prod.mk.injEq] at h
              obtain ⟨rfl, rfl⟩ := h
              exact ⟨by simp only [hg], rfl⟩
            · cases h
          · cases h
        · rename_i hp
          rw [if_neg hp]
          split at h
          · rename_i rr σ1 hr
            try simp only [hr]
            split at h
            · rename_i v1 hh hg
              simp only [Option.some.injEq, Prod.mk.injEq] at h
              obtain ⟨rfl, rfl⟩ := h
              exact ⟨by simp only [hg], rfl⟩
            · cases h
          · cases h
      · cases h
theorem yieldF_t {G : Prg} {n l : Nat} {xs : List AV} {σ σ' : St} {v : AV} (t : List AV) (h : yieldF G n l xs σ = some (v, σ')) : yieldF G n l xs { σ with t } = some (v, { σ' with t }) ∧ σ'.t = σ.t := by
  cases n with
  | zero => simp [yieldF] at h
  | succ n =>
    simp only [yieldF] at h ⊢
    cases hl : σ.lp[l]? with
    | none => simp [hl] at h
    | some lp =>
      simp only [hl] at h ⊢
      split at h
      · rename_i hc
        rw [if_pos hc]
        split at h
        · rename_i σ1 h1
          try simp only [h1]
          split at h
          · rename_i lp1 h2
            try simp only [h2]
            split at h
            · rename_i hc2
              rw [if_pos hc2]
              split at h
              · rename_i e σ2 h3
                try simp only [h3]
                split at h
                · rename_i lp2 h4
                  try simp only [h4]
                  simp only [Option.some.injEq, Prod.mk.injEq] at h
                  obtain ⟨rfl, rfl⟩ := h
                  exact ⟨rfl, rfl⟩
                · cases h
              · cases h
            · cases h
          · cases h
        · cases h
      · cases h

/-- which places beside the temporaries -/
def footL (fo : Option (List Nat)) : Loc → Prop
  | .tmp _ => False
  | .root r => match fo with
    | some fs => r ∈ fs
    | none => True
  | .lps => fo = none

/-- An instruction depends on its operands and on what it may touch; it writes nothing else. -/
theorem evO_loc {G : Prg} {n : Nat} {i : Ins} {b : Nat} {σ σ1 τ : St} {v : AV} (hx : evO G n i b σ = some (v, σ1)) (ho : ∀ x ∈ i.opds, τ.get x = σ.get x) (hf : ∀ x, footL (foot G b i σ) x → valS τ x = valS σ x) :
    ∃ τ1, evO G n i b τ = some (v, τ1) ∧ τ1.t = τ.t ∧ σ1.t = σ.t ∧ (∀ x, footL (foot G b i σ) x → valS τ1 x = valS σ1 x) ∧ (∀ x, ¬ (footL (foot G b i σ) x ∧ i.calm = false) → valS τ1 x = valS τ x) := by
  -- what touches everything
  have whole : foot G b i σ = none → τ = { σ with t := τ.t } := by
    intro hn
    refine valS_ext (fun x => ?_)
    cases x with
    | tmp n => rfl
    | root r => exact hf (.root r) (by simp [footL, hn])
    | lps => exact hf .lps (by simp [footL, hn])
  have wholeFin : foot G b i σ = none → evO G n i b τ = some (v, { σ1 with t := τ.t }) → σ1.t = σ.t → i.calm = false → ∃ τ1, evO G n i b τ = some (v, τ1) ∧ τ1.t = τ.t ∧ σ1.t = σ.t ∧ (∀ x, footL (foot G b i σ) x → valS τ1 x = valS σ1 x) ∧ (∀ x, ¬ (footL (foot G b i σ) x ∧ i.calm = false) → valS τ1 x = valS τ x) := by
    intro hn h1 h2 h3
    refine ⟨_, h1, rfl, h2, fun x hx => ?_, fun x hx => ?_⟩
    · cases x with
      | tmp n => exact hx.elim
      | root r => rfl
      | lps => rfl
    · cases x with
      | tmp n => rfl
      | root r => exact absurd ⟨by simp [footL, hn], h3⟩ hx
      | lps => exact absurd ⟨by simp [footL, hn], h3⟩ hx
  -- what touches named roots
  have named : ∀ (rs : List Nat) (k' : List Ob), foot G b i σ = some rs → evO G n i b τ = some (v, { τ with h := k' }) → Same rs σ1.h τ.h k' → σ1.t = σ.t → (i.calm = true → k' = τ.h) → ∃ τ1, evO G n i b τ = some (v, τ1) ∧ τ1.t = τ.t ∧ σ1.t = σ.t ∧ (∀ x, footL (foot G b i σ) x → valS τ1 x = valS σ1 x) ∧ (∀ x, ¬ (footL (foot G b i σ) x ∧ i.calm = false) → valS τ1 x = valS τ x) := by
    intro rs k' hn h1 h2 h3 h4
    refine ⟨_, h1, rfl, h3, fun x hx => ?_, fun x hx => ?_⟩
    · cases x with
      | tmp n => exact hx.elim
      | root r => simp only [valS]; rw [h2.1 r (by simpa [footL, hn] using hx)]
      | lps => simp [footL, hn] at hx
    · cases x with
      | tmp n => rfl
      | root r =>
        simp only [valS]
        cases hc : i.calm with
        | true => rw [h4 hc]
        | false =>
          rw [h2.2 r (fun hr => hx ⟨by simp only [footL, hn]; exact hr, hc⟩)]
      | lps => rfl
  have alike : ∀ rs, foot G b i σ = some rs → Alike rs σ.h τ.h := by
    intro rs hn r hr
    have := hf (.root r) (by simp only [footL, hn]; exact hr)
    simpa [valS] using this
  cases n with
  | zero => simp [evO] at hx
  | succ n =>
    have plainOp : (∀ τ : St, evO G (n + 1) i b τ = match ax b i τ with
        | some (v, h) => some (v, { τ with h })
        | none => none) → (foot G b i σ = if i.dry then some [] else some (i.sites.map (b + ·) ++ rootsL (σ.gets i.opds))) → ∃ τ1, evO G (n + 1) i b τ = some (v, τ1) ∧ τ1.t = τ.t ∧ σ1.t = σ.t ∧ (∀ x, footL (foot G b i σ) x → valS τ1 x = valS σ1 x) ∧ (∀ x, ¬ (footL (foot G b i σ) x ∧ i.calm = false) → valS τ1 x = valS τ x) := by
      intro hev hft
      rw [hev] at hx
      cases hax : ax b i σ with
      | none => simp [hax] at hx
      | some p =>
        obtain ⟨v1, h1⟩ := p
        simp only [hax, Option.some.injEq, Prod.mk.injEq] at hx
        obtain ⟨rfl, rfl⟩ := hx
        by_cases hd : i.dry = true
        · rw [if_pos hd] at hft
          obtain ⟨g, g1, g2⟩ := dry_val hd b σ τ ho
          rw [hax] at g1
          cases g with
          | none => cases g1
          | some u =>
            simp only [Option.map_some, Option.some.injEq, Prod.mk.injEq] at g1
            obtain ⟨rfl, rfl⟩ := g1
            exact named [] τ.h hft (by rw [hev, g2]; rfl) ⟨fun r hr => (by cases hr), fun _ _ => rfl⟩ rfl (fun _ => rfl)
        · rw [if_neg hd] at hft
          have hal := alike _ hft
          have hnm : ∀ x ∈ i.opds, Named (i.sites.map (b + ·) ++ rootsL (σ.gets i.opds)) (σ.get x) := by
            intro x hx r hr
            refine List.mem_append.2 (.inr (rootsL_mem (x := σ.get x) ?_ hr))
            exact List.mem_map.2 ⟨x, hx, rfl⟩
          cases hc : i.calm with
          | true =>
            obtain ⟨g, g1, g2⟩ := calm_val hc b σ τ hal ho hnm
            rw [hax] at g1
            cases g with
            | none => cases g1
            | some u =>
              simp only [Option.map_some, Option.some.injEq, Prod.mk.injEq] at g1
              obtain ⟨rfl, rfl⟩ := g1
              have := named _ τ.h hft (by rw [hev, g2]; rfl) (Same.refl hal) rfl (fun _ => rfl)
              rw [hc] at this; exact this
          | false =>
            obtain ⟨k', e1, e2⟩ := wr_loc hc hal ho hnm (fun s hs => List.mem_append.2 (.inl (List.mem_map.2 ⟨s, hs, rfl⟩))) hax
            have := named _ k' hft (by rw [hev, e1]) e2 rfl (fun h => by rw [hc] at h; cases h)
            rw [hc] at this; exact this
    have callOp : ∀ (f : FuncId) (xs : List AV) (ss : List Nat), evO G (n + 1) i b σ = callF G n f xs b ss σ → evO G (n + 1) i b τ = callF G n f xs b ss τ → (foot G b i σ = match G f with
        | some F => if F.pure then some (ss.map (b + ·) ++ rootsL xs) else none
        | none => none) → i.calm = false → ∃ τ1, evO G (n + 1) i b τ = some (v, τ1) ∧ τ1.t = τ.t ∧ σ1.t = σ.t ∧ (∀ x, footL (foot G b i σ) x → valS τ1 x = valS σ1 x) ∧ (∀ x, ¬ (footL (foot G b i σ) x ∧ i.calm = false) → valS τ1 x = valS τ x) := by
      intro f xs ss h1 h2 hft hc
      rw [h1] at hx
      have nonp : foot G b i σ = none → ∃ τ1, evO G (n + 1) i b τ = some (v, τ1) ∧ τ1.t = τ.t ∧ σ1.t = σ.t ∧ (∀ x, footL (foot G b i σ) x → valS τ1 x = valS σ1 x) ∧ (∀ x, ¬ (footL (foot G b i σ) x ∧ i.calm = false) → valS τ1 x = valS τ x) := by
        intro hn
        obtain ⟨k1, k2⟩ := callF_t τ.t hx
        exact wholeFin hn (by rw [h2, whole hn]; exact k1) k2 hc
      cases hG : G f with
      | none => exact nonp (by rw [hft, hG])
      | some F =>
        cases hp : F.pure with
        | false => exact nonp (by rw [hft, hG]; simp [hp])
        | true =>
          have hft' : foot G b i σ = some (ss.map (b + ·) ++ rootsL xs) := by rw [hft, hG]; simp [hp]
          obtain ⟨k', e1, e2, e3⟩ := callF_loc hG hp (alike _ hft') (fun r hr => List.mem_append.2 (.inr hr)) (fun s hs => List.mem_append.2 (.inl (List.mem_map.2 ⟨s, hs, rfl⟩))) hx
          exact named _ k' hft' (by rw [h2]; exact e1) e2 (by rw [e3]) (fun h => by rw [hc] at h; cases h)
    cases i
    case call f az' ss => exact callOp f (σ.gets az') ss rfl (by simp only [evO]; rw [show τ.gets az' = σ.gets az' from gets_congr ho]) rfl rfl
    case calv x az' ss =>
      have hxx : τ.get x = σ.get x := ho x (by simp [Ins.opds])
      have hgg : τ.gets az' = σ.gets az' := gets_congr (fun y hy => ho y (by simp [Ins.opds, hy]))
      cases hg : σ.get x
      case fn f cs => exact callOp f (σ.gets az' ++ cs) ss (by simp only [evO, hg]) (by simp only [evO, hxx, hg, hgg]) (by simp only [foot, hg]; cases G f <;> rfl) rfl
      case yld l =>
        have hn : foot G b (.calv x az' ss) σ = none := by simp only [foot, hg]
        have h1 : evO G (n + 1) (.calv x az' ss) b σ = yieldF G n l (σ.gets az') σ := by simp only [evO, hg]
        rw [h1] at hx
        obtain ⟨k1, k2⟩ := yieldF_t τ.t hx
        refine wholeFin hn ?_ k2 rfl
        simp only [evO, hxx, hg, hgg]
        rw [whole hn]; exact k1
      all_goals (simp [evO, hg] at hx)
    all_goals exact plainOp (fun _ => rfl) rfl
end Go.Mw

/- Regions whose order is drawn: the end. -/
namespace Go.Mw
set_option linter.unusedVariables false
set_option linter.unusedSimpArgs false

/-- what an operation of a region touches -/
def DL (G : Prg) (b : Nat) (r : Rop) (σ : St) : Loc → Prop
  | .tmp n => n ∈ r.reads ∨ r.d = some n
  | x => footL (footR G b r σ) x
/-- what it writes -/
def WL (G : Prg) (b : Nat) (r : Rop) (σ : St) : Loc → Prop
  | .tmp n => r.d = some n
  | x => footL (footR G b r σ) x ∧ r.i.calm = false

theorem get_of_tmps {σ τ : St} {x : Opd} (h : ∀ n ∈ x.tmps, τ.t[n]? = σ.t[n]?) : τ.get x = σ.get x := by
  cases x with
  | t n => simp only [St.get, List.getD_eq_getElem?_getD]; rw [h n (by simp [Opd.tmps])]
  | c v => rfl

theorem valS_put {σ : St} {d : Option Nat} {v : AV} {x : Loc} (h : ∀ n, x = .tmp n → d ≠ some n) : valS (σ.put d v) x = valS σ x := by
  cases d with
  | none => rfl
  | some d =>
    cases x with
    | tmp n =>
      have : d ≠ n := fun e => h n rfl (by rw [e])
      simp only [valS, St.put]; rw [List.getElem?_set_ne this]
    | root r => rfl
    | lps => rfl
theorem valS_put_same {σ τ : St} {d : Nat} {v : AV} (e : τ.t[d]? = σ.t[d]?) : (τ.put (some d) v).t[d]? = (σ.put (some d) v).t[d]? := by
  simp only [St.put]
  rcases Nat.lt_or_ge d σ.t.length with hl | hl
  · have : d < τ.t.length := by
      rcases Nat.lt_or_ge d τ.t.length with h | h
      · exact h
      · rw [List.getElem?_eq_none h, List.getElem?_eq_getElem hl] at e; cases e
    rw [List.getElem?_set_self hl, List.getElem?_set_self this]
  · have : τ.t.length ≤ d := by
      rcases Nat.lt_or_ge d τ.t.length with h | h
      · rw [List.getElem?_eq_none hl, List.getElem?_eq_getElem h] at e; cases e
      · exact h
    rw [List.getElem?_eq_none (by simpa using this), List.getElem?_eq_none (by simpa using hl)]

theorem wantedO_loc {σ τ : St} {r : Rop} (h : ∀ n ∈ r.reads, τ.t[n]? = σ.t[n]?) : wantedO r.g τ = wantedO r.g σ := by
  unfold wantedO
  cases hg : r.g with
  | none => rfl
  | some p =>
    obtain ⟨t, want⟩ := p
    simp only []
    rw [h t (by simp [Rop.reads, hg])]

theorem rop_loc {G : Prg} {n : Nat} {b : Nat} {r : Rop} {σ σ1 τ : St} (hx : ropE (evO G n) b r σ = some σ1) (hD : ∀ x, DL G b r σ x → valS τ x = valS σ x) :
    ∃ τ1, ropE (evO G n) b r τ = some τ1 ∧ (∀ x, DL G b r σ x → valS τ1 x = valS σ1 x) ∧ (∀ x, ¬ WL G b r σ x → valS τ1 x = valS τ x) := by
  have hrd : ∀ n ∈ r.reads, τ.t[n]? = σ.t[n]? := fun n hn => by have := hD (.tmp n) (.inl hn); simpa [valS] using this
  have hdd : ∀ d, r.d = some d → τ.t[d]? = σ.t[d]? := fun d hd => by have := hD (.tmp d) (.inr hd); simpa [valS] using this
  have hw := wantedO_loc (r := r) hrd
  -- the result is put
  have fin : ∀ (v : AV) (σa τa : St), (∀ n : Nat, τa.t[n]? = τ.t[n]?) → (∀ n : Nat, σa.t[n]? = σ.t[n]?) → (∀ x, footL (footR G b r σ) x → valS τa x = valS σa x) → (∀ x, ¬ (footL (footR G b r σ) x ∧ r.i.calm = false) → valS τa x = valS τ x) →
      (∀ x, DL G b r σ x → valS (τa.put r.d v) x = valS (σa.put r.d v) x) ∧ (∀ x, ¬ WL G b r σ x → valS (τa.put r.d v) x = valS τ x) := by
    intro v σa τa h1 h2 h3 h4
    refine ⟨fun x hx => ?_, fun x hx => ?_⟩
    · cases x with
      | tmp n =>
        by_cases hd : r.d = some n
        · rw [hd]
          simp only [valS]
          rw [valS_put_same (σ := σa) (τ := τa) (d := n) (v := v) (by rw [h1, h2, hdd n hd])]
        · rw [valS_put (fun m hm => by cases hm; exact hd), valS_put (fun m hm => by cases hm; exact hd)]
          rcases hx with hx | hx
          · simp only [valS]; rw [h1, h2, hrd n hx]
          · exact absurd hx hd
      | root q => rw [valS_put (fun m hm => by cases hm), valS_put (fun m hm => by cases hm)]; exact h3 _ hx
      | lps => rw [valS_put (fun m hm => by cases hm), valS_put (fun m hm => by cases hm)]; exact h3 _ hx
    · cases x with
      | tmp n =>
        rw [valS_put (fun m hm => by cases hm; exact hx)]
        simp only [valS]; rw [h1]
      | root q => rw [valS_put (fun m hm => by cases hm)]; exact h4 _ hx
      | lps => rw [valS_put (fun m hm => by cases hm)]; exact h4 _ hx
  unfold ropE at hx ⊢
  rw [hw]
  cases hwo : wantedO r.g σ with
  | none => simp [hwo] at hx
  | some wb =>
    have hft : footR G b r σ = if wb then foot G b r.i σ else some [] := by
      simp only [footR, hwo]; cases wb <;> rfl
    cases wb with
    | false =>
      simp only [hwo, Option.some.injEq] at hx
      subst hx
      obtain ⟨f1, f2⟩ := fin (.tup []) σ τ (fun _ => rfl) (fun _ => rfl) (fun x hx => hD x (by cases x <;> first | exact hx | exact hx.elim)) (fun _ _ => rfl)
      exact ⟨_, rfl, f1, f2⟩
    | true =>
      simp only [if_true] at hft
      simp only [hwo] at hx
      cases hev : evO G n r.i b σ with
      | none => simp [hev] at hx
      | some p =>
        obtain ⟨v, σa⟩ := p
        simp only [hev, Option.some.injEq] at hx
        subst hx
        obtain ⟨τa, e1, e2, e3, e4, e5⟩ := evO_loc (τ := τ) hev (fun x hx => get_of_tmps (fun m hm => hrd m (by simp only [Rop.reads, List.mem_append, List.mem_flatMap]; exact .inl ⟨x, hx, hm⟩)))
          (fun x hx => hD x (by rw [← hft] at hx; cases x <;> first | exact hx | exact hx.elim))
        obtain ⟨f1, f2⟩ := fin v σa τa (fun m => by rw [e2]) (fun m => by rw [e3]) (by rw [hft]; exact e4) (by rw [hft]; exact e5)
        exact ⟨_, by simp only [e1], f1, f2⟩
end Go.Mw

/- Regions whose order is drawn: every order does the same. -/
namespace Go.Mw
set_option linter.unusedVariables false
set_option linter.unusedSimpArgs false

theorem compRs_get {P : Program} {sm : List Nat} {ops : Array Oper} : ∀ (l : List Oper) (rs : List Rop), compRs P sm ops l = some rs → rs.length = l.length ∧ ∀ (k : Nat) (o : Oper), l[k]? = some o → ∃ r, rs[k]? = some r ∧ compR P sm ops o = some r := by
  intro l
  induction l with
  | nil => intro rs h; simp [compRs] at h; subst h; exact ⟨rfl, fun k o h => by simp at h⟩
  | cons o l ih =>
    intro rs h
    simp only [compRs] at h
    cases h1 : compR P sm ops o with
    | none => simp [h1] at h
    | some r =>
      cases h2 : compRs P sm ops l with
      | none => simp [h1, h2] at h
      | some rs' =>
        simp [h1, h2] at h; subst h
        obtain ⟨g1, g2⟩ := ih rs' h2
        refine ⟨by simp [g1], fun k o' hk => ?_⟩
        cases k with
        | zero => simp at hk; subst hk; exact ⟨r, rfl, h1⟩
        | succ k => exact g2 k o' (by simpa using hk)

theorem mem_freePairs {ops : Array Oper} {i k : Nat} (hik : i < k) (hk : k < ops.size) (hb : behind ops i k = false) : (i, k) ∈ freePairs ops := by
  unfold freePairs pairsOf
  refine List.mem_filter.2 ⟨List.mem_flatMap.2 ⟨k, List.mem_range.2 hk, List.mem_map.2 ⟨i, List.mem_range.2 hik, rfl⟩⟩, by simp [hb]⟩

theorem tfree_spec {x y : Rop} (h : x.tfree y = true) : (∀ d, x.d = some d → d ∉ y.reads ∧ y.d ≠ some d) ∧ (∀ d, y.d = some d → d ∉ x.reads) := by
  refine ⟨fun d hd => ?_, fun d hd => ?_⟩ <;> simp [Rop.tfree, hd] at h
  · exact ⟨h.1.1, h.1.2⟩
  · exact h.2

/-- operations that are apart at the roots -/
theorem apart_spec {a b : Option (List Nat)} (h : apart a b = true) (x : Loc) : ¬ (footL a x ∧ footL b x) := by
  rintro ⟨h1, h2⟩
  unfold apart at h
  split at h
  · cases x <;> simp [footL] at h1
  · cases x <;> simp [footL] at h2
  · rename_i fa fb _ _
    cases x
    case tmp => exact h1.elim
    case lps => simp [footL] at h1
    case root r =>
      simp only [footL] at h1 h2
      simp only [List.all_eq_true, Bool.not_eq_true', List.contains_eq_mem, decide_eq_false_iff_not] at h
      exact h r h1 h2
  · cases h
theorem dry_foot {G : Prg} {b : Nat} {r : Rop} {σ : St} (h : r.i.dry = true) (x : Loc) : ¬ footL (footR G b r σ) x := by
  have : footR G b r σ = some [] := by
    unfold footR
    split
    · unfold foot
      cases hi : r.i <;> simp only [hi, Ins.dry, Bool.false_eq_true] at h <;> simp [Ins.dry]
    · rfl
  rw [this]
  cases x <;> simp [footL]

theorem runL_ops {f : Ins → Nat → St → Option (AV × St)} {b : Nat} {P : Program} {sm : List Nat} {ops : Array Oper} {rs : List Rop} (hg : ∀ (k : Nat) (o : Oper), ops[k]? = some o → ∃ r, rs[k]? = some r ∧ compR P sm ops o = some r) {E : Nat → Prop} {pre : Nat → Nat → Prop} {l : List Nat} (ho : Ord ops.size pre E l) : ∀ {σ σ' : St},
    runL (fun k τ => match rs[k]? with | some r => ropE f b r τ | none => none) l σ = some σ' → ∃ rl, All2 (fun j r => ∃ o, ops[j]? = some o ∧ compR P sm ops o = some r) l rl ∧ opsE f rl b σ = some σ' := by
  induction ho with
  | nil h => intro σ σ' hr; simp only [runL] at hr; exact ⟨[], .nil, by simpa [opsE] using hr⟩
  | cons hk hn hp t ih =>
    rename_i E k l
    intro σ σ' hr
    obtain ⟨r, h1, h2⟩ := hg k _ (Array.getElem?_eq_getElem hk)
    simp only [runL, h1] at hr
    cases hrop : ropE f b r σ with
    | none => simp [hrop] at hr
    | some σ1 =>
      simp only [hrop] at hr
      obtain ⟨rl, h3, h4⟩ := ih hr
      exact ⟨r :: rl, .cons ⟨_, Array.getElem?_eq_getElem hk, h2⟩ h3, by rw [opsE_ropE, hrop]; exact h4⟩

theorem draw_sound (P : Program) (G : Prg) (n : Nat) : DrawS P G (evO G n) := by
  intro sm ops rs b σ σ' fs hc hok hd hap mixed t
  obtain ⟨st, s0, sN, hfl, hst⟩ := drwE_run G _ b rs σ σ' fs hd
  obtain ⟨hlen, hget⟩ := compRs_get _ _ hc
  have hN : rs.length = ops.size := by simpa using hlen
  have hg : ∀ (k : Nat) (o : Oper), ops[k]? = some o → ∃ r, rs[k]? = some r ∧ compR P sm ops o = some r := fun k o hk => hget k o (by simpa using hk)
  let step : Nat → St → Option St := fun k τ => match rs[k]? with | some r => ropE (evO G n) b r τ | none => none
  let D : Nat → Loc → Prop := fun k x => ∃ r, rs[k]? = some r ∧ DL G b r (st k) x
  let W : Nat → Loc → Prop := fun k x => ∃ r, rs[k]? = some r ∧ WL G b r (st k) x
  have hr : ∀ k, k < ops.size → ∃ r, rs[k]? = some r := fun k hk => ⟨_, List.getElem?_eq_getElem (by omega)⟩
  have ht : Trace valS ops.size step st D W := by
    refine ⟨fun k hk τ hτ => ?_, fun k hk x hx => ?_, fun k x hx => ?_⟩
    · obtain ⟨r, h1⟩ := hr k hk
      obtain ⟨τ1, e1, e2, e3⟩ := rop_loc (hst k r h1).1 (fun x hx => hτ x ⟨r, h1, hx⟩)
      exact ⟨τ1, by simp only [step, h1]; exact e1, fun x ⟨r', h2, hx⟩ => by rw [h1] at h2; cases h2; exact e2 x hx, fun x hx => e3 x (fun h => hx ⟨r, h1, h⟩)⟩
    · obtain ⟨r, h1⟩ := hr k hk
      obtain ⟨τ1, e1, e2, e3⟩ := rop_loc (τ := st k) (hst k r h1).1 (fun x hx => rfl)
      rw [(hst k r h1).1] at e1; cases e1
      exact e3 x (fun h => hx ⟨r, h1, h⟩)
    · obtain ⟨r, h1, h2⟩ := hx
      refine ⟨r, h1, ?_⟩
      cases x with
      | tmp m => exact .inr h2
      | root q => exact h2.1
      | lps => exact h2.1
  have hdep : ∀ i k, i < k → k < ops.size → ¬ Pre ops i k → ∀ x, ¬ (W i x ∧ D k x) ∧ ¬ (D i x ∧ W k x) := by
    intro i k hik hk hnp
    have hb : behind ops i k = false := by
      cases hb : behind ops i k with
      | false => rfl
      | true => exact absurd (behind_pre hb) hnp
    have hm := mem_freePairs hik hk hb
    obtain ⟨ri, hi⟩ := hr i (by omega)
    obtain ⟨rk, hk'⟩ := hr k hk
    have htf : ri.tfree rk = true := by
      simp only [drawOk, Bool.and_eq_true] at hok
      have := List.all_eq_true.1 hok.2 _ hm
      simpa [hi, hk'] using this
    obtain ⟨t1, t2⟩ := tfree_spec htf
    have hfeet : easy ri rk = false → apart (footR G b ri (st i)) (footR G b rk (st k)) = true := by
      intro he
      have h1 : (i, k) ∈ hardPairs ops rs := by
        unfold hardPairs
        exact List.mem_filter.2 ⟨hm, by simp [hi, hk', he]⟩
      have h2 := List.all_eq_true.1 hap _ h1
      simp only [List.getD_eq_getElem?_getD, (hst i ri hi).2, (hst k rk hk').2, Option.getD_some] at h2
      exact h2
    have hroot : ∀ x, footL (footR G b ri (st i)) x → footL (footR G b rk (st k)) x → ri.i.calm = true ∧ rk.i.calm = true := by
      intro x h1 h2
      cases he : easy ri rk with
      | false => exact absurd ⟨h1, h2⟩ (apart_spec (hfeet he) x)
      | true =>
        simp only [easy, Bool.or_eq_true, Bool.and_eq_true] at he
        rcases he with (he | he) | he
        · exact absurd h1 (dry_foot he x)
        · exact absurd h2 (dry_foot he x)
        · exact he
    intro x
    refine ⟨?_, ?_⟩
    · rintro ⟨⟨r1, e1, h1⟩, ⟨r2, e2, h2⟩⟩
      rw [hi] at e1; cases e1
      rw [hk'] at e2; cases e2
      cases x with
      | tmp m =>
        rcases h2 with h2 | h2
        · exact (t1 m h1).1 h2
        · exact (t1 m h1).2 h2
      | root q => have := (hroot _ h1.1 h2).1; rw [h1.2] at this; cases this
      | lps => have := (hroot _ h1.1 h2).1; rw [h1.2] at this; cases this
    · rintro ⟨⟨r1, e1, h1⟩, ⟨r2, e2, h2⟩⟩
      rw [hi] at e1; cases e1
      rw [hk'] at e2; cases e2
      cases x with
      | tmp m =>
        rcases h1 with h1 | h1
        · exact t2 m h2 h1
        · exact (t1 m h1).2 h2
      | root q => have := (hroot (.root q) h1 h2.1).2; rw [h2.2] at this; cases this
      | lps => have := (hroot .lps h1 h2.1).2; rw [h2.2] at this; cases this
  have hord := draw_ord hok mixed t
  have hinv : Inv valS ops.size st W (fun _ => False) σ := fun x => ⟨0, Nat.zero_le _, by rw [s0], fun k _ _ => ⟨False.elim, fun h => absurd h (Nat.not_lt_zero _)⟩⟩
  obtain ⟨τ, h1, h2⟩ := ht.all (pre_lt hok) hdep hord (fun j i _ h _ => h.elim) hinv
  have : τ = σ' := by
    refine valS_ext (fun x => ?_)
    rw [h2 x, ← hN, sN]
  subst this
  exact runL_ops hg hord h1
end Go.Mw

/- The machine is sound. -/
namespace Go.Mw
open Go.RowKit
theorem sound {P : Program} {G : Prg} (hG : Good P G) {n : Nat} {f : FuncId} {F : IF} {xs : List AV} {rs : List AV} {σ1 : St} (hf : G f = some F) (hn : xs.length = F.np) (hrun : runF G n F xs [] [] = some (rs, σ1))
    {w : World} {fz : Nat → Prop} (hfz : ∀ b, fz b → b < w.heap.size) {args : Array Value} (hargs : VRels w fz (fun _ _ => False) xs args.toList) :
    Calls P f args w fun e w' => ∃ cs : List Value, e = .returned (packC cs) ∧ Below w.heap.size w w' ∧ ∃ fz', VRels w' fz' (fun _ _ => False) (treeBL 0 σ1.h rs) cs :=
  calls_sound hG (fun n => draw_sound P G n) hf hn hrun hfz hargs
end Go.Mw
