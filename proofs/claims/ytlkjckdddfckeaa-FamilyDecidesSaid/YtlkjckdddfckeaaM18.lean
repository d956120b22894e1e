/- Products: choices that are made. -/
import Derived.Test.YtlkjckdddfckeaaM17
namespace Go.Mw
set_option linter.unusedVariables false
set_option linter.unusedSimpArgs false
set_option maxRecDepth 100000
/-- the numbers that are chosen for a product -/
def chosenL (l : List Ch) (p : Nat) : List Int := (l.filter fun c => c.W.toNat.testBit p).map (·.N)
/-- what is chosen for something that is there -/
def WOk (l : List Ch) : Prop := ∀ i < l.length, ∃ w : Nat, l[i]!.W = w ∧ w < 2 ^ 62
theorem chosenL_succ {l : List Ch} {p i : Nat} (h : i < l.length) : chosenL (l.take (i + 1)) p = if l[i]!.W.toNat.testBit p then chosenL (l.take i) p ++ [l[i]!.N] else chosenL (l.take i) p := by
  unfold chosenL
  rw [List.take_succ_eq_append_getElem h, List.filter_append, getElem!_pos l i h]
  by_cases hb : l[i].W.toNat.testBit p <;> simp [hb]
theorem chosenL_len {l : List Ch} {p : Nat} : (chosenL l p).length ≤ l.length := by
  unfold chosenL; rw [List.length_map]; exact List.length_filter_le _ _
theorem chosenR_ok (l : List Ch) (hl : l.length ≤ 1048576) (hw : WOk l) (p : Nat) : Fn G f_makeweightref16_chosen [.lst (l.map eC), I p] (.lst ((chosenL l p).map I)) := by
  refine FnP.mk' g_makeweightref16_chosen rfl rfl ?_
  simp only [go_sem, ↓reduceIte, ↓guardT_tt, ↓guardT_tf, ↓guardT_ft, ↓guardT_ff, ↓condT_t, ↓condT_f, c_makeweightref16_chosen]
  refine wp_loopQ (fun (i : Nat) σ => i ≤ l.length ∧ ∃ a0 c0 a1 c1 st ss, σ = ⟨aT .undef 25 [(1, I p), (5, rowv .nils 1 2 st ((chosenL (l.take i) p).map I)), (8, .lst (l.map eC)), (9, I l.length), (10, I i)], [⟨a0, c0, .gone⟩, ⟨a1, c1, .gone⟩, ⟨st, ss, rowo 1 ((chosenL (l.take i) p).map I)⟩], []⟩) (fun i => l.length - i) ?_ 0 ?_
  · rintro i σ ⟨hi, a0, c0, a1, c1, st, ss, rfl⟩ N Q hQ hN
    by_cases hlt : i < l.length
    · obtain ⟨w, hw1, hw2⟩ := hw i hlt
      have hsm := @chosenL_len (l.take i) p
      rw [List.length_take] at hsm
      simp only [go_sem, ↓reduceIte, ↓guardT_tt, ↓guardT_tf, ↓guardT_ft, ↓guardT_ff, ↓condT_t, ↓condT_f, eC, wrap_succ hlt (by omega), Int.ofNat_lt, hlt, hw1, hasR_r (show w < 2 ^ 63 by omega)]
      refine ⟨fun hb => ⟨by omega, hN (i + 1) _ (by omega) ⟨by omega, a0 + 1, 0, a1 + 1, 0, st + 1, 0, ?_⟩⟩, fun hb => hN (i + 1) _ (by omega) ⟨by omega, a0 + 1, 0, a1, c1, st, ss, ?_⟩⟩
      · simp only [go_sem, ↓reduceIte, ↓guardT_tt, ↓guardT_tf, ↓guardT_ft, ↓guardT_ff, ↓condT_t, ↓condT_f, chosenL_succ hlt, hw1, hb, List.map_append]
      · simp only [go_sem, ↓reduceIte, ↓guardT_tt, ↓guardT_tf, ↓guardT_ft, ↓guardT_ff, ↓condT_t, ↓condT_f, chosenL_succ hlt, hw1, hb]
    · have hil : i = l.length := by omega
      subst hil hQ
      simp only [go_sem, ↓reduceIte, ↓guardT_tt, ↓guardT_tf, ↓guardT_ft, ↓guardT_ff, ↓condT_t, ↓condT_f, Int.ofNat_lt, hlt, List.take_length]
  · refine ⟨by omega, 0, 0, 0, 0, 0, 0, ?_⟩
    simp only [go_sem, ↓reduceIte, ↓guardT_tt, ↓guardT_tf, ↓guardT_ft, ↓guardT_ff, ↓condT_t, ↓condT_f, chosenL, List.take_zero, List.filter_nil]
theorem chosenR_r {l : List Ch} (hl : l.length ≤ 1048576) (hw : WOk l) {p : Nat} {roots : List Nat} {b : Nat} {ss : List Nat} {σ : St} {k : AV → St → Prop} :
    callT G f_makeweightref16_chosen [.lst (l.map eC), I p] true roots b ss σ k = k (.lst ((chosenL l p).map I)) σ := (chosenR_ok l hl hw p).rule
/-- the first choice that is one -/
def idxC (l : List Ch) (q : Ch → Bool) : Int := match l.findIdx? q with | some i => i | none => -1
theorem idxC_at {l : List Ch} {q : Ch → Bool} {i : Nat} (hi : i < l.length) (hn : ∀ j < i, q l[j]! = false) (he : q l[i]! = true) : (i : Int) = idxC l q := by
  have : l.findIdx? q = some i := by
    rw [List.findIdx?_eq_some_iff_getElem]
    refine ⟨hi, ?_, fun j hj => ?_⟩
    · rw [← getElem!_pos l i hi]; exact he
    · have := hn j hj
      rw [getElem!_pos l j (by omega)] at this
      simp [this]
  unfold idxC; rw [this]
theorem idxC_none {l : List Ch} {q : Ch → Bool} (hn : ∀ j < l.length, q l[j]! = false) : -1 = idxC l q := by
  have : l.findIdx? q = none := by
    rw [List.findIdx?_eq_none_iff]
    intro x hx
    obtain ⟨i, hi, rfl⟩ := List.mem_iff_getElem.1 hx
    have := hn i hi
    rw [getElem!_pos l i hi] at this
    exact this
  unfold idxC; rw [this]
theorem idxC_cases (l : List Ch) (q : Ch → Bool) : (∃ i : Nat, i < l.length ∧ q l[i]! = true ∧ (∀ j < i, q l[j]! = false) ∧ idxC l q = i) ∨ ((∀ j < l.length, q l[j]! = false) ∧ idxC l q = -1) := by
  cases h : l.findIdx? q with
  | some i =>
    left
    have h0 := h
    rw [List.findIdx?_eq_some_iff_getElem] at h
    obtain ⟨hi, h1, h2⟩ := h
    refine ⟨i, hi, by rw [getElem!_pos l i hi]; exact h1, fun j hj => ?_, by unfold idxC; rw [h0]⟩
    rw [getElem!_pos l j (by omega)]
    simpa using h2 j hj
  | none =>
    right
    have h0 := h
    rw [List.findIdx?_eq_none_iff] at h
    refine ⟨fun j hj => ?_, by unfold idxC; rw [h0]⟩
    rw [getElem!_pos l j hj]; exact h _ (List.getElem_mem hj)
theorem filter_none {l : List Ch} {q : Ch → Bool} (h : ∀ j < l.length, q l[j]! = false) : l.filter q = [] := by
  rw [List.filter_eq_nil_iff]
  intro x hx
  obtain ⟨i, hi, rfl⟩ := List.mem_iff_getElem.1 hx
  have := h i hi
  rw [getElem!_pos l i hi] at this
  simp [this]
theorem filter_some {l : List Ch} {q : Ch → Bool} {i : Nat} (hi : i < l.length) (h1 : q l[i]! = true) (h2 : ∀ j < i, q l[j]! = false) : ∃ r, l.filter q = l[i]! :: r := by
  have e : l = l.take i ++ l[i]! :: l.drop (i + 1) := by
    rw [getElem!_pos l i hi, ← List.drop_eq_getElem_cons hi, List.take_append_drop]
  have h3 : (l.take i).filter q = [] := by
    refine filter_none (fun j hj => ?_)
    simp at hj
    have := h2 j (by omega)
    rw [getElem!_pos l j (by omega)] at this
    rw [getElem!_pos (l.take i) j (by simp; omega)]; simpa using this
  refine ⟨(l.drop (i + 1)).filter q, ?_⟩
  conv => lhs; rw [e]
  rw [List.filter_append, h3, List.nil_append, List.filter_cons, if_pos h1]
theorem indexC_ok (l : List Ch) (hl : l.length ≤ 1048576) (f : FuncId) (cs : List AV) (q : Ch → Bool) (hp : PureF G f) (ht : ∀ h, treeBL 0 h cs = cs) (hok : ∀ i < l.length, FnT G f (eC l[i]! :: cs) (Bo (q l[i]!))) :
    FnT G f_slices_IndexFunc___api_Choice_api_Choice_ [.lst (l.map eC), .fn f cs] (I (idxC l q)) := by
  refine FnP.mk' g_slices_IndexFunc___api_Choice_api_Choice_ rfl rfl ?_
  simp only [go_sem, ↓reduceIte, ↓guardT_tt, ↓guardT_tf, ↓guardT_ft, ↓guardT_ff, ↓condT_t, ↓condT_f, c_slices_IndexFunc___api_Choice_api_Choice_]
  refine wp_loopQ (fun (i : Nat) σ => i ≤ l.length ∧ (∀ j < i, q l[j]! = false) ∧ σ = ⟨aT .undef 19 [(0, .lst (l.map eC)), (1, .fn f cs), (7, I l.length), (8, I i)], [], []⟩) (fun i => l.length - i) ?_ 0 ?_
  · rintro i σ ⟨hi, hall, rfl⟩ N Q hQ hN
    by_cases hlt : i < l.length
    · have hcall : ∀ {fr : Bool} {roots : List Nat} {b : Nat} {ss : List Nat} {σ : St} {k : AV → St → Prop}, callT G f (.agg [I l[i]!.N, I l[i]!.W] :: cs) fr roots b ss σ k = k (Bo (q l[i]!)) σ := (hok i hlt).rule
      simp only [go_sem, ↓reduceIte, ↓guardT_tt, ↓guardT_tf, ↓guardT_ft, ↓guardT_ff, ↓condT_t, ↓condT_f, eC, wrap_succ hlt (by omega), Int.ofNat_lt, hlt, hp, ht, hcall]
      refine ⟨fun h => ?_, fun h => hN (i + 1) _ (by omega) ⟨by omega, forall_lt_succ hall h, ?_⟩⟩
      · subst hQ; simp only [go_sem, ↓reduceIte, ↓guardT_tt, ↓guardT_tf, ↓guardT_ft, ↓guardT_ff, ↓condT_t, ↓condT_f]; rw [idxC_at hlt hall h]
      · simp only [go_sem, ↓reduceIte, ↓guardT_tt, ↓guardT_tf, ↓guardT_ft, ↓guardT_ff, ↓condT_t, ↓condT_f]
    · have hil : i = l.length := by omega
      subst hil hQ
      simp only [go_sem, ↓reduceIte, ↓guardT_tt, ↓guardT_tf, ↓guardT_ft, ↓guardT_ff, ↓condT_t, ↓condT_f, Int.ofNat_lt, hlt]
      rw [idxC_none hall]
  · exact ⟨by omega, by simp, by simp only [go_sem, ↓reduceIte, ↓guardT_tt, ↓guardT_tf, ↓guardT_ft, ↓guardT_ff, ↓condT_t, ↓condT_f]⟩
theorem chosen1_ok (N : Int) (w p : Nat) (hw : w < 2 ^ 63) : FnT G f_family_chosen_1 [.agg [I N, I w], .pfro [I p]] (Bo (w.testBit p)) := by
  refine FnP.mk' g_family_chosen_1 rfl rfl ?_
  simp only [go_sem, ↓reduceIte, ↓guardT_tt, ↓guardT_tf, ↓guardT_ft, ↓guardT_ff, ↓condT_t, ↓condT_f, c_family_chosen_1, has_r hw]
/-- the number that is chosen, or -1 -/
def nextOf (l : List Ch) (p : Nat) : Int := (chosenL l p).headD (-1)
theorem chosen_ok (l : List Ch) (hl : l.length ≤ 1048576) (hw : WOk l) (p : Nat) : FnT G f_family_chosen [.lst (l.map eC), I p] (.tup [I ((chosenL l p).headD 0), Bo (!(chosenL l p).isEmpty)]) := by
  have hix := indexC_ok l hl f_family_chosen_1 [.pfro [I p]] (fun c => c.W.toNat.testBit p) pure_family_chosen_1 (fun h => rfl) (fun i hi => by
    obtain ⟨w, hw1, hw2⟩ := hw i hi
    unfold eC; rw [hw1, Int.toNat_natCast]; exact chosen1_ok _ w p (by omega))
  have hcall : ∀ {fr : Bool} {roots : List Nat} {b : Nat} {ss : List Nat} {σ : St} {k : AV → St → Prop}, callT G f_slices_IndexFunc___api_Choice_api_Choice_ [.lst (l.map eC), .fn f_family_chosen_1 [.pfro [I p]]] fr roots b ss σ k = k (I (idxC l fun c => c.W.toNat.testBit p)) σ := hix.rule
  refine FnP.mk' g_family_chosen rfl rfl ?_
  simp only [go_sem, ↓reduceIte, ↓guardT_tt, ↓guardT_tf, ↓guardT_ft, ↓guardT_ff, ↓condT_t, ↓condT_f, c_family_chosen, eC, hcall]
  rcases idxC_cases l (fun c => c.W.toNat.testBit p) with ⟨i, h1, h2, h3, h4⟩ | ⟨h1, h2⟩
  · obtain ⟨r, hr⟩ := filter_some (q := fun c => c.W.toNat.testBit p) h1 h2 h3
    have hc : chosenL l p = l[i]!.N :: r.map (·.N) := by unfold chosenL; rw [hr]; rfl
    rw [h4, hc]
    simp only [Int.toNat_natCast, List.headD_cons, List.isEmpty_cons]
    exact ⟨fun h => absurd h (by omega), fun h => ⟨by omega, h1, rfl⟩⟩
  · have hc : chosenL l p = [] := by unfold chosenL; rw [filter_none h1]; rfl
    rw [h2, hc]
    refine ⟨fun h => rfl, fun h => by omega⟩
theorem chosen_r {l : List Ch} (hl : l.length ≤ 1048576) (hw : WOk l) {p : Nat} {fr : Bool} {roots : List Nat} {b : Nat} {ss : List Nat} {σ : St} {k : AV → St → Prop} :
    callT G f_family_chosen [.lst (l.map eC), I p] fr roots b ss σ k = k (.tup [I ((chosenL l p).headD 0), Bo (!(chosenL l p).isEmpty)]) σ := (chosen_ok l hl hw p).rule
theorem clone_ok (l : List ByteArray) (hl : l.length ≤ 1048576) : FnS G f_slices_Clone___string_string_ [.lst (l.map .str)] (.lst (l.map .str)) := by
  cases l with
  | nil => exact ⟨F_slices_Clone___string_string_, 30, g_slices_Clone___string_string_, rfl, rfl, rfl, rfl⟩
  | cons x l =>
    have h : Fn G f_slices_Clone___string_string_ [.lst ((x :: l).map .str)] (.lst ((x :: l).map .str)) := by
      refine FnP.mk' g_slices_Clone___string_string_ rfl rfl ?_
      simp only [go_sem, ↓reduceIte, ↓guardT_tt, ↓guardT_tf, ↓guardT_ft, ↓guardT_ff, ↓condT_t, ↓condT_f, c_slices_Clone___string_string_]
      exact ⟨fun h => by simp at h, fun _ => ⟨by simp at hl; omega, rfl⟩⟩
    obtain ⟨F, n, rs, σ1, hf, h1, h2, h3, h4, hr, hR⟩ := h
    refine ⟨F, n, hf, h1, h2, h3, ?_⟩
    unfold callX
    rw [h4]; simp only [Bool.false_eq_true, if_false, hr, Bool.true_or, if_true, give, h3, hR]
end Go.Mw

/- The specification of a product. -/
namespace Go.Mw
set_option linter.unusedVariables false
set_option linter.unusedSimpArgs false
set_option maxRecDepth 100000
structure Stt where
  A : List Int
  X : List Int
  deriving Inhabited
structure Spc where
  acts : List ByteArray
  S : List Stt
  deriving Inhabited
def eSt (x : Stt) : AV := .agg [.lst (x.A.map I), .lst (x.X.map I)]
def eSp (s : Spc) : AV := .agg [.lst (s.acts.map .str), .lst (s.S.map eSt)]
def sttOf (x : Plan) (p : Nat) : Stt := ⟨chosenL x.A p, x.X.map fun l => nextOf l p⟩
def prodOf (f : Fam) (p : Nat) : Spc := ⟨f.acts, f.S.map fun x => sttOf x p⟩
/-- a state under way: its sets frozen, its targets a row -/
def eRow (x : Stt) : AV := .agg [.lst (x.A.map I), cellv .nils 1 (x.X.map I)]
theorem frz_eRow (x : Stt) : frz (eRow x) = eSt x := by simp only [eRow, eSt, go_sem]
theorem eRow_eq (x : Plan) (p : Nat) : eRow (sttOf x p) = .agg [.lst ((chosenL x.A p).map I), cellv .nils 1 (x.X.map fun l => I (nextOf l p))] := by simp [eRow, sttOf]; rfl
structure FWOk (f : Fam) : Prop where
  a : ∀ i < f.S.length, WOk f.S[i]!.A
  x : ∀ i < f.S.length, ∀ j < f.S[i]!.X.length, WOk f.S[i]!.X[j]!
theorem take_succ_map {α β : Type} [Inhabited α] (g : α → β) {l : List α} {i : Nat} (h : i < l.length) : (l.take (i + 1)).map g = (l.take i).map g ++ [g l[i]!] := by
  rw [List.take_succ_eq_append_getElem h, List.map_append, getElem!_pos l i h]; rfl
theorem prodR_ok (f : Fam) (hf : FSz f) (hw : FWOk f) (p : Nat) : Fn G f_makeweightref16_Product [eF f, I p] (eSp (prodOf f p)) := by
  refine FnP.mk' g_makeweightref16_Product rfl rfl ?_
  simp only [go_sem, ↓reduceIte, ↓guardT_tt, ↓guardT_tf, ↓guardT_ft, ↓guardT_ff, ↓condT_t, ↓condT_f, c_makeweightref16_Product, eF]
  refine ⟨by have := hf.a; omega, ?_⟩
  refine wp_loopQ (fun (i : Nat) σ => i ≤ f.S.length ∧ ∃ z a2 c2 a4 c4 a5 c5 a6 c6 a7 c7 a8 c8 a9 c9, σ = ⟨aT .undef 60 [(1, I p), (4, .ptr 1 1 [] 0 0 0), (5, .ptr 3 1 [] 0 0 0), (18, .lst (f.S.map eP)), (19, I f.S.length), (20, I i)],
      [⟨1, 0, .own 3 [.agg [.lst (f.acts.map .str), I f.P, .lst (f.S.map eP)]]⟩, ⟨1, 0, .own 2 [.agg [.nils, .nils]]⟩, ⟨a2, c2, .gone⟩, ⟨1, z, .own 2 [.agg [cellv .nils 1 (f.acts.map .str), cellv .nils 2 ((f.S.take i).map fun x => eRow (sttOf x p))]]⟩, ⟨a4, c4, .gone⟩, ⟨a5, c5, .gone⟩, ⟨a6, c6, .gone⟩, ⟨a7, c7, .gone⟩, ⟨a8, c8, .gone⟩, ⟨a9, c9, .gone⟩], []⟩) (fun i => f.S.length - i) ?_ 0 ?_
  · rintro i σ ⟨hi, z, a2, c2, a4, c4, a5, c5, a6, c6, a7, c7, a8, c8, a9, c9, rfl⟩ N Q hQ hN
    have hS := hf.s
    by_cases hlt : i < f.S.length
    · obtain ⟨g1, g2, g3⟩ := hf.p i hlt
      simp only [go_sem, ↓reduceIte, ↓guardT_tt, ↓guardT_tf, ↓guardT_ft, ↓guardT_ff, ↓condT_t, ↓condT_f, eP, wrap_succ hlt (by omega), Int.ofNat_lt, hlt, chosenR_r g1 (hw.a i hlt)]
      generalize hx : f.S[i]! = x at *
      have hwx : ∀ j < x.X.length, WOk x.X[j]! := fun j hj => by have := hw.x i hlt j (by rw [hx]; exact hj); rw [hx] at this; exact this
      refine wp_loopQ (fun (j : Nat) σ => j ≤ x.X.length ∧ ∃ z5 a6 c6 a7 c7, σ = ⟨aT .undef 60 [(1, I p), (4, .ptr 1 1 [] 0 0 0), (5, .ptr 3 1 [] 0 0 0), (8, .ptr 5 (a5 + 1) [] 0 0 0), (18, .lst (f.S.map eP)), (19, I f.S.length), (20, I i), (30, .lst (x.X.map eCs)), (31, I x.X.length), (32, I j)],
        [⟨1, 0, .own 3 [.agg [.lst (f.acts.map .str), I f.P, .lst (f.S.map eP)]]⟩, ⟨1, 0, .own 2 [.agg [.nils, .nils]]⟩, ⟨a2, c2, .gone⟩, ⟨1, z, .own 2 [.agg [cellv .nils 1 (f.acts.map .str), cellv .nils 2 ((f.S.take i).map fun x => eRow (sttOf x p))]]⟩, ⟨a4 + 1, 0, .own 2 [.agg [.lst (x.A.map eC), .lst (x.X.map eCs)]]⟩, ⟨a5 + 1, z5, .own 2 [.agg [.lst ((chosenL x.A p).map I), cellv .nils 1 ((x.X.take j).map fun l => I (nextOf l p))]]⟩, ⟨a6, c6, .gone⟩, ⟨a7, c7, .gone⟩, ⟨a8, c8, .gone⟩, ⟨a9, c9, .gone⟩], []⟩) (fun j => x.X.length - j) ?_ 0 ?_
      · rintro j σ ⟨hj, z5, a6, c6, a7, c7, rfl⟩ N2 Q2 hQ2 hN2
        by_cases hlt2 : j < x.X.length
        · have hl := g3 j hlt2
          simp only [go_sem, ↓reduceIte, ↓guardT_tt, ↓guardT_tf, ↓guardT_ft, ↓guardT_ff, ↓condT_t, ↓condT_f, eCs, wrap_succ hlt2 (by omega), Int.ofNat_lt, hlt2, chosenR_r hl (hwx j hlt2)]
          have hn : nextOf x.X[j]! p = if 0 < (chosenL x.X[j]! p).length then (chosenL x.X[j]! p)[0]! else -1 := by
            unfold nextOf; cases chosenL x.X[j]! p <;> simp
          refine ⟨fun h => ⟨by omega, by rw [List.length_take]; omega, hN2 (j + 1) _ (by omega) ⟨by omega, ?_⟩⟩, fun h => ⟨by rw [List.length_take]; omega, hN2 (j + 1) _ (by omega) ⟨by omega, ?_⟩⟩⟩
          · rw [if_pos (by omega)] at hn
            simp only [go_sem, ↓reduceIte, ↓guardT_tt, ↓guardT_tf, ↓guardT_ft, ↓guardT_ff, ↓condT_t, ↓condT_f, take_succ_map _ hlt2, hn]
            repeat apply Exists.intro
            rfl
          · rw [if_neg (by omega)] at hn
            simp only [go_sem, ↓reduceIte, ↓guardT_tt, ↓guardT_tf, ↓guardT_ft, ↓guardT_ff, ↓condT_t, ↓condT_f, take_succ_map _ hlt2, hn]
            repeat apply Exists.intro
            rfl
        · have hjl : j = x.X.length := by omega
          subst hjl hQ2
          simp only [go_sem, ↓reduceIte, ↓guardT_tt, ↓guardT_tf, ↓guardT_ft, ↓guardT_ff, ↓condT_t, ↓condT_f, Int.ofNat_lt, hlt2, List.take_length, wrap_succ hlt (show f.S.length ≤ 1000000000 by omega)]
          refine ⟨by rw [List.length_take]; omega, hN (i + 1) _ (by omega) ⟨by omega, ?_⟩⟩
          simp only [go_sem, ↓reduceIte, ↓guardT_tt, ↓guardT_tf, ↓guardT_ft, ↓guardT_ff, ↓condT_t, ↓condT_f, take_succ_map _ hlt, hx, eRow_eq]
          repeat apply Exists.intro
          rfl
      · refine ⟨by omega, ?_⟩
        simp only [go_sem, ↓reduceIte, ↓guardT_tt, ↓guardT_tf, ↓guardT_ft, ↓guardT_ff, ↓condT_t, ↓condT_f, List.take_zero]
        repeat apply Exists.intro
        rfl
    · have hil : i = f.S.length := by omega
      subst hil hQ
      simp only [go_sem, ↓reduceIte, ↓guardT_tt, ↓guardT_tf, ↓guardT_ft, ↓guardT_ff, ↓condT_t, ↓condT_f, Int.ofNat_lt, hlt, List.take_length, eSp, prodOf]
      simp only [List.map_map]
      have e : ∀ x, (frz ∘ fun x => eRow (sttOf x p)) x = (eSt ∘ fun x => sttOf x p) x := fun x => frz_eRow _
      rw [List.map_congr_left (fun x _ => e x)]
  · refine ⟨by omega, ?_⟩
    simp only [go_sem, ↓reduceIte, ↓guardT_tt, ↓guardT_tf, ↓guardT_ft, ↓guardT_ff, ↓condT_t, ↓condT_f, List.take_zero]
    repeat apply Exists.intro
    rfl
end Go.Mw

/- The specification of a product, as the program makes it. -/
namespace Go.Mw
set_option linter.unusedVariables false
set_option linter.unusedSimpArgs false
set_option maxRecDepth 100000
theorem clone_r {l : List ByteArray} (hl : l.length ≤ 1048576) {roots : List Nat} {b : Nat} {ss : List Nat} {σ : St} {k : AV → St → Prop} :
    callT G f_slices_Clone___string_string_ [.lst (l.map .str)] true roots b ss σ k = k (.lst (l.map .str)) σ := (clone_ok l hl).rule
/-- a state under way: two rows -/
def eRow2 (x : Stt) : AV := .agg [cellv .nils 1 (x.A.map I), cellv .nils 1 (x.X.map I)]
theorem frz_eRow2 (x : Stt) : frz (eRow2 x) = eSt x := by simp only [eRow2, eSt, go_sem]
theorem eRow2_eq (x : Plan) (p : Nat) : eRow2 (sttOf x p) = .agg [cellv .nils 1 ((chosenL x.A p).map I), cellv .nils 1 (x.X.map fun l => I (nextOf l p))] := by simp [eRow2, sttOf]; rfl
theorem single_ok (f : Fam) (hf : FSz f) (hw : FWOk f) (p : Nat) : Fn G f_family_single [eF f, I p] (eSp (prodOf f p)) := by
  refine FnP.mk' g_family_single rfl rfl ?_
  simp only [go_sem, ↓reduceIte, ↓guardT_tt, ↓guardT_tf, ↓guardT_ft, ↓guardT_ff, ↓condT_t, ↓condT_f, c_family_single, eF, clone_r hf.a]
  refine wp_loopQ (fun (i : Nat) σ => i ≤ f.S.length ∧ ∃ z a3 c3 a4 c4 a5 c5 a6 c6 a7 c7 a8 c8 a9 c9 a10 c10 a11 c11, σ = ⟨aT .undef 75 [(1, I p), (4, .ptr 1 1 [] 0 0 0), (5, .ptr 2 1 [] 0 0 0), (20, .lst (f.S.map eP)), (21, I f.S.length), (22, I i)],
      [⟨1, 0, .own 3 [.agg [.lst (f.acts.map .str), I f.P, .lst (f.S.map eP)]]⟩, ⟨1, 0, .own 2 [.agg [.nils, .nils]]⟩, ⟨1, z, .own 2 [.agg [.lst (f.acts.map .str), cellv .nils 2 ((f.S.take i).map fun x => eRow2 (sttOf x p))]]⟩, ⟨a3, c3, .gone⟩, ⟨a4, c4, .gone⟩, ⟨a5, c5, .gone⟩, ⟨a6, c6, .gone⟩, ⟨a7, c7, .gone⟩, ⟨a8, c8, .gone⟩, ⟨a9, c9, .gone⟩, ⟨a10, c10, .gone⟩, ⟨a11, c11, .gone⟩], []⟩) (fun i => f.S.length - i) ?_ 0 ?_
  · rintro i σ ⟨hi, z, a3, c3, a4, c4, a5, c5, a6, c6, a7, c7, a8, c8, a9, c9, a10, c10, a11, c11, rfl⟩ N Q hQ hN
    have hS := hf.s
    by_cases hlt : i < f.S.length
    · obtain ⟨g1, g2, g3⟩ := hf.p i hlt
      have hwa := hw.a i hlt
      simp only [go_sem, ↓reduceIte, ↓guardT_tt, ↓guardT_tf, ↓guardT_ft, ↓guardT_ff, ↓condT_t, ↓condT_f, eP, wrap_succ hlt (by omega), Int.ofNat_lt, hlt]
      generalize hx : f.S[i]! = x at *
      have hwx : ∀ j < x.X.length, WOk x.X[j]! := fun j hj => by have := hw.x i hlt j (by rw [hx]; exact hj); rw [hx] at this; exact this
      refine wp_loopQ (fun (j : Nat) σ => j ≤ x.A.length ∧ ∃ z4 a5 c5 a6 c6 a7 c7, σ = ⟨aT .undef 75 [(1, I p), (4, .ptr 1 1 [] 0 0 0), (5, .ptr 2 1 [] 0 0 0), (7, .ptr 3 (a3 + 1) [] 0 0 0), (8, .ptr 4 (a4 + 1) [] 0 0 0), (20, .lst (f.S.map eP)), (21, I f.S.length), (22, I i), (27, .lst (x.A.map eC)), (28, I x.A.length), (29, I j)],
        [⟨1, 0, .own 3 [.agg [.lst (f.acts.map .str), I f.P, .lst (f.S.map eP)]]⟩, ⟨1, 0, .own 2 [.agg [.nils, .nils]]⟩, ⟨1, z, .own 2 [.agg [.lst (f.acts.map .str), cellv .nils 2 ((f.S.take i).map fun x => eRow2 (sttOf x p))]]⟩, ⟨a3 + 1, 0, .own 2 [.agg [.lst (x.A.map eC), .lst (x.X.map eCs)]]⟩, ⟨a4 + 1, z4, .own 2 [.agg [cellv .nils 1 ((chosenL (x.A.take j) p).map I), .nils]]⟩, ⟨a5, c5, .gone⟩, ⟨a6, c6, .gone⟩, ⟨a7, c7, .gone⟩, ⟨a8, c8, .gone⟩, ⟨a9, c9, .gone⟩, ⟨a10, c10, .gone⟩, ⟨a11, c11, .gone⟩], []⟩) (fun j => x.A.length - j) ?_ 0 ?_
      · rintro j σ ⟨hj, z4, a5, c5, a6, c6, a7, c7, rfl⟩ N2 Q2 hQ2 hN2
        by_cases hlt2 : j < x.A.length
        · obtain ⟨w, hw1, hw2⟩ := hwa j hlt2
          have hsm := @chosenL_len (x.A.take j) p
          rw [List.length_take] at hsm
          simp only [go_sem, ↓reduceIte, ↓guardT_tt, ↓guardT_tf, ↓guardT_ft, ↓guardT_ff, ↓condT_t, ↓condT_f, eC, wrap_succ hlt2 (by omega), Int.ofNat_lt, hlt2, hw1, has_r (show w < 2 ^ 63 by omega)]
          refine ⟨fun hb => ⟨by omega, hN2 (j + 1) _ (by omega) ⟨by omega, ?_⟩⟩, fun hb => hN2 (j + 1) _ (by omega) ⟨by omega, ?_⟩⟩
          · simp only [go_sem, ↓reduceIte, ↓guardT_tt, ↓guardT_tf, ↓guardT_ft, ↓guardT_ff, ↓condT_t, ↓condT_f, chosenL_succ hlt2, hw1, hb, List.map_append]
            repeat apply Exists.intro
            rfl
          · simp only [go_sem, ↓reduceIte, ↓guardT_tt, ↓guardT_tf, ↓guardT_ft, ↓guardT_ff, ↓condT_t, ↓condT_f, chosenL_succ hlt2, hw1, hb]
            repeat apply Exists.intro
            rfl
        · have hjl : j = x.A.length := by omega
          subst hjl hQ2
          simp only [go_sem, ↓reduceIte, ↓guardT_tt, ↓guardT_tf, ↓guardT_ft, ↓guardT_ff, ↓condT_t, ↓condT_f, Int.ofNat_lt, hlt2, List.take_length]
          refine wp_loopQ (fun (j : Nat) σ => j ≤ x.X.length ∧ ∃ z4 a8 c8 a9 c9, σ = ⟨aT .undef 75 [(1, I p), (4, .ptr 1 1 [] 0 0 0), (5, .ptr 2 1 [] 0 0 0), (8, .ptr 4 (a4 + 1) [] 0 0 0), (20, .lst (f.S.map eP)), (21, I f.S.length), (22, I i), (46, .lst (x.X.map eCs)), (47, I x.X.length), (48, I j)],
            [⟨1, 0, .own 3 [.agg [.lst (f.acts.map .str), I f.P, .lst (f.S.map eP)]]⟩, ⟨1, 0, .own 2 [.agg [.nils, .nils]]⟩, ⟨1, z, .own 2 [.agg [.lst (f.acts.map .str), cellv .nils 2 ((f.S.take i).map fun x => eRow2 (sttOf x p))]]⟩, ⟨a3 + 1, 0, .own 2 [.agg [.lst (x.A.map eC), .lst (x.X.map eCs)]]⟩, ⟨a4 + 1, z4, .own 2 [.agg [cellv .nils 1 ((chosenL x.A p).map I), cellv .nils 1 ((x.X.take j).map fun l => I (nextOf l p))]]⟩, ⟨a5, c5, .gone⟩, ⟨a6, c6, .gone⟩, ⟨a7, c7, .gone⟩, ⟨a8, c8, .gone⟩, ⟨a9, c9, .gone⟩, ⟨a10, c10, .gone⟩, ⟨a11, c11, .gone⟩], []⟩) (fun j => x.X.length - j) ?_ 0 ?_
          · rintro j σ ⟨hj, z4, a8, c8, a9, c9, rfl⟩ N3 Q3 hQ3 hN3
            by_cases hlt3 : j < x.X.length
            · have hl := g3 j hlt3
              simp only [go_sem, ↓reduceIte, ↓guardT_tt, ↓guardT_tf, ↓guardT_ft, ↓guardT_ff, ↓condT_t, ↓condT_f, eCs, wrap_succ hlt3 (by omega), Int.ofNat_lt, hlt3, chosen_r hl (hwx j hlt3)]
              refine ⟨fun h => ⟨by rw [List.length_take]; omega, hN3 (j + 1) _ (by omega) ⟨by omega, ?_⟩⟩, fun h => ⟨by rw [List.length_take]; omega, hN3 (j + 1) _ (by omega) ⟨by omega, ?_⟩⟩⟩
              · have hn : nextOf x.X[j]! p = -1 := by
                  unfold nextOf; cases hc : chosenL x.X[j]! p <;> rw [hc] at h <;> first | rfl | (simp at h; done) | (cases h; done) | trace_state
                simp only [go_sem, ↓reduceIte, ↓guardT_tt, ↓guardT_tf, ↓guardT_ft, ↓guardT_ff, ↓condT_t, ↓condT_f, take_succ_map _ hlt3, hn]
                repeat apply Exists.intro
                rfl
              · have hn : nextOf x.X[j]! p = (chosenL x.X[j]! p).headD 0 := by
                  unfold nextOf; cases hc : chosenL x.X[j]! p <;> rw [hc] at h <;> first | rfl | (simp at h; done) | (cases h; done) | trace_state
                simp only [go_sem, ↓reduceIte, ↓guardT_tt, ↓guardT_tf, ↓guardT_ft, ↓guardT_ff, ↓condT_t, ↓condT_f, take_succ_map _ hlt3, hn]
                repeat apply Exists.intro
                rfl
            · have hjl : j = x.X.length := by omega
              subst hjl hQ3
              simp only [go_sem, ↓reduceIte, ↓guardT_tt, ↓guardT_tf, ↓guardT_ft, ↓guardT_ff, ↓condT_t, ↓condT_f, Int.ofNat_lt, hlt3, List.take_length, wrap_succ hlt (show f.S.length ≤ 1000000000 by omega)]
              refine ⟨by rw [List.length_take]; omega, hN (i + 1) _ (by omega) ⟨by omega, ?_⟩⟩
              simp only [go_sem, ↓reduceIte, ↓guardT_tt, ↓guardT_tf, ↓guardT_ft, ↓guardT_ff, ↓condT_t, ↓condT_f, take_succ_map _ hlt, hx, eRow2_eq]
              repeat apply Exists.intro
              rfl
          · refine ⟨by omega, ?_⟩
            simp only [go_sem, ↓reduceIte, ↓guardT_tt, ↓guardT_tf, ↓guardT_ft, ↓guardT_ff, ↓condT_t, ↓condT_f, List.take_zero]
            repeat apply Exists.intro
            rfl
      · refine ⟨by omega, ?_⟩
        simp only [go_sem, ↓reduceIte, ↓guardT_tt, ↓guardT_tf, ↓guardT_ft, ↓guardT_ff, ↓condT_t, ↓condT_f, chosenL, List.take_zero, List.filter_nil]
        repeat apply Exists.intro
        rfl
    · have hil : i = f.S.length := by omega
      subst hil hQ
      simp only [go_sem, ↓reduceIte, ↓guardT_tt, ↓guardT_tf, ↓guardT_ft, ↓guardT_ff, ↓condT_t, ↓condT_f, Int.ofNat_lt, hlt, List.take_length, eSp, prodOf]
      simp only [List.map_map]
      have e : ∀ x, (frz ∘ fun x => eRow2 (sttOf x p)) x = (eSt ∘ fun x => sttOf x p) x := fun x => frz_eRow2 _
      rw [List.map_congr_left (fun x _ => e x)]
  · refine ⟨by omega, ?_⟩
    simp only [go_sem, ↓reduceIte, ↓guardT_tt, ↓guardT_tf, ↓guardT_ft, ↓guardT_ff, ↓condT_t, ↓condT_f, List.take_zero]
    repeat apply Exists.intro
    rfl
end Go.Mw

/- Drawn regions whose operations may meet. -/
namespace Go.Mw
set_option linter.unusedVariables false
set_option linter.unusedSimpArgs false
set_option maxRecDepth 100000
def WpDr (G : Prg) (ops : List Rop) (b : Nat) (σ : St) (K : St → List (Option (List Nat)) → Prop) (u : Tg K := tg) : Prop := WpD G ops b σ K
theorem wp_drwT {G : Prg} {ops : List Rop} {x : Nat × Nat} {prs : List (Nat × Nat)} {b : Nat} {σ : St} {Q : Ex → St → Prop} :
    Wp G (.drw ops (x :: prs)) b σ Q = WpDr G ops b σ (fun σ1 fs => (x :: prs).all (fun p => apart (fs.getD p.1 none) (fs.getD p.2 none)) = true ∧ Q .nrm σ1) := wp_drw
theorem wpDr_congr {G : Prg} {ops : List Rop} {b : Nat} {σ τ : St} {K : St → List (Option (List Nat)) → Prop} (h : σ = τ) : WpDr G ops b σ K = WpDr G ops b τ K := by rw [h]
attribute [congr] wpDr_congr
theorem wpDr_nil {G : Prg} {b : Nat} {σ : St} {K : St → List (Option (List Nat)) → Prop} : WpDr G [] b σ K = K σ [] :=
  propext ⟨fun ⟨n, σ', fs, h, k⟩ => by simp [drwE] at h; obtain ⟨rfl, rfl⟩ := h; exact k, fun k => ⟨0, σ, [], rfl, k⟩⟩
theorem drwE_le {G : Prg} {n m : Nat} (h : n ≤ m) {ops : List Rop} {b : Nat} {σ : St} {r : St × List (Option (List Nat))} (hx : drwE G (evO G n) ops b σ = some r) : drwE G (evO G m) ops b σ = some r :=
  drwE_mono (fun i b σ r h2 => (monoLe h).2.1 i b σ r h2) _ _ _ _ hx
/-- one operation, as a function of fuel -/
theorem wpI_ex {G : Prg} {i : Ins} {b : Nat} {σ : St} {k : AV → St → Prop} : wpI G i b σ k ↔ ∃ n v σ1, evO G n i b σ = some (v, σ1) ∧ k v σ1 := by
  have h := wpO_cons (G := G) (d := none) (i := i) (os := []) (b := b) (σ := σ) (K := fun _ => True)
  have key : ∀ k : AV → St → Prop, wpI G i b σ k = ∃ n v σ1, evO G n i b σ = some (v, σ1) ∧ k v σ1 := by
    intro k
    cases i with
    | call f xs ss =>
      refine propext ⟨fun ⟨n, v, σ1, h1, h2⟩ => ⟨n + 1, v, σ1, h1, h2⟩, fun ⟨n, v, σ1, h1, h2⟩ => ?_⟩
      cases n with
      | zero => simp [evO] at h1
      | succ n => exact ⟨n, v, σ1, h1, h2⟩
    | calv x xs ss =>
      show calvK G (σ.get x) (σ.gets xs) b ss σ k = _
      cases hx : σ.get x with
      | fn f cs =>
        refine propext ⟨fun ⟨n, v, σ1, h1, h2⟩ => ⟨n + 1, v, σ1, by rw [evO, hx]; exact h1, h2⟩, fun ⟨n, v, σ1, h1, h2⟩ => ?_⟩
        cases n with
        | zero => simp [evO] at h1
        | succ n => rw [evO, hx] at h1; exact ⟨n, v, σ1, h1, h2⟩
      | yld l =>
        refine propext ⟨fun ⟨n, v, σ1, h1, h2⟩ => ⟨n + 1, v, σ1, by rw [evO, hx]; exact h1, h2⟩, fun ⟨n, v, σ1, h1, h2⟩ => ?_⟩
        cases n with
        | zero => simp [evO] at h1
        | succ n => rw [evO, hx] at h1; exact ⟨n, v, σ1, h1, h2⟩
      | _ =>
        refine propext ⟨fun h => h.elim, fun ⟨n, v, σ1, h1, h2⟩ => ?_⟩
        cases n with
        | zero => simp [evO] at h1
        | succ n => simp [evO, hx] at h1
    | _ =>
      refine propext ⟨fun h => ?_, fun ⟨n, v, σ1, h1, h2⟩ => ?_⟩
      · refine ⟨1, ?_⟩
        rw [evO_plain rfl]
        simp only [wpI, stepK] at h
        split at h
        · rename_i v h' hx; exact ⟨v, { σ with h := h' }, rfl, h⟩
        · exact h.elim
      · cases n with
        | zero => simp [evO] at h1
        | succ n =>
          rw [evO_plain rfl] at h1
          simp only [wpI, stepK]
          split at h1
          · rename_i v' h' hx; simp only [Option.some.injEq, Prod.mk.injEq] at h1; obtain ⟨rfl, rfl⟩ := h1; exact h2
          · cases h1
  rw [key k]
theorem wpDr_cons {G : Prg} {d : Option Nat} {i : Ins} {os : List Rop} {b : Nat} {σ : St} {K : St → List (Option (List Nat)) → Prop} :
    WpDr G (⟨d, i, none⟩ :: os) b σ K = wpI G i b σ (fun v σ1 => WpDr G os b (σ1.put d v) (fun σ2 fs => K σ2 (foot G b i σ :: fs))) := by
  refine propext ⟨fun ⟨n, σ', fs, h, k⟩ => ?_, fun h => ?_⟩
  · rw [wpI_ex]
    simp only [drwE, wantedO] at h
    cases hx : evO G n i b σ with
    | none => simp [hx] at h
    | some p =>
      obtain ⟨v, σ1⟩ := p
      simp only [hx] at h
      cases hy : drwE G (evO G n) os b (σ1.put d v) with
      | none => simp [hy] at h
      | some q =>
        obtain ⟨σ2, fs2⟩ := q
        simp only [hy, Option.some.injEq, Prod.mk.injEq] at h
        obtain ⟨rfl, rfl⟩ := h
        exact ⟨n, v, σ1, hx, n, σ2, fs2, hy, k⟩
  · rw [wpI_ex] at h
    obtain ⟨n, v, σ1, h1, m, σ2, fs, h2, k⟩ := h
    refine ⟨max n m, σ2, foot G b i σ :: fs, ?_, k⟩
    simp only [drwE, wantedO, (monoLe (Nat.le_max_left n m)).2.1 _ _ _ _ h1, drwE_le (Nat.le_max_right n m) h2]
attribute [go_sem] wp_drwT wpDr_nil wpDr_cons
/-! #### feet -/
section
variable {G : Prg} {b : Nat} {σ : St} {x y z : Opd}
theorem foot_bxf : foot G b (.bxf x) σ = some [] := (rfl)
theorem foot_mov  : foot G b (.mov x) σ = some [] := (rfl)
theorem foot_pick  : foot G b (.pick x y z) σ = some [] := (rfl)
theorem foot_bin {op : BinOp} : foot G b (.bin op x y) σ = some [] := (rfl)
theorem foot_beq {ng : Bool} : foot G b (.beq ng x y) σ = some [] := (rfl)
theorem foot_un {uo : UnOp} : foot G b (.un uo x) σ = some [] := (rfl)
theorem foot_cvi {kk : IntKind} : foot G b (.cvi kk x) σ = some [] := (rfl)
theorem foot_ext {n : Nat} : foot G b (.ext x n) σ = some [] := (rfl)
theorem foot_lens  : foot G b (.lens x) σ = some [] := (rfl)
theorem foot_idx  : foot G b (.idx x y) σ = some [] := (rfl)
theorem foot_ixa {ag : Bool} {n : Nat} {m : Nat} : foot G b (.ixa ag n m x y) σ = some [] := (rfl)
theorem foot_fld {ag : Bool} {n : Nat} {m : Nat} : foot G b (.fld ag n m x) σ = some [] := (rfl)
theorem foot_ld {ag : Bool} {n : Nat} : foot G b (.ld ag n x) σ = some (rootsL [σ.get x]) := (rfl)
theorem foot_fad {n : Nat} : foot G b (.fad n x) σ = some (rootsL [σ.get x]) := (rfl)
theorem foot_lenl  : foot G b (.lenl x) σ = some (rootsL [σ.get x]) := (rfl)
theorem foot_lenm  : foot G b (.lenm x) σ = some (rootsL [σ.get x]) := (rfl)
theorem foot_sto {n : Nat} : foot G b (.sto n x y) σ = some (rootsL [σ.get x, σ.get y]) := (rfl)
theorem foot_iad {n : Nat} : foot G b (.iad n x y) σ = some (rootsL [σ.get x, σ.get y]) := (rfl)
theorem foot_iaa {n : Nat} {m : Nat} : foot G b (.iaa n m x y) σ = some (rootsL [σ.get x, σ.get y]) := (rfl)
theorem foot_nilc {ng : Bool} : foot G b (.nilc ng x y) σ = some (rootsL [σ.get x, σ.get y]) := (rfl)
theorem foot_alc {s n : Nat} {z : AV} : foot G b (.alc s n z) σ = some [b + s] := (rfl)
theorem foot_box {s n : Nat} : foot G b (.box s n x) σ = some ((b + s) :: rootsL [σ.get x]) := (rfl)
theorem foot_app {s n m : Nat} : foot G b (.app s n m x y) σ = some ((b + s) :: rootsL [σ.get x, σ.get y]) := (rfl)
theorem foot_mks {s n m : Nat} {z : AV} : foot G b (.mks s n m z x y) σ = some ((b + s) :: rootsL [σ.get x, σ.get y]) := (rfl)
theorem foot_bsl {s n m : Nat} {xs : List Opd} : foot G b (.bsl s n m xs) σ = some ((b + s) :: rootsL (σ.gets xs)) := (rfl)
theorem foot_bld {zs : List AV} {ps : List (Nat × Nat × Opd)} : foot G b (.bld zs ps) σ = some (rootsL (σ.gets (ps.map (·.2.2)))) := (rfl)
def footV (G : Prg) (v : AV) (ys : List AV) : Option (List Nat) :=
  match v with
  | .fn f cs => match G f with
    | some F => if F.pure then some (rootsL (ys ++ cs)) else none
    | none => none
  | _ => none
theorem foot_calv {xs : List Opd} : foot G b (.calv x xs []) σ = footV G (σ.get x) (σ.gets xs) := by
  simp only [foot, footV]
  generalize σ.get x = v
  cases v <;> first | rfl | (simp only [List.map_nil, List.nil_append])
theorem footV_fn {f : FuncId} {cs ys : List AV} (h : PureF G f) : footV G (.fn f cs) ys = some (rootsL (ys ++ cs)) := by
  obtain ⟨F, h1, h2⟩ := h
  simp [footV, h1, h2]
theorem foot_call {f : FuncId} {xs : List Opd} (h : PureF G f) : foot G b (.call f xs []) σ = some (rootsL (σ.gets xs)) := by
  obtain ⟨F, h1, h2⟩ := h
  simp [foot, h1, h2]
end
attribute [go_sem] foot_calv footV_fn foot_bxf foot_mov foot_pick foot_bin foot_beq foot_un foot_cvi foot_ext foot_lens foot_idx foot_ixa foot_fld foot_ld foot_fad foot_lenl foot_lenm foot_sto foot_iad foot_iaa foot_nilc foot_alc foot_box foot_app foot_mks foot_bsl foot_bld foot_call
theorem rootsL_nil' : rootsL [] = [] := (rfl)
theorem rootsL_cons' {x : AV} {xs : List AV} : rootsL (x :: xs) = rootsOf x ++ rootsL xs := (rfl)
theorem roots_int {κ : IntKind} {n : Int} : rootsOf (.int κ n) = [] := (rfl)
theorem roots_bool {v : Bool} : rootsOf (.bool v) = [] := (rfl)
theorem roots_str {v : ByteArray} : rootsOf (.str v) = [] := (rfl)
theorem roots_lst {v : List AV} : rootsOf (.lst v) = [] := (rfl)
theorem roots_nils : rootsOf .nils = [] := (rfl)
theorem roots_emp : rootsOf .emp = [] := (rfl)
theorem roots_undef : rootsOf .undef = [] := (rfl)
theorem roots_pfro {v : List AV} : rootsOf (.pfro v) = [] := (rfl)
theorem roots_sl {r st : Nat} {p : Path} {ss off len : Nat} : rootsOf (.sl r st p ss off len) = [r] := (rfl)
theorem roots_ptr {r st : Nat} {p : Path} {ss i j : Nat} : rootsOf (.ptr r st p ss i j) = [r] := (rfl)
theorem roots_mp {r st : Nat} {p : Path} {ss : Nat} : rootsOf (.mp r st p ss) = [r] := (rfl)
theorem roots_agg {v : List AV} : rootsOf (.agg v) = rootsL v := (rfl)
theorem roots_tup {v : List AV} : rootsOf (.tup v) = rootsL v := (rfl)
theorem roots_fn {f : FuncId} {v : List AV} : rootsOf (.fn f v) = rootsL v := (rfl)
/-- perhaps a place -/
def may (xs : List AV) (r : Nat) : List Nat := if xs = [] then [] else [r]
theorem roots_row {e : AV} {es r st : Nat} {xs : List AV} (he : e.void = true) : rootsOf (rowv e es r st xs) = may xs r := by
  unfold rowv may; split
  · cases e <;> first | rfl | (simp [AV.void] at he)
  · rfl
theorem roots_cell {e : AV} {es r st ss : Nat} {p : Path} {xs : List AV} (he : e.void = true) : rootsOf (rowc e es r st p ss xs) = may xs r := by
  unfold rowc may; split
  · cases e <;> first | rfl | (simp [AV.void] at he)
  · rfl
def notIn (r : Nat) (l : List Nat) : Prop := l.contains r = false
def noneIn (a b : List Nat) : Prop := (a.all fun r => !b.contains r) = true
theorem apart_0 {b : Option (List Nat)} : (apart (some []) b = true) = True := by simp [apart]
theorem apart_1 {x : Nat} {a b : List Nat} : (apart (some (x :: a)) (some b) = true) = noneIn (x :: a) b := by
  unfold noneIn; cases b with
  | nil => simp [apart]
  | cons y b => rfl
theorem apart_m {xs : List AV} {r : Nat} {a b : List Nat} : (apart (some (may xs r ++ a)) (some b) = true) = noneIn (may xs r ++ a) b := by
  unfold noneIn may
  split
  · cases a with
    | nil => simp [apart]
    | cons x a => cases b <;> simp [apart]
  · cases b <;> simp [apart]
theorem apart_m0 {xs : List AV} {r : Nat} {b : List Nat} : (apart (some (may xs r)) (some b) = true) = noneIn (may xs r) b := by
  have := @apart_m xs r [] b; rwa [List.append_nil] at this
theorem noneIn_nil {b : List Nat} : noneIn [] b = True := by simp [noneIn]
theorem noneIn_cons {x : Nat} {a b : List Nat} : noneIn (x :: a) b = (notIn x b ∧ noneIn a b) := by simp [noneIn, notIn]
theorem noneIn_may {xs : List AV} {r : Nat} {a b : List Nat} : noneIn (may xs r ++ a) b = ((xs ≠ [] → notIn r b) ∧ noneIn a b) := by
  unfold may; by_cases h : xs = [] <;> simp [h, noneIn, notIn]
theorem noneIn_may0 {xs : List AV} {r : Nat} {b : List Nat} : noneIn (may xs r) b = (xs ≠ [] → notIn r b) := by
  unfold may; by_cases h : xs = [] <;> simp [h, noneIn, notIn]
theorem notIn_nil {x : Nat} : notIn x [] = True := by simp [notIn]
theorem notIn_cons {x y : Nat} {b : List Nat} : notIn x (y :: b) = (¬ x = y ∧ notIn x b) := by simp [notIn]
theorem notIn_may {x : Nat} {xs : List AV} {r : Nat} {b : List Nat} : notIn x (may xs r ++ b) = ((xs ≠ [] → ¬ x = r) ∧ notIn x b) := by
  unfold may; by_cases h : xs = [] <;> simp [h, notIn]
theorem notIn_may0 {x : Nat} {xs : List AV} {r : Nat} : notIn x (may xs r) = (xs ≠ [] → ¬ x = r) := by
  unfold may; by_cases h : xs = [] <;> simp [h, notIn]
theorem all_pr {α : Type} {x : α} {l : List α} {q : α → Bool} : ((x :: l).all q = true) = (q x = true ∧ l.all q = true) := by simp
theorem all_pr0 {α : Type} {q : α → Bool} : (([] : List α).all q = true) = True := by simp
theorem pr_and {a b : Bool} : ((a && b) = true) = (a = true ∧ b = true) := by cases a <;> cases b <;> simp
attribute [go_sem] pr_and rootsL_nil' rootsL_cons' roots_int roots_bool roots_str roots_lst roots_nils roots_emp roots_undef roots_pfro roots_sl roots_ptr roots_mp roots_agg roots_tup roots_fn roots_row roots_cell apart_0 apart_1 apart_m apart_m0 noneIn_may0 notIn_may0 noneIn_nil noneIn_cons noneIn_may notIn_nil notIn_cons notIn_may all_pr all_pr0
end Go.Mw

/- The same? small or not? -/
namespace Go.Mw
set_option linter.unusedVariables false
set_option linter.unusedSimpArgs false
set_option maxRecDepth 100000
section
variable {fr : Bool} {roots : List Nat} {b : Nat} {ss : List Nat} {σ : St} {k : AV → St → Prop}
end
structure SpSz (t : Spc) : Prop where
  a : t.acts.length ≤ 1048576
  s : t.S.length ≤ 1048576
  x : ∀ i < t.S.length, t.S[i]!.A.length ≤ 1048576 ∧ t.S[i]!.X.length ≤ 1048576
end Go.Mw

/- Small or not: only that there is an answer. -/
namespace Go.Mw
set_option linter.unusedVariables false
set_option linter.unusedSimpArgs false
set_option maxRecDepth 100000
theorem FnP.flat {f : FuncId} {xs : List AV} (h : FnP G f xs fun rs h => ∃ v, packV (treeBL 0 h rs) = Bo v ∧ rs.all AV.flats = true) : ∃ v, FnT G f xs (Bo v) := by
  obtain ⟨F, n, rs, σ1, hf, h1, h2, h3, h4, hr, v, hR⟩ := h
  exact ⟨v, F, n, rs, σ1, hf, h1, h2, h3, h4, hr, hR⟩
end Go.Mw

/- Check and Product, as a caller sees them. -/
namespace Go.Mw
set_option linter.unusedVariables false
set_option linter.unusedSimpArgs false
set_option maxRecDepth 100000
theorem choOk_at {l : List Ch} {most : Int} {p : Int → Bool} (h : choOk l most p = true) : ∀ i < l.length, p l[i]!.N = true ∧ 1 ≤ l[i]!.W ∧ l[i]!.W < most ∧ (0 < i → l[i-1]!.N < l[i]!.N) := by
  unfold choOk at h; rw [decide_eq_true_eq] at h; exact h
theorem choOk_W {l : List Ch} {pr : Nat} {p : Int → Bool} (hp : pr ≤ 32) (h : choOk l ((2 ^ pr : Nat) : Int) p = true) : WOk l := by
  intro i hi
  obtain ⟨_, h1, h2, _⟩ := choOk_at h i hi
  have h3 : (2 : Nat) ^ pr ≤ 2 ^ 32 := Nat.pow_le_pow_right (by omega) hp
  exact ⟨l[i]!.W.toNat, by omega, by omega⟩
theorem FamOk.w {f : Fam} (h : FamOk f) : FWOk f := by
  have h32 : f.P.toNat ≤ 32 := by have := h.p2; omega
  exact ⟨fun i hi => choOk_W h32 (h.plan i hi).acc, fun i hi j hj => choOk_W h32 ((h.plan i hi).nxt j hj).1⟩
section
variable {fr : Bool} {roots : List Nat} {b : Nat} {ss : List Nat} {σ : St} {k : AV → St → Prop}
theorem single_r {f : Fam} (hf : FSz f) (hw : FWOk f) {p : Nat} : callT G f_family_single [.agg [.lst (f.acts.map .str), I f.P, .lst (f.S.map eP)], I p] true roots b ss σ k = k (eSp (prodOf f p)) σ := (single_ok f hf hw p).rule
theorem prodR_r {f : Fam} (hf : FSz f) (hw : FWOk f) {p : Nat} : callT G f_makeweightref16_Product [.agg [.lst (f.acts.map .str), I f.P, .lst (f.S.map eP)], I p] true roots b ss σ k = k (eSp (prodOf f p)) σ := (prodR_ok f hf hw p).rule
end
end Go.Mw

/- A copy of a family. -/
namespace Go.Mw
set_option linter.unusedVariables false
set_option linter.unusedSimpArgs false
set_option maxRecDepth 100000
def rowCh (l : List Ch) : AV := cellv .nils 2 (l.map eC)
def rowP (p : Plan) (j : Nat) : AV := .agg [cellv .nils 2 (p.A.map eC), cellv .nils 1 ((p.X.take j).map rowCh)]
theorem frz_mapC {l : List Ch} : (l.map eC).map frz = l.map eC := by rw [List.map_map]; rfl
theorem frz_rowCh (l : List Ch) : frz (rowCh l) = eCs l := by simp only [rowCh, eCs, go_sem, frz_mapC]
theorem frz_rowP (p : Plan) {j : Nat} (h : p.X.length ≤ j) : frz (rowP p j) = eP p := by
  simp only [rowP, eP, go_sem, frz_mapC, List.take_of_length_le h, List.map_map]
  have e1 : frz ∘ eC = eC := rfl
  have e2 : frz ∘ rowCh = eCs := funext frz_rowCh
  rw [e1, e2]
theorem headOk_C {l : List Ch} : headOk 2 (l.map eC) := by
  cases l <;> simp [headOk, eC, AV.cells]
theorem copy_ok (f : Fam) (hf : FSz f) : Fn G f_makeweightref16_Copy [eF f] (eF f) := by
  refine FnP.mk' g_makeweightref16_Copy rfl rfl ?_
  have ha := hf.a
  have hS := hf.s
  simp only [go_sem, ↓reduceIte, ↓guardT_tt, ↓guardT_tf, ↓guardT_ft, ↓guardT_ff, ↓condT_t, ↓condT_f, c_makeweightref16_Copy, eF]
  refine ⟨by omega, ?_⟩
  refine wp_loopQ (fun (i : Nat) σ => i ≤ f.S.length ∧ ∃ a0 c0 a2 c2 z a4 c4 a5 c5 a6 c6 a7 c7 a8 c8 a9 c9 a10 c10 a11 c11, σ = ⟨aT .undef 49 [(2, .ptr 1 1 [] 0 0 0), (3, .ptr 3 1 [] 0 0 0), (16, .lst (f.S.map eP)), (17, I f.S.length), (18, I i)],
      [⟨a0, c0, .own 3 [.agg [.lst (f.acts.map .str), I f.P, .lst (f.S.map eP)]]⟩, ⟨1, 0, .own 3 [.agg [.nils, I 0, .nils]]⟩, ⟨a2, c2, .gone⟩, ⟨1, z, .own 3 [.agg [cellv .nils 1 (f.acts.map .str), I f.P, cellv .nils 2 ((f.S.take i).map fun p => rowP p p.X.length)]]⟩, ⟨a4, c4, .gone⟩, ⟨a5, c5, .gone⟩, ⟨a6, c6, .gone⟩, ⟨a7, c7, .gone⟩, ⟨a8, c8, .gone⟩, ⟨a9, c9, .gone⟩, ⟨a10, c10, .gone⟩, ⟨a11, c11, .gone⟩], []⟩) (fun i => f.S.length - i) ?_ 0 ?_
  · rintro i σ ⟨hi, a0, c0, a2, c2, z, a4, c4, a5, c5, a6, c6, a7, c7, a8, c8, a9, c9, a10, c10, a11, c11, rfl⟩ N Q hQ hN
    by_cases hlt : i < f.S.length
    · obtain ⟨g1, g2, g3⟩ := hf.p i hlt
      simp only [go_sem, ↓reduceIte, ↓guardT_tt, ↓guardT_tf, ↓guardT_ft, ↓guardT_ff, ↓condT_t, ↓condT_f, eP, wrap_succ hlt (by omega), Int.ofNat_lt, hlt]
      generalize hx : f.S[i]! = x at *
      refine ⟨headOk_C, by omega, ?_⟩
      refine wp_loopQ (fun (j : Nat) σ => j ≤ x.X.length ∧ ∃ z5 d5 z6 a7 c7 a8 c8 a9 c9, σ = ⟨aT .undef 49 [(2, .ptr 1 1 [] 0 0 0), (3, .ptr 3 1 [] 0 0 0), (6, .ptr 6 (a6 + 1) [] 0 0 0), (16, .lst (f.S.map eP)), (17, I f.S.length), (18, I i), (27, .lst (x.X.map eCs)), (28, I x.X.length), (29, I j)],
        [⟨a0, c0, .own 3 [.agg [.lst (f.acts.map .str), I f.P, .lst (f.S.map eP)]]⟩, ⟨1, 0, .own 3 [.agg [.nils, I 0, .nils]]⟩, ⟨a2, c2, .gone⟩, ⟨1, z, .own 3 [.agg [cellv .nils 1 (f.acts.map .str), I f.P, cellv .nils 2 ((f.S.take i).map fun p => rowP p p.X.length)]]⟩, ⟨a4 + 1, 0, .own 2 [.agg [.lst (x.A.map eC), .lst (x.X.map eCs)]]⟩, ⟨z5, d5, .gone⟩, ⟨a6 + 1, z6, .own 2 [rowP x j]⟩, ⟨a7, c7, .gone⟩, ⟨a8, c8, .gone⟩, ⟨a9, c9, .gone⟩, ⟨a10, c10, .gone⟩, ⟨a11, c11, .gone⟩], []⟩) (fun j => x.X.length - j) ?_ 0 ?_
      · rintro j σ ⟨hj, z5, d5, z6, a7, c7, a8, c8, a9, c9, rfl⟩ N2 Q2 hQ2 hN2
        by_cases hlt2 : j < x.X.length
        · have hl := g3 j hlt2
          simp only [go_sem, ↓reduceIte, ↓guardT_tt, ↓guardT_tf, ↓guardT_ft, ↓guardT_ff, ↓condT_t, ↓condT_f, eCs, rowP, wrap_succ hlt2 (by omega), Int.ofNat_lt, hlt2]
          refine ⟨headOk_C, by omega, by rw [List.length_take]; omega, hN2 (j + 1) _ (by omega) ⟨by omega, ?_⟩⟩
          simp only [go_sem, ↓reduceIte, ↓guardT_tt, ↓guardT_tf, ↓guardT_ft, ↓guardT_ff, ↓condT_t, ↓condT_f, take_succ_map _ hlt2, rowP, rowCh]
          repeat apply Exists.intro
          rfl
        · have hjl : j = x.X.length := by omega
          subst hjl hQ2
          simp only [go_sem, ↓reduceIte, ↓guardT_tt, ↓guardT_tf, ↓guardT_ft, ↓guardT_ff, ↓condT_t, ↓condT_f, rowP, Int.ofNat_lt, hlt2, List.take_length, wrap_succ hlt (show f.S.length ≤ 1000000000 by omega)]
          refine ⟨by rw [List.length_take]; omega, hN (i + 1) _ (by omega) ⟨by omega, ?_⟩⟩
          simp only [go_sem, ↓reduceIte, ↓guardT_tt, ↓guardT_tf, ↓guardT_ft, ↓guardT_ff, ↓condT_t, ↓condT_f, take_succ_map _ hlt, hx, rowP, List.take_length]
          repeat apply Exists.intro
          rfl
      · refine ⟨by omega, ?_⟩
        simp only [go_sem, ↓reduceIte, ↓guardT_tt, ↓guardT_tf, ↓guardT_ft, ↓guardT_ff, ↓condT_t, ↓condT_f, List.take_zero, rowP]
        repeat apply Exists.intro
        rfl
    · have hil : i = f.S.length := by omega
      subst hil hQ
      simp only [go_sem, ↓reduceIte, ↓guardT_tt, ↓guardT_tf, ↓guardT_ft, ↓guardT_ff, ↓condT_t, ↓condT_f, Int.ofNat_lt, hlt, List.take_length]
      have e : (frz ∘ fun p : Plan => rowP p p.X.length) = eP := funext fun x => frz_rowP x (Nat.le_refl _)
      rw [List.map_map, e]
  · refine ⟨by omega, ?_⟩
    simp only [go_sem, ↓reduceIte, ↓guardT_tt, ↓guardT_tf, ↓guardT_ft, ↓guardT_ff, ↓condT_t, ↓condT_f, List.take_zero]
    repeat apply Exists.intro
    rfl
end Go.Mw

/- The check that a law's eyes are open. -/
namespace Go.Mw
set_option linter.unusedVariables false
set_option linter.unusedSimpArgs false
set_option maxRecDepth 100000
def isTrue : Option (List AV × St) → Bool
  | some ([.bool true], _) => true
  | _ => false
theorem isTrue_at {x : Option (List AV × St)} (h : isTrue x = true) : ∃ σ, x = some ([.bool true], σ) := by
  unfold isTrue at h
  split at h
  · rename_i σ; exact ⟨σ, rfl⟩
  · cases h
theorem awake_run : isTrue (runF G 400 F_makeweightlaw16_awake [] [] []) = true := by decide +kernel
theorem awake_ok : FnT G f_makeweightlaw16_awake [] (Bo true) := by
  obtain ⟨σ, h⟩ := isTrue_at awake_run
  exact ⟨F_makeweightlaw16_awake, 400, _, σ, g_makeweightlaw16_awake, rfl, rfl, rfl, rfl, h, rfl, rfl⟩
end Go.Mw

/- The law of products. -/
namespace Go.Mw
set_option linter.unusedVariables false
set_option linter.unusedSimpArgs false
set_option maxRecDepth 100000
section
variable {fr : Bool} {roots : List Nat} {b : Nat} {ss : List Nat} {σ : St} {k : AV → St → Prop}
theorem awake_r : callT G f_makeweightlaw16_awake [] fr roots b ss σ k = k (Bo true) σ := awake_ok.rule
theorem copy_r {f : Fam} (hf : FSz f) : callT G f_makeweightref16_Copy [.agg [.lst (f.acts.map .str), I f.P, .lst (f.S.map eP)]] true roots b ss σ k = k (eF f) σ := (copy_ok f hf).rule
end
theorem prodOf_sz {f : Fam} (hf : FSz f) (p : Nat) : SpSz (prodOf f p) := by
  refine ⟨hf.a, by simp only [prodOf, List.length_map]; exact hf.s, fun i hi => ?_⟩
  simp only [prodOf, List.length_map] at hi
  obtain ⟨g1, g2, g3⟩ := hf.p i hi
  have e : (prodOf f p).S[i]! = sttOf f.S[i]! p := by
    rw [getElem!_pos (prodOf f p).S i (by simp only [prodOf, List.length_map]; exact hi), getElem!_pos f.S i hi]; simp only [prodOf, List.getElem_map]
  rw [e]
  simp only [sttOf, List.length_map]
  have := @chosenL_len f.S[i]!.A p
  exact ⟨by omega, g2⟩
end Go.Mw

/- What is restricted is a family again: plain facts. -/
namespace Go.Mw
set_option linter.unusedVariables false
set_option linter.unusedSimpArgs false
set_option maxRecDepth 100000
theorem nat_zero_bits {n : Nat} : n = 0 ↔ ∀ a, n.testBit a = false := by
  constructor
  · rintro rfl a; exact Nat.zero_testBit a
  · intro h; exact Nat.eq_of_testBit_eq (fun a => by rw [h a, Nat.zero_testBit])
theorem band_zero {m n : Nat} (hm : m < 2 ^ 63) (hn : n < 2 ^ 63) : band .i64 (m : Int) (n : Int) = 0 ↔ ∀ a, ¬ (m.testBit a = true ∧ n.testBit a = true) := by
  rw [band_nat hm hn]
  have e : ((m &&& n : Nat) : Int) = 0 ↔ m &&& n = 0 := by omega
  rw [e, nat_zero_bits]
  refine forall_congr' (fun a => ?_)
  rw [Nat.testBit_and]
  cases m.testBit a <;> cases n.testBit a <;> simp
theorem bandn_zero {m n : Nat} (hm : m < 2 ^ 63) (hn : n < 2 ^ 63) : bandn .i64 (m : Int) (n : Int) = 0 ↔ ∀ a, m.testBit a = true → n.testBit a = true := by
  unfold bandn
  have hb : IntKind.i64.bits = 64 := rfl
  rw [hb, BitVec.ofInt_natCast, BitVec.ofInt_natCast]
  have hle : (BitVec.ofNat 64 m &&& ~~~ BitVec.ofNat 64 n).toNat < 2 ^ 63 := by
    rw [BitVec.toNat_and, BitVec.toNat_ofNat]
    exact Nat.lt_of_le_of_lt (Nat.and_le_left) (by rw [Nat.mod_eq_of_lt (by omega)]; exact hm)
  rw [wrapN hle]
  have e : (((BitVec.ofNat 64 m &&& ~~~ BitVec.ofNat 64 n).toNat : Nat) : Int) = 0 ↔ (BitVec.ofNat 64 m &&& ~~~ BitVec.ofNat 64 n).toNat = 0 := by omega
  rw [e, nat_zero_bits]
  constructor
  · intro h a ha
    have hlt : a < 63 := by
      rcases Nat.lt_or_ge a 63 with h1 | h1
      · exact h1
      · rw [Nat.testBit_lt_two_pow (Nat.lt_of_lt_of_le hm (Nat.pow_le_pow_right (by omega) h1))] at ha; cases ha
    have := h a
    rw [BitVec.testBit_toNat, BitVec.getLsbD_and, BitVec.getLsbD_not, BitVec.getLsbD_ofNat, BitVec.getLsbD_ofNat] at this
    have h64 : a < 64 := by omega
    simp [h64, ha] at this
    exact this
  · intro h a
    rw [BitVec.testBit_toNat, BitVec.getLsbD_and, BitVec.getLsbD_not, BitVec.getLsbD_ofNat, BitVec.getLsbD_ofNat]
    have := h a
    cases hm' : m.testBit a
    · simp
    · rw [hm'] at this; simp [this rfl]
def WM (l : List Ch) : Prop := ∀ c ∈ l, ∃ w : Nat, c.W = w ∧ w < 2 ^ 62
theorem WOk.m {l : List Ch} (h : WOk l) : WM l := by
  intro c hc
  obtain ⟨i, hi, rfl⟩ := List.mem_iff_getElem.1 hc
  have := h i hi
  rwa [getElem!_pos l i hi] at this
def orN (l : List Ch) : Nat := l.foldl (fun s c => s ||| c.W.toNat) 0
theorem orAll_nat {l : List Ch} (h : WM l) : orAll l = (orN l : Int) ∧ orN l < 2 ^ 62 := by
  have key : ∀ (l : List Ch) (s : Nat), WM l → s < 2 ^ 62 → l.foldl (fun s c => bor .i64 s c.W) (s : Int) = ((l.foldl (fun s c => s ||| c.W.toNat) s : Nat) : Int) ∧ l.foldl (fun s c => s ||| c.W.toNat) s < 2 ^ 62 := by
    intro l
    induction l with
    | nil => intro s _ hs; exact ⟨rfl, hs⟩
    | cons c l ih =>
      intro s hl hs
      obtain ⟨w, hw, hw2⟩ := hl c (List.mem_cons_self ..)
      simp only [List.foldl_cons, hw, Int.toNat_natCast]
      rw [bor_nat (by omega) (by omega)]
      exact ih _ (fun d hd => hl d (List.mem_cons_of_mem _ hd)) (Nat.or_lt_two_pow hs hw2)
  exact key l 0 h (by omega)
theorem orN_test {l : List Ch} {a : Nat} : (orN l).testBit a = true ↔ ∃ c ∈ l, c.W.toNat.testBit a = true := by
  have key : ∀ (l : List Ch) (s : Nat), (l.foldl (fun s c => s ||| c.W.toNat) s).testBit a = true ↔ s.testBit a = true ∨ ∃ c ∈ l, c.W.toNat.testBit a = true := by
    intro l
    induction l with
    | nil => intro s; simp
    | cons c l ih =>
      intro s
      rw [List.foldl_cons, ih, Nat.testBit_or]
      simp [or_assoc]
  unfold orN
  rw [key l 0]; simp
theorem choOk_iff {l : List Ch} {most : Int} {p : Int → Bool} : choOk l most p = true ↔ (∀ c ∈ l, p c.N = true ∧ 1 ≤ c.W ∧ c.W < most) ∧ l.Pairwise (fun c d => c.N < d.N) := by
  constructor
  · intro h
    have h1 := choOk_at h
    refine ⟨fun c hc => ?_, ?_⟩
    · obtain ⟨i, hi, rfl⟩ := List.mem_iff_getElem.1 hc
      have := h1 i hi
      rw [getElem!_pos l i hi] at this
      exact ⟨this.1, this.2.1, this.2.2.1⟩
    · rw [List.pairwise_iff_getElem]
      intro i j hi hj hij
      have key : ∀ d, i + d + 1 < l.length → l[i]!.N < l[i + d + 1]!.N := by
        intro d
        induction d with
        | zero => intro hd; have := (h1 (i + 0 + 1) hd).2.2.2 (by omega); simpa using this
        | succ d ih => intro hd; have h2 := ih (by omega); have h3 := (h1 (i + (d + 1) + 1) hd).2.2.2 (by omega); simp only [Nat.add_sub_cancel] at h3; have e : i + (d + 1) = i + d + 1 := by omega
                       rw [e] at h3 ⊢; omega
      have := key (j - i - 1) (by omega)
      have e : i + (j - i - 1) + 1 = j := by omega
      rw [e, getElem!_pos l i hi, getElem!_pos l j hj] at this
      exact this
  · rintro ⟨h1, h2⟩
    rw [List.pairwise_iff_getElem] at h2
    unfold choOk
    rw [decide_eq_true_eq]
    intro i hi
    have := h1 l[i] (List.getElem_mem hi)
    rw [getElem!_pos l i hi]
    refine ⟨this.1, this.2.1, this.2.2, fun h0 => ?_⟩
    rw [getElem!_pos l (i - 1) (by omega)]
    exact h2 (i - 1) i (by omega) hi (by omega)
def Apart (c d : Ch) : Prop := ∀ a, ¬ (c.W.toNat.testBit a = true ∧ d.W.toNat.testBit a = true)
theorem disj_iff {l : List Ch} (h : WM l) : disj l = true ↔ l.Pairwise Apart := by
  unfold disj
  rw [decide_eq_true_eq, List.pairwise_iff_getElem]
  have step : ∀ k (hk : k < l.length), band .i64 (orAll (l.take k)) l[k]!.W = 0 ↔ ∀ c ∈ l.take k, Apart c l[k] := by
    intro k hk
    obtain ⟨w, hw, hw2⟩ := h l[k] (List.getElem_mem hk)
    obtain ⟨e, e2⟩ := orAll_nat (l := l.take k) (fun c hc => h c (List.mem_of_mem_take hc))
    rw [getElem!_pos l k hk, e, hw, band_zero (by omega) (by omega)]
    constructor
    · intro g c hc a hca
      rw [hw, Int.toNat_natCast] at hca
      exact g a ⟨orN_test.2 ⟨c, hc, hca.1⟩, hca.2⟩
    · intro g a ⟨h1, h2⟩
      obtain ⟨c, hc, hca⟩ := orN_test.1 h1
      exact g c hc a ⟨hca, by rw [hw, Int.toNat_natCast]; exact h2⟩
  constructor
  · intro g i j hi hj hij
    refine (step j hj).1 (g j hj) l[i] ?_
    exact List.mem_take_iff_getElem.2 ⟨i, by omega, rfl⟩
  · intro g k hk
    refine (step k hk).2 (fun c hc => ?_)
    obtain ⟨i, hi, rfl⟩ := List.mem_take_iff_getElem.1 hc
    exact g i k (by omega) hk (by omega)
end Go.Mw

/- Hollow states: what they are, and how the reference finds them. -/
namespace Go.Mw
set_option linter.unusedVariables false
set_option linter.unusedSimpArgs false
set_option maxRecDepth 100000
/-- a set of actions, as a number -/
def hasA (set : Int) (a : Nat) : Bool := set.toNat.testBit a
/-- a set has an action whose target is among these states -/
def Dies (x : Stt) (P : Nat → Prop) (set : Int) : Prop := ∃ a < x.X.length, 0 ≤ x.X[a]! ∧ hasA set a = true ∧ P x.X[a]!.toNat
def AllDie (x : Stt) (P : Nat → Prop) : Prop := ∀ i < x.A.length, Dies x P x.A[i]!
def ClosedH (s : Spc) (P : Nat → Prop) : Prop := ∀ x < s.S.length, AllDie s.S[x]! P → P x
/-- the hollow states: the least set that is closed -/
def Hol (s : Spc) (x : Nat) : Prop := x < s.S.length ∧ ∀ P, ClosedH s P → P x
theorem Dies.mono {x : Stt} {P Q : Nat → Prop} {set : Int} (h : Dies x P set) (hq : ∀ k, P k → Q k) : Dies x Q set := by
  obtain ⟨a, h1, h2, h3, h4⟩ := h; exact ⟨a, h1, h2, h3, hq _ h4⟩
theorem AllDie.mono {x : Stt} {P Q : Nat → Prop} (h : AllDie x P) (hq : ∀ k, P k → Q k) : AllDie x Q := fun i hi => (h i hi).mono hq
theorem Hol.closed (s : Spc) : ClosedH s (Hol s) := fun x hx h => ⟨hx, fun P hP => hP x hx (h.mono fun k hk => hk.2 P hP)⟩
theorem hol_iff {s : Spc} {P : Nat → Prop} (h1 : ∀ x < s.S.length, P x → Hol s x) (h2 : ClosedH s P) {x : Nat} (hx : x < s.S.length) : P x ↔ Hol s x := ⟨h1 x hx, fun h => h.2 P h2⟩

/-- lists of truth values as states -/
def inB (l : List Bool) (x : Nat) : Prop := l[x]! = true
/-- a state's numbers are in their bounds: sets are not negative, targets below a number -/
structure StB (z : Stt) (n : Nat) : Prop where
  a : ∀ i < z.A.length, 0 ≤ z.A[i]! ∧ z.A[i]! < 2 ^ 62
  x : ∀ i < z.X.length, z.X[i]! < (n : Int)
  la : z.A.length ≤ 1048576
  lx : z.X.length ≤ 1048576
theorem StB.nat {x : Stt} {n : Nat} (h : StB x n) {i : Nat} (hi : i < x.A.length) : ∃ k : Nat, x.A[i]! = k ∧ k < 2 ^ 62 := by
  have := h.a i hi
  exact ⟨x.A[i]!.toNat, by omega, by omega⟩
open Classical in
theorem falls_ok (x : Stt) (set : Nat) (hs : set < 2 ^ 62) (l : List Bool) (h : StB x l.length) : FnT G f_makeweightref04_falls [eSt x, I set, .lst (l.map Bo)] (Bo (decide (Dies x (inB l) set))) := by
  refine FnP.mk' g_makeweightref04_falls rfl rfl ?_
  have hX := h.lx
  simp only [go_sem, ↓reduceIte, ↓guardT_tt, ↓guardT_tf, ↓guardT_ft, ↓guardT_ff, ↓condT_t, ↓condT_f, c_makeweightref04_falls, eSt]
  refine wp_loopQ (fun (i : Nat) σ => i ≤ x.X.length ∧ (∀ a < i, ¬ (0 ≤ x.X[a]! ∧ hasA set a = true ∧ inB l x.X[a]!.toNat)) ∧ σ = ⟨aT .undef 31 [(1, I set), (2, .lst (l.map Bo)), (10, .lst (x.X.map I)), (11, I x.X.length), (12, I i)], [⟨1, 0, .own 2 [.agg [.lst (x.A.map I), .lst (x.X.map I)]]⟩], []⟩) (fun i => x.X.length - i) ?_ 0 ?_
  · rintro i σ ⟨hi, hall, rfl⟩ N Q hQ hN
    by_cases hlt : i < x.X.length
    · have hb := h.x i hlt
      simp only [go_sem, ↓reduceIte, ↓guardT_tt, ↓guardT_tf, ↓guardT_ft, ↓guardT_ff, ↓condT_t, ↓condT_f, wrap_succ hlt (by omega), Int.ofNat_lt, hlt, hasR_r (show set < 2 ^ 63 by omega)]
      (repeat' (first | intro _ | refine And.intro ?_ ?_)) <;> first
        | omega
        | (subst hQ; simp only [go_sem, ↓reduceIte, ↓guardT_tt, ↓guardT_tf, ↓guardT_ft, ↓guardT_ff, ↓condT_t, ↓condT_f]; rw [decide_eq_true]; exact ⟨i, hlt, by assumption, by simpa [hasA] using (by assumption : set.testBit i = true), by assumption⟩)
        | (refine hN (i + 1) _ (by omega) ⟨by omega, forall_lt_succ hall (by rintro ⟨h1, h2, h3⟩; simp only [hasA, Int.toNat_natCast] at h2; unfold inB at h3; first | omega | simp_all), ?_⟩; simp only [go_sem, ↓reduceIte, ↓guardT_tt, ↓guardT_tf, ↓guardT_ft, ↓guardT_ff, ↓condT_t, ↓condT_f])
    · have : i = x.X.length := by omega
      subst this hQ
      simp only [go_sem, ↓reduceIte, ↓guardT_tt, ↓guardT_tf, ↓guardT_ft, ↓guardT_ff, ↓condT_t, ↓condT_f, Int.ofNat_lt, hlt]
      rw [decide_eq_false]
      rintro ⟨a, h1, h2⟩
      exact hall a h1 h2
  · exact ⟨by omega, by simp, by simp only [go_sem, ↓reduceIte, ↓guardT_tt, ↓guardT_tf, ↓guardT_ft, ↓guardT_ff, ↓condT_t, ↓condT_f]⟩
section
open Classical in
theorem falls_r {x : Stt} {set : Nat} {l : List Bool} (hs : set < 2 ^ 62) (h : StB x l.length) {fr : Bool} {roots : List Nat} {b : Nat} {ss : List Nat} {σ : St} {k : AV → St → Prop} :
    callT G f_makeweightref04_falls [.agg [.lst (x.A.map I), .lst (x.X.map I)], I set, .lst (l.map Bo)] fr roots b ss σ k = k (Bo (decide (Dies x (inB l) set))) σ := (falls_ok x set hs l h).rule
end
open Classical in
theorem allFall_ok (x : Stt) (l : List Bool) (h : StB x l.length) : FnT G f_makeweightref04_allFall [eSt x, .lst (l.map Bo)] (Bo (decide (AllDie x (inB l)))) := by
  refine FnP.mk' g_makeweightref04_allFall rfl rfl ?_
  have hA := h.la
  simp only [go_sem, ↓reduceIte, ↓guardT_tt, ↓guardT_tf, ↓guardT_ft, ↓guardT_ff, ↓condT_t, ↓condT_f, c_makeweightref04_allFall, eSt]
  refine wp_loopQ (fun (i : Nat) σ => i ≤ x.A.length ∧ (∀ j < i, Dies x (inB l) x.A[j]!) ∧ σ = ⟨aT .undef 20 [(1, .lst (l.map Bo)), (2, .ptr 0 1 [] 0 0 0), (8, .lst (x.A.map I)), (9, I x.A.length), (10, I i)], [⟨1, 0, .own 2 [.agg [.lst (x.A.map I), .lst (x.X.map I)]]⟩], []⟩) (fun i => x.A.length - i) ?_ 0 ?_
  · rintro i σ ⟨hi, hall, rfl⟩ N Q hQ hN
    by_cases hlt : i < x.A.length
    · obtain ⟨s, e, hs⟩ := h.nat hlt
      simp only [go_sem, ↓reduceIte, ↓guardT_tt, ↓guardT_tf, ↓guardT_ft, ↓guardT_ff, ↓condT_t, ↓condT_f, wrap_succ hlt (by omega), Int.ofNat_lt, hlt, e, falls_r hs h]
      refine ⟨fun hd => ?_, fun hd => ?_⟩
      rotate_left
      · refine hN (i + 1) _ (by omega) ⟨by omega, forall_lt_succ hall (by rw [e]; simpa using hd), ?_⟩
        simp only [go_sem, ↓reduceIte, ↓guardT_tt, ↓guardT_tf, ↓guardT_ft, ↓guardT_ff, ↓condT_t, ↓condT_f]
      · subst hQ; simp only [go_sem, ↓reduceIte, ↓guardT_tt, ↓guardT_tf, ↓guardT_ft, ↓guardT_ff, ↓condT_t, ↓condT_f]
        rw [decide_eq_false]
        intro ha
        have := ha i hlt
        rw [e] at this
        simp_all
    · have : i = x.A.length := by omega
      subst this hQ
      simp only [go_sem, ↓reduceIte, ↓guardT_tt, ↓guardT_tf, ↓guardT_ft, ↓guardT_ff, ↓condT_t, ↓condT_f, Int.ofNat_lt, hlt]
      rw [decide_eq_true (show AllDie x (inB l) from hall)]
  · exact ⟨by omega, by simp, by simp only [go_sem, ↓reduceIte, ↓guardT_tt, ↓guardT_tf, ↓guardT_ft, ↓guardT_ff, ↓condT_t, ↓condT_f]⟩
open Classical in
theorem allFall_r {x : Stt} {l : List Bool} (h : StB x l.length) {fr : Bool} {roots : List Nat} {b : Nat} {ss : List Nat} {σ : St} {k : AV → St → Prop} :
    callT G f_makeweightref04_allFall [.agg [.lst (x.A.map I), .lst (x.X.map I)], .lst (l.map Bo)] fr roots b ss σ k = k (Bo (decide (AllDie x (inB l)))) σ := (allFall_ok x l h).rule
/-- a specification's numbers are in their bounds -/
structure SpB (s : Spc) : Prop where
  sz : s.S.length ≤ 1048576
  st : ∀ i < s.S.length, StB s.S[i]! s.S.length
/-- how many are not in -/
def outN (l : List Bool) : Nat := (l.filter fun b => !b).length
theorem outN_set {l : List Bool} {i : Nat} (hi : i < l.length) (h : l[i]! = false) : outN (l.set i true) + 1 = outN l := by
  induction l generalizing i with
  | nil => simp at hi
  | cons b l ih =>
    cases i with
    | zero => simp at h; subst h; simp [outN]
    | succ i =>
      have := ih (i := i) (by simpa using hi) (by simpa using h)
      cases b <;> simp_all [outN] <;> omega
theorem set_getB {l : List Bool} {i j : Nat} : (l.set i true)[j]! = if i = j ∧ i < l.length then true else l[j]! := by
  simp only [List.getElem!_eq_getElem?_getD, List.getElem?_set]
  by_cases h : i = j
  · subst h
    by_cases h2 : i < l.length
    · simp [h2]
    · simp [h2]
  · simp [h]
open Classical in
noncomputable def holL (s : Spc) : List Bool := (List.range s.S.length).map fun x => decide (Hol s x)
open Classical in
theorem holL_of {s : Spc} {l : List Bool} (hl : l.length = s.S.length) (h1 : ∀ x < s.S.length, inB l x → Hol s x) (h2 : ClosedH s (inB l)) : l = holL s := by
  apply List.ext_getElem (by simp [holL, hl])
  intro i hi hi2
  have hi3 : i < s.S.length := by omega
  have := hol_iff h1 h2 hi3
  unfold inB at this
  rw [getElem!_pos l i hi] at this
  simp only [holL, List.getElem_map, List.getElem_range]
  cases hb : l[i] <;> simp_all
theorem map_setB {l : List Bool} {i : Nat} {v : Bool} : (l.map Bo).set i (.bool v) = (l.set i v).map Bo := by rw [List.map_set]
theorem AllDieB {x : Stt} {n : Nat} {P Q : Nat → Prop} (h : AllDie x P) (hb : StB x n) (hq : ∀ k < n, P k → Q k) : AllDie x Q := by
  intro i hi
  obtain ⟨a, h1, h2, h3, h4⟩ := h i hi
  exact ⟨a, h1, h2, h3, hq _ (by have := hb.x a h1; omega) h4⟩
open Classical in
theorem hollowR_ok (s : Spc) (h : SpB s) : Fn G f_makeweightref04_Hollow [eSp s] (.lst ((holL s).map Bo)) := by
  refine FnP.mk' g_makeweightref04_Hollow rfl rfl ?_
  have hS := h.sz
  simp only [go_sem, ↓reduceIte, ↓guardT_tt, ↓guardT_tf, ↓guardT_ft, ↓guardT_ff, ↓condT_t, ↓condT_f, c_makeweightref04_Hollow, eSp]
  refine ⟨by omega, ?_⟩
  refine wp_loopQ (fun (g : List Bool × Bool) σ => g.1.length = s.S.length ∧ (∀ x < s.S.length, inB g.1 x → Hol s x) ∧ (g.2 = false → ClosedH s (inB g.1)) ∧ ∃ a c, σ = ⟨aT .undef 35 [(1, .ptr 0 1 [] 0 0 0), (3, .sl 1 1 [] 0 0 s.S.length), (4, Bo g.2)], [⟨1, 0, .own 2 [.agg [.lst (s.acts.map .str), .lst (s.S.map eSt)]]⟩, ⟨1, 0, .own 1 (g.1.map Bo)⟩, ⟨a, c, .gone⟩], []⟩) (fun g => outN g.1 + outN g.1 + if g.2 then 1 else 0) ?_ (List.replicate s.S.length false, true) ?_
  · rintro ⟨l, ag⟩ σ ⟨hl, hin, hcl, a, c, rfl⟩ N Q hQ hN
    simp only at hl hin hcl
    cases ag with
    | false =>
      subst hQ
      simp only [go_sem, ↓reduceIte, ↓guardT_tt, ↓guardT_tf, ↓guardT_ft, ↓guardT_ff, ↓condT_t, ↓condT_f]
      rw [← holL_of hl hin (hcl rfl)]
      rw [if_pos (by omega), ← hl, ← List.length_map (f := Bo), List.take_length]
      simp only [go_sem, ↓reduceIte, ↓guardT_tt, ↓guardT_tf, ↓guardT_ft, ↓guardT_ff, ↓condT_t, ↓condT_f, List.map_map]
      rfl
    | true =>
      simp only [go_sem, ↓reduceIte, ↓guardT_tt, ↓guardT_tf, ↓guardT_ft, ↓guardT_ff, ↓condT_t, ↓condT_f]
      refine wp_loopQ (fun (g : Nat × List Bool × Bool) σ => g.1 ≤ s.S.length ∧ g.2.1.length = s.S.length ∧ (∀ x < s.S.length, inB g.2.1 x → Hol s x) ∧ (g.2.2 = false → g.2.1 = l ∧ ∀ x < g.1, AllDie s.S[x]! (inB l) → inB l x) ∧ (g.2.2 = true → outN g.2.1 < outN l) ∧ ∃ a c, σ = ⟨aT .undef 35 [(1, .ptr 0 1 [] 0 0 0), (3, .sl 1 1 [] 0 0 s.S.length), (4, Bo g.2.2), (13, .lst (s.S.map eSt)), (14, I s.S.length), (15, I g.1)], [⟨1, 0, .own 2 [.agg [.lst (s.acts.map .str), .lst (s.S.map eSt)]]⟩, ⟨1, 0, .own 1 (g.2.1.map Bo)⟩, ⟨a, c, .gone⟩], []⟩) (fun g => s.S.length - g.1) ?_ (0, l, false) ?_
      · rintro ⟨i, l1, ag⟩ σ ⟨hi, hl1, hin1, hno, hye, a, c, rfl⟩ N2 Q2 hQ2 hN2
        simp only at hi hl1 hin1 hno hye
        by_cases hlt : i < s.S.length
        · have hst := h.st i hlt
          simp only [go_sem, ↓reduceIte, ↓guardT_tt, ↓guardT_tf, ↓guardT_ft, ↓guardT_ff, ↓condT_t, ↓condT_f, eSt, wrap_succ hlt (by omega), Int.ofNat_lt, hlt, hl1]
          simp only [go_sem, ↓reduceIte, ↓guardT_tt, ↓guardT_tf, ↓guardT_ft, ↓guardT_ff, ↓condT_t, ↓condT_f, allFall_r (show StB s.S[i]! l1.length by rw [hl1]; exact hst), map_setB, wrap_succ hlt (show s.S.length ≤ 1000000000 by omega), hl1, Int.ofNat_lt, hlt]
          refine ⟨fun hb => ⟨fun hd => ?_, fun hd => ?_⟩, fun hb => ?_⟩
          · refine hN2 (i + 1, l1.set i true, true) _ (by simp only; omega) ⟨by simp only; omega, by simpa using hl1, fun x hx hix => ?_, (by intro h; cases h), fun _ => ?_, a + 1, 0, ?_⟩
            · simp only [inB, set_getB] at hix
              split at hix
              · rename_i hc
                rw [← hc.1]
                exact Hol.closed s i hlt (AllDieB hd hst hin1)
              · exact hin1 x hx hix
            · simp only
              have h1 := outN_set (l := l1) (i := i) (by omega) hb
              cases ag with
              | true => have := hye rfl; omega
              | false => rw [(hno rfl).1] at h1 ⊢; omega
            · simp only [go_sem, ↓reduceIte, ↓guardT_tt, ↓guardT_tf, ↓guardT_ft, ↓guardT_ff, ↓condT_t, ↓condT_f]
          · refine hN2 (i + 1, l1, ag) _ (by simp only; omega) ⟨by simp only; omega, hl1, hin1, fun h => ⟨(hno h).1, forall_lt_succ (hno h).2 (fun hd2 => ?_)⟩, hye, a + 1, 0, ?_⟩
            · rw [(hno h).1] at hd; simp_all
            · simp only [go_sem, ↓reduceIte, ↓guardT_tt, ↓guardT_tf, ↓guardT_ft, ↓guardT_ff, ↓condT_t, ↓condT_f]
          · refine hN2 (i + 1, l1, ag) _ (by simp only; omega) ⟨by simp only; omega, hl1, hin1, fun h => ⟨(hno h).1, forall_lt_succ (hno h).2 (fun hd2 => ?_)⟩, hye, a + 1, 0, ?_⟩
            · rw [(hno h).1] at hb; exact hb
            · simp only [go_sem, ↓reduceIte, ↓guardT_tt, ↓guardT_tf, ↓guardT_ft, ↓guardT_ff, ↓condT_t, ↓condT_f]
        · have hil : i = s.S.length := by omega
          subst hQ2
          simp only [go_sem, ↓reduceIte, ↓guardT_tt, ↓guardT_tf, ↓guardT_ft, ↓guardT_ff, ↓condT_t, ↓condT_f, Int.ofNat_lt, hlt]
          refine hN (l1, ag) _ ?_ ⟨hl1, hin1, fun h => ?_, a, c, ?_⟩
          · simp only
            cases ag with
            | true => have := hye rfl; simp; omega
            | false => rw [(hno rfl).1]; simp
          · obtain ⟨e1, e2⟩ := hno h
            simp only [e1]
            rw [hil] at e2; exact e2
          · simp only [go_sem, ↓reduceIte, ↓guardT_tt, ↓guardT_tf, ↓guardT_ft, ↓guardT_ff, ↓condT_t, ↓condT_f]
      · exact ⟨by simp, hl, hin, fun _ => ⟨rfl, fun x hx => absurd hx (by simp)⟩, (by intro h; cases h), a, c, by simp only [go_sem, ↓reduceIte, ↓guardT_tt, ↓guardT_tf, ↓guardT_ft, ↓guardT_ff, ↓condT_t, ↓condT_f]⟩
  · refine ⟨by simp, fun x hx h => ?_, (by intro h; cases h), 0, 0, ?_⟩
    · simp only [inB, List.getElem!_eq_getElem?_getD, List.getElem?_replicate] at h
      split at h <;> simp at h
    · simp only [go_sem, ↓reduceIte, ↓guardT_tt, ↓guardT_tf, ↓guardT_ft, ↓guardT_ff, ↓condT_t, ↓condT_f, List.map_replicate]
open Classical in
theorem hollowR_r {s : Spc} (h : SpB s) {roots : List Nat} {b : Nat} {ss : List Nat} {σ : St} {k : AV → St → Prop} :
    callT G f_makeweightref04_Hollow [.agg [.lst (s.acts.map .str), .lst (s.S.map eSt)]] true roots b ss σ k = k (.lst ((holL s).map Bo)) σ := (hollowR_ok s h).rule
end Go.Mw
