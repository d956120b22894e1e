/- Products: choices that are made. -/
import Derived.Test.YtlkjckdddfckeaaM16
namespace Go.Mw
set_option linter.unusedVariables false
set_option linter.unusedSimpArgs false
set_option maxRecDepth 100000
/-- the numbers that are chosen for a product -/
def chosenL (l : List Ch) (p : Nat) : List Int := (l.filter fun c => c.W.toNat.testBit p).map (·.N)
/-- what is chosen for something that is there -/
def WOk (l : List Ch) : Prop := ∀ i < l.length, ∃ w : Nat, l[i]!.W = w ∧ w < 2 ^ 62
theorem chosenL_succ {l : List Ch} {p i : Nat} (h : i < l.length) : chosenL (l.take (i + 1)) p = if l[i]!.W.toNat.testBit p then chosenL (l.take i) p ++ [l[i]!.N] else chosenL (l.take i) p := by
  unfold chosenL
  rw [List.take_succ_eq_append_getElem h, List.filter_append, getElem!_pos l i h]
  by_cases hb : l[i].W.toNat.testBit p <;> simp [hb]
theorem chosenL_len {l : List Ch} {p : Nat} : (chosenL l p).length ≤ l.length := by
  unfold chosenL; rw [List.length_map]; exact List.length_filter_le _ _
theorem chosenR_ok (l : List Ch) (hl : l.length ≤ 1048576) (hw : WOk l) (p : Nat) : Fn G f_makeweightref16_chosen [.lst (l.map eC), I p] (.lst ((chosenL l p).map I)) := by
  refine FnP.mk' g_makeweightref16_chosen rfl rfl ?_
  simp only [go_sem, ↓reduceIte, ↓guardT_tt, ↓guardT_tf, ↓guardT_ft, ↓guardT_ff, ↓condT_t, ↓condT_f, c_makeweightref16_chosen]
  refine wp_loopQ (fun (i : Nat) σ => i ≤ l.length ∧ ∃ a0 c0 a1 c1 st ss, σ = ⟨aT .undef 25 [(1, I p), (5, rowv .nils 1 2 st ((chosenL (l.take i) p).map I)), (8, .lst (l.map eC)), (9, I l.length), (10, I i)], [⟨a0, c0, .gone⟩, ⟨a1, c1, .gone⟩, ⟨st, ss, rowo 1 ((chosenL (l.take i) p).map I)⟩], []⟩) (fun i => l.length - i) ?_ 0 ?_
  · rintro i σ ⟨hi, a0, c0, a1, c1, st, ss, rfl⟩ N Q hQ hN
    by_cases hlt : i < l.length
    · obtain ⟨w, hw1, hw2⟩ := hw i hlt
      have hsm := @chosenL_len (l.take i) p
      rw [List.length_take] at hsm
      simp only [go_sem, ↓reduceIte, ↓guardT_tt, ↓guardT_tf, ↓guardT_ft, ↓guardT_ff, ↓condT_t, ↓condT_f, eC, wrap_succ hlt (by omega), Int.ofNat_lt, hlt, hw1, hasR_r (show w < 2 ^ 63 by omega)]
      refine ⟨fun hb => ⟨by omega, hN (i + 1) _ (by omega) ⟨by omega, a0 + 1, 0, a1 + 1, 0, st + 1, 0, ?_⟩⟩, fun hb => hN (i + 1) _ (by omega) ⟨by omega, a0 + 1, 0, a1, c1, st, ss, ?_⟩⟩
      · simp only [go_sem, ↓reduceIte, ↓guardT_tt, ↓guardT_tf, ↓guardT_ft, ↓guardT_ff, ↓condT_t, ↓condT_f, chosenL_succ hlt, hw1, hb, List.map_append]
      · simp only [go_sem, ↓reduceIte, ↓guardT_tt, ↓guardT_tf, ↓guardT_ft, ↓guardT_ff, ↓condT_t, ↓condT_f, chosenL_succ hlt, hw1, hb]
    · have hil : i = l.length := by omega
      subst hil hQ
      simp only [go_sem, ↓reduceIte, ↓guardT_tt, ↓guardT_tf, ↓guardT_ft, ↓guardT_ff, ↓condT_t, ↓condT_f, Int.ofNat_lt, hlt, List.take_length]
  · refine ⟨by omega, 0, 0, 0, 0, 0, 0, ?_⟩
    simp only [go_sem, ↓reduceIte, ↓guardT_tt, ↓guardT_tf, ↓guardT_ft, ↓guardT_ff, ↓condT_t, ↓condT_f, chosenL, List.take_zero, List.filter_nil]
theorem chosenR_r {l : List Ch} (hl : l.length ≤ 1048576) (hw : WOk l) {p : Nat} {roots : List Nat} {b : Nat} {ss : List Nat} {σ : St} {k : AV → St → Prop} :
    callT G f_makeweightref16_chosen [.lst (l.map eC), I p] true roots b ss σ k = k (.lst ((chosenL l p).map I)) σ := (chosenR_ok l hl hw p).rule
/-- the first choice that is one -/
def idxC (l : List Ch) (q : Ch → Bool) : Int := match l.findIdx? q with | some i => i | none => -1
theorem idxC_at {l : List Ch} {q : Ch → Bool} {i : Nat} (hi : i < l.length) (hn : ∀ j < i, q l[j]! = false) (he : q l[i]! = true) : (i : Int) = idxC l q := by
  have : l.findIdx? q = some i := by
    rw [List.findIdx?_eq_some_iff_getElem]
    refine ⟨hi, ?_, fun j hj => ?_⟩
    · rw [← getElem!_pos l i hi]; exact he
    · have := hn j hj
      rw [getElem!_pos l j (by omega)] at this
      simp [this]
  unfold idxC; rw [this]
theorem idxC_none {l : List Ch} {q : Ch → Bool} (hn : ∀ j < l.length, q l[j]! = false) : -1 = idxC l q := by
  have : l.findIdx? q = none := by
    rw [List.findIdx?_eq_none_iff]
    intro x hx
    obtain ⟨i, hi, rfl⟩ := List.mem_iff_getElem.1 hx
    have := hn i hi
    rw [getElem!_pos l i hi] at this
    exact this
  unfold idxC; rw [this]
theorem idxC_cases (l : List Ch) (q : Ch → Bool) : (∃ i : Nat, i < l.length ∧ q l[i]! = true ∧ (∀ j < i, q l[j]! = false) ∧ idxC l q = i) ∨ ((∀ j < l.length, q l[j]! = false) ∧ idxC l q = -1) := by
  cases h : l.findIdx? q with
  | some i =>
    left
    have h0 := h
    rw [List.findIdx?_eq_some_iff_getElem] at h
    obtain ⟨hi, h1, h2⟩ := h
    refine ⟨i, hi, by rw [getElem!_pos l i hi]; exact h1, fun j hj => ?_, by unfold idxC; rw [h0]⟩
    rw [getElem!_pos l j (by omega)]
    simpa using h2 j hj
  | none =>
    right
    have h0 := h
    rw [List.findIdx?_eq_none_iff] at h
    refine ⟨fun j hj => ?_, by unfold idxC; rw [h0]⟩
    rw [getElem!_pos l j hj]; exact h _ (List.getElem_mem hj)
theorem filter_none {l : List Ch} {q : Ch → Bool} (h : ∀ j < l.length, q l[j]! = false) : l.filter q = [] := by
  rw [List.filter_eq_nil_iff]
  intro x hx
  obtain ⟨i, hi, rfl⟩ := List.mem_iff_getElem.1 hx
  have := h i hi
  rw [getElem!_pos l i hi] at this
  simp [this]
theorem filter_some {l : List Ch} {q : Ch → Bool} {i : Nat} (hi : i < l.length) (h1 : q l[i]! = true) (h2 : ∀ j < i, q l[j]! = false) : ∃ r, l.filter q = l[i]! :: r := by
  have e : l = l.take i ++ l[i]! :: l.drop (i + 1) := by
    rw [getElem!_pos l i hi, ← List.drop_eq_getElem_cons hi, List.take_append_drop]
  have h3 : (l.take i).filter q = [] := by
    refine filter_none (fun j hj => ?_)
    simp at hj
    have := h2 j (by omega)
    rw [getElem!_pos l j (by omega)] at this
    rw [getElem!_pos (l.take i) j (by simp; omega)]; simpa using this
  refine ⟨(l.drop (i + 1)).filter q, ?_⟩
  conv => lhs; rw [e]
  rw [List.filter_append, h3, List.nil_append, List.filter_cons, if_pos h1]
theorem indexC_ok (l : List Ch) (hl : l.length ≤ 1048576) (f : FuncId) (cs : List AV) (q : Ch → Bool) (hp : PureF G f) (ht : ∀ h, treeBL 0 h cs = cs) (hok : ∀ i < l.length, FnT G f (eC l[i]! :: cs) (Bo (q l[i]!))) :
    FnT G f_slices_IndexFunc___api_Choice_api_Choice_ [.lst (l.map eC), .fn f cs] (I (idxC l q)) := by
  refine FnP.mk' g_slices_IndexFunc___api_Choice_api_Choice_ rfl rfl ?_
  simp only [go_sem, ↓reduceIte, ↓guardT_tt, ↓guardT_tf, ↓guardT_ft, ↓guardT_ff, ↓condT_t, ↓condT_f, c_slices_IndexFunc___api_Choice_api_Choice_]
  refine wp_loopQ (fun (i : Nat) σ => i ≤ l.length ∧ (∀ j < i, q l[j]! = false) ∧ σ = ⟨aT .undef 19 [(0, .lst (l.map eC)), (1, .fn f cs), (7, I l.length), (8, I i)], [], []⟩) (fun i => l.length - i) ?_ 0 ?_
  · rintro i σ ⟨hi, hall, rfl⟩ N Q hQ hN
    by_cases hlt : i < l.length
    · have hcall : ∀ {fr : Bool} {roots : List Nat} {b : Nat} {ss : List Nat} {σ : St} {k : AV → St → Prop}, callT G f (.agg [I l[i]!.N, I l[i]!.W] :: cs) fr roots b ss σ k = k (Bo (q l[i]!)) σ := (hok i hlt).rule
      simp only [go_sem, ↓reduceIte, ↓guardT_tt, ↓guardT_tf, ↓guardT_ft, ↓guardT_ff, ↓condT_t, ↓condT_f, eC, wrap_succ hlt (by omega), Int.ofNat_lt, hlt, hp, ht, hcall]
      refine ⟨fun h => ?_, fun h => hN (i + 1) _ (by omega) ⟨by omega, forall_lt_succ hall h, ?_⟩⟩
      · subst hQ; simp only [go_sem, ↓reduceIte, ↓guardT_tt, ↓guardT_tf, ↓guardT_ft, ↓guardT_ff, ↓condT_t, ↓condT_f]; rw [idxC_at hlt hall h]
      · simp only [go_sem, ↓reduceIte, ↓guardT_tt, ↓guardT_tf, ↓guardT_ft, ↓guardT_ff, ↓condT_t, ↓condT_f]
    · have hil : i = l.length := by omega
      subst hil hQ
      simp only [go_sem, ↓reduceIte, ↓guardT_tt, ↓guardT_tf, ↓guardT_ft, ↓guardT_ff, ↓condT_t, ↓condT_f, Int.ofNat_lt, hlt]
      rw [idxC_none hall]
  · exact ⟨by omega, by simp, by simp only [go_sem, ↓reduceIte, ↓guardT_tt, ↓guardT_tf, ↓guardT_ft, ↓guardT_ff, ↓condT_t, ↓condT_f]⟩
theorem chosen1_ok (N : Int) (w p : Nat) (hw : w < 2 ^ 63) : FnT G f_family_chosen_1 [.agg [I N, I w], .pfro [I p]] (Bo (w.testBit p)) := by
  refine FnP.mk' g_family_chosen_1 rfl rfl ?_
  simp only [go_sem, ↓reduceIte, ↓guardT_tt, ↓guardT_tf, ↓guardT_ft, ↓guardT_ff, ↓condT_t, ↓condT_f, c_family_chosen_1, has_r hw]
/-- the number that is chosen, or -1 -/
def nextOf (l : List Ch) (p : Nat) : Int := (chosenL l p).headD (-1)
theorem chosen_ok (l : List Ch) (hl : l.length ≤ 1048576) (hw : WOk l) (p : Nat) : FnT G f_family_chosen [.lst (l.map eC), I p] (.tup [I ((chosenL l p).headD 0), Bo (!(chosenL l p).isEmpty)]) := by
  have hix := indexC_ok l hl f_family_chosen_1 [.pfro [I p]] (fun c => c.W.toNat.testBit p) pure_family_chosen_1 (fun h => rfl) (fun i hi => by
    obtain ⟨w, hw1, hw2⟩ := hw i hi
    unfold eC; rw [hw1, Int.toNat_natCast]; exact chosen1_ok _ w p (by omega))
  have hcall : ∀ {fr : Bool} {roots : List Nat} {b : Nat} {ss : List Nat} {σ : St} {k : AV → St → Prop}, callT G f_slices_IndexFunc___api_Choice_api_Choice_ [.lst (l.map eC), .fn f_family_chosen_1 [.pfro [I p]]] fr roots b ss σ k = k (I (idxC l fun c => c.W.toNat.testBit p)) σ := hix.rule
  refine FnP.mk' g_family_chosen rfl rfl ?_
  simp only [go_sem, ↓reduceIte, ↓guardT_tt, ↓guardT_tf, ↓guardT_ft, ↓guardT_ff, ↓condT_t, ↓condT_f, c_family_chosen, eC, hcall]
  rcases idxC_cases l (fun c => c.W.toNat.testBit p) with ⟨i, h1, h2, h3, h4⟩ | ⟨h1, h2⟩
  · obtain ⟨r, hr⟩ := filter_some (q := fun c => c.W.toNat.testBit p) h1 h2 h3
    have hc : chosenL l p = l[i]!.N :: r.map (·.N) := by unfold chosenL; rw [hr]; rfl
    rw [h4, hc]
    simp only [Int.toNat_natCast, List.headD_cons, List.isEmpty_cons]
    exact ⟨fun h => absurd h (by omega), fun h => ⟨by omega, h1, rfl⟩⟩
  · have hc : chosenL l p = [] := by unfold chosenL; rw [filter_none h1]; rfl
    rw [h2, hc]
    refine ⟨fun h => rfl, fun h => by omega⟩
theorem chosen_r {l : List Ch} (hl : l.length ≤ 1048576) (hw : WOk l) {p : Nat} {fr : Bool} {roots : List Nat} {b : Nat} {ss : List Nat} {σ : St} {k : AV → St → Prop} :
    callT G f_family_chosen [.lst (l.map eC), I p] fr roots b ss σ k = k (.tup [I ((chosenL l p).headD 0), Bo (!(chosenL l p).isEmpty)]) σ := (chosen_ok l hl hw p).rule
theorem clone_ok (l : List ByteArray) (hl : l.length ≤ 1048576) : FnS G f_slices_Clone___string_string_ [.lst (l.map .str)] (.lst (l.map .str)) := by
  cases l with
  | nil => exact ⟨F_slices_Clone___string_string_, 30, g_slices_Clone___string_string_, rfl, rfl, rfl, rfl⟩
  | cons x l =>
    have h : Fn G f_slices_Clone___string_string_ [.lst ((x :: l).map .str)] (.lst ((x :: l).map .str)) := by
      refine FnP.mk' g_slices_Clone___string_string_ rfl rfl ?_
      simp only [go_sem, ↓reduceIte, ↓guardT_tt, ↓guardT_tf, ↓guardT_ft, ↓guardT_ff, ↓condT_t, ↓condT_f, c_slices_Clone___string_string_]
      exact ⟨fun h => by simp at h, fun _ => ⟨by simp at hl; omega, rfl⟩⟩
    obtain ⟨F, n, rs, σ1, hf, h1, h2, h3, h4, hr, hR⟩ := h
    refine ⟨F, n, hf, h1, h2, h3, ?_⟩
    unfold callX
    rw [h4]; simp only [Bool.false_eq_true, if_false, hr, Bool.true_or, if_true, give, h3, hR]
end Go.Mw

/- The specification of a product. -/
namespace Go.Mw
set_option linter.unusedVariables false
set_option linter.unusedSimpArgs false
set_option maxRecDepth 100000
structure Stt where
  A : List Int
  X : List Int
  deriving Inhabited
structure Spc where
  acts : List ByteArray
  S : List Stt
  deriving Inhabited
def eSt (x : Stt) : AV := .agg [.lst (x.A.map I), .lst (x.X.map I)]
def eSp (s : Spc) : AV := .agg [.lst (s.acts.map .str), .lst (s.S.map eSt)]
def sttOf (x : Plan) (p : Nat) : Stt := ⟨chosenL x.A p, x.X.map fun l => nextOf l p⟩
def prodOf (f : Fam) (p : Nat) : Spc := ⟨f.acts, f.S.map fun x => sttOf x p⟩
/-- a state under way: its sets frozen, its targets a row -/
def eRow (x : Stt) : AV := .agg [.lst (x.A.map I), cellv .nils 1 (x.X.map I)]
theorem frz_eRow (x : Stt) : frz (eRow x) = eSt x := by simp only [eRow, eSt, go_sem]
theorem eRow_eq (x : Plan) (p : Nat) : eRow (sttOf x p) = .agg [.lst ((chosenL x.A p).map I), cellv .nils 1 (x.X.map fun l => I (nextOf l p))] := by simp [eRow, sttOf]; rfl
structure FWOk (f : Fam) : Prop where
  a : ∀ i < f.S.length, WOk f.S[i]!.A
  x : ∀ i < f.S.length, ∀ j < f.S[i]!.X.length, WOk f.S[i]!.X[j]!
theorem take_succ_map {α β : Type} [Inhabited α] (g : α → β) {l : List α} {i : Nat} (h : i < l.length) : (l.take (i + 1)).map g = (l.take i).map g ++ [g l[i]!] := by
  rw [List.take_succ_eq_append_getElem h, List.map_append, getElem!_pos l i h]; rfl
theorem prodR_ok (f : Fam) (hf : FSz f) (hw : FWOk f) (p : Nat) : Fn G f_makeweightref16_Product [eF f, I p] (eSp (prodOf f p)) := by
  refine FnP.mk' g_makeweightref16_Product rfl rfl ?_
  simp only [go_sem, ↓reduceIte, ↓guardT_tt, ↓guardT_tf, ↓guardT_ft, ↓guardT_ff, ↓condT_t, ↓condT_f, c_makeweightref16_Product, eF]
  refine ⟨by have := hf.a; omega, ?_⟩
  refine wp_loopQ (fun (i : Nat) σ => i ≤ f.S.length ∧ ∃ z a2 c2 a4 c4 a5 c5 a6 c6 a7 c7 a8 c8 a9 c9, σ = ⟨aT .undef 60 [(1, I p), (4, .ptr 1 1 [] 0 0 0), (5, .ptr 3 1 [] 0 0 0), (18, .lst (f.S.map eP)), (19, I f.S.length), (20, I i)],
      [⟨1, 0, .own 3 [.agg [.lst (f.acts.map .str), I f.P, .lst (f.S.map eP)]]⟩, ⟨1, 0, .own 2 [.agg [.nils, .nils]]⟩, ⟨a2, c2, .gone⟩, ⟨1, z, .own 2 [.agg [cellv .nils 1 (f.acts.map .str), cellv .nils 2 ((f.S.take i).map fun x => eRow (sttOf x p))]]⟩, ⟨a4, c4, .gone⟩, ⟨a5, c5, .gone⟩, ⟨a6, c6, .gone⟩, ⟨a7, c7, .gone⟩, ⟨a8, c8, .gone⟩, ⟨a9, c9, .gone⟩], []⟩) (fun i => f.S.length - i) ?_ 0 ?_
  · rintro i σ ⟨hi, z, a2, c2, a4, c4, a5, c5, a6, c6, a7, c7, a8, c8, a9, c9, rfl⟩ N Q hQ hN
    have hS := hf.s
    by_cases hlt : i < f.S.length
    · obtain ⟨g1, g2, g3⟩ := hf.p i hlt
      simp only [go_sem, ↓reduceIte, ↓guardT_tt, ↓guardT_tf, ↓guardT_ft, ↓guardT_ff, ↓condT_t, ↓condT_f, eP, wrap_succ hlt (by omega), Int.ofNat_lt, hlt, chosenR_r g1 (hw.a i hlt)]
      generalize hx : f.S[i]! = x at *
      have hwx : ∀ j < x.X.length, WOk x.X[j]! := fun j hj => by have := hw.x i hlt j (by rw [hx]; exact hj); rw [hx] at this; exact this
      refine wp_loopQ (fun (j : Nat) σ => j ≤ x.X.length ∧ ∃ z5 a6 c6 a7 c7, σ = ⟨aT .undef 60 [(1, I p), (4, .ptr 1 1 [] 0 0 0), (5, .ptr 3 1 [] 0 0 0), (8, .ptr 5 (a5 + 1) [] 0 0 0), (18, .lst (f.S.map eP)), (19, I f.S.length), (20, I i), (30, .lst (x.X.map eCs)), (31, I x.X.length), (32, I j)],
        [⟨1, 0, .own 3 [.agg [.lst (f.acts.map .str), I f.P, .lst (f.S.map eP)]]⟩, ⟨1, 0, .own 2 [.agg [.nils, .nils]]⟩, ⟨a2, c2, .gone⟩, ⟨1, z, .own 2 [.agg [cellv .nils 1 (f.acts.map .str), cellv .nils 2 ((f.S.take i).map fun x => eRow (sttOf x p))]]⟩, ⟨a4 + 1, 0, .own 2 [.agg [.lst (x.A.map eC), .lst (x.X.map eCs)]]⟩, ⟨a5 + 1, z5, .own 2 [.agg [.lst ((chosenL x.A p).map I), cellv .nils 1 ((x.X.take j).map fun l => I (nextOf l p))]]⟩, ⟨a6, c6, .gone⟩, ⟨a7, c7, .gone⟩, ⟨a8, c8, .gone⟩, ⟨a9, c9, .gone⟩], []⟩) (fun j => x.X.length - j) ?_ 0 ?_
      · rintro j σ ⟨hj, z5, a6, c6, a7, c7, rfl⟩ N2 Q2 hQ2 hN2
        by_cases hlt2 : j < x.X.length
        · have hl := g3 j hlt2
          simp only [go_sem, ↓reduceIte, ↓guardT_tt, ↓guardT_tf, ↓guardT_ft, ↓guardT_ff, ↓condT_t, ↓condT_f, eCs, wrap_succ hlt2 (by omega), Int.ofNat_lt, hlt2, chosenR_r hl (hwx j hlt2)]
          have hn : nextOf x.X[j]! p = if 0 < (chosenL x.X[j]! p).length then (chosenL x.X[j]! p)[0]! else -1 := by
            unfold nextOf; cases chosenL x.X[j]! p <;> simp
          refine ⟨fun h => ⟨by omega, by rw [List.length_take]; omega, hN2 (j + 1) _ (by omega) ⟨by omega, ?_⟩⟩, fun h => ⟨by rw [List.length_take]; omega, hN2 (j + 1) _ (by omega) ⟨by omega, ?_⟩⟩⟩
          · rw [if_pos (by omega)] at hn
            simp only [go_sem, ↓reduceIte, ↓guardT_tt, ↓guardT_tf, ↓guardT_ft, ↓guardT_ff, ↓condT_t, ↓condT_f, take_succ_map _ hlt2, hn]
            repeat apply Exists.intro
            rfl
          · rw [if_neg (by omega)] at hn
            simp only [go_sem, ↓reduceIte, ↓guardT_tt, ↓guardT_tf, ↓guardT_ft, ↓guardT_ff, ↓condT_t, ↓condT_f, take_succ_map _ hlt2, hn]
            repeat apply Exists.intro
            rfl
        · have hjl : j = x.X.length := by omega
          subst hjl hQ2
          simp only [go_sem, ↓reduceIte, ↓guardT_tt, ↓guardT_tf, ↓guardT_ft, ↓guardT_ff, ↓condT_t, ↓condT_f, Int.ofNat_lt, hlt2, List.take_length, wrap_succ hlt (show f.S.length ≤ 1000000000 by omega)]
          refine ⟨by rw [List.length_take]; omega, hN (i + 1) _ (by omega) ⟨by omega, ?_⟩⟩
          simp only [go_sem, ↓reduceIte, ↓guardT_tt, ↓guardT_tf, ↓guardT_ft, ↓guardT_ff, ↓condT_t, ↓condT_f, take_succ_map _ hlt, hx, eRow_eq]
          repeat apply Exists.intro
          rfl
      · refine ⟨by omega, ?_⟩
        simp only [go_sem, ↓reduceIte, ↓guardT_tt, ↓guardT_tf, ↓guardT_ft, ↓guardT_ff, ↓condT_t, ↓condT_f, List.take_zero]
        repeat apply Exists.intro
        rfl
    · have hil : i = f.S.length := by omega
      subst hil hQ
      simp only [go_sem, ↓reduceIte, ↓guardT_tt, ↓guardT_tf, ↓guardT_ft, ↓guardT_ff, ↓condT_t, ↓condT_f, Int.ofNat_lt, hlt, List.take_length, eSp, prodOf]
      simp only [List.map_map]
      have e : ∀ x, (frz ∘ fun x => eRow (sttOf x p)) x = (eSt ∘ fun x => sttOf x p) x := fun x => frz_eRow _
      rw [List.map_congr_left (fun x _ => e x)]
  · refine ⟨by omega, ?_⟩
    simp only [go_sem, ↓reduceIte, ↓guardT_tt, ↓guardT_tf, ↓guardT_ft, ↓guardT_ff, ↓condT_t, ↓condT_f, List.take_zero]
    repeat apply Exists.intro
    rfl
end Go.Mw

/- The specification of a product, as the program makes it. -/
namespace Go.Mw
set_option linter.unusedVariables false
set_option linter.unusedSimpArgs false
set_option maxRecDepth 100000
theorem clone_r {l : List ByteArray} (hl : l.length ≤ 1048576) {roots : List Nat} {b : Nat} {ss : List Nat} {σ : St} {k : AV → St → Prop} :
    callT G f_slices_Clone___string_string_ [.lst (l.map .str)] true roots b ss σ k = k (.lst (l.map .str)) σ := (clone_ok l hl).rule
/-- a state under way: two rows -/
def eRow2 (x : Stt) : AV := .agg [cellv .nils 1 (x.A.map I), cellv .nils 1 (x.X.map I)]
theorem frz_eRow2 (x : Stt) : frz (eRow2 x) = eSt x := by simp only [eRow2, eSt, go_sem]
theorem eRow2_eq (x : Plan) (p : Nat) : eRow2 (sttOf x p) = .agg [cellv .nils 1 ((chosenL x.A p).map I), cellv .nils 1 (x.X.map fun l => I (nextOf l p))] := by simp [eRow2, sttOf]; rfl
theorem single_ok (f : Fam) (hf : FSz f) (hw : FWOk f) (p : Nat) : Fn G f_family_single [eF f, I p] (eSp (prodOf f p)) := by
  refine FnP.mk' g_family_single rfl rfl ?_
  simp only [go_sem, ↓reduceIte, ↓guardT_tt, ↓guardT_tf, ↓guardT_ft, ↓guardT_ff, ↓condT_t, ↓condT_f, c_family_single, eF, clone_r hf.a]
  refine wp_loopQ (fun (i : Nat) σ => i ≤ f.S.length ∧ ∃ z a3 c3 a4 c4 a5 c5 a6 c6 a7 c7 a8 c8 a9 c9 a10 c10 a11 c11, σ = ⟨aT .undef 75 [(1, I p), (4, .ptr 1 1 [] 0 0 0), (5, .ptr 2 1 [] 0 0 0), (20, .lst (f.S.map eP)), (21, I f.S.length), (22, I i)],
      [⟨1, 0, .own 3 [.agg [.lst (f.acts.map .str), I f.P, .lst (f.S.map eP)]]⟩, ⟨1, 0, .own 2 [.agg [.nils, .nils]]⟩, ⟨1, z, .own 2 [.agg [.lst (f.acts.map .str), cellv .nils 2 ((f.S.take i).map fun x => eRow2 (sttOf x p))]]⟩, ⟨a3, c3, .gone⟩, ⟨a4, c4, .gone⟩, ⟨a5, c5, .gone⟩, ⟨a6, c6, .gone⟩, ⟨a7, c7, .gone⟩, ⟨a8, c8, .gone⟩, ⟨a9, c9, .gone⟩, ⟨a10, c10, .gone⟩, ⟨a11, c11, .gone⟩], []⟩) (fun i => f.S.length - i) ?_ 0 ?_
  · rintro i σ ⟨hi, z, a3, c3, a4, c4, a5, c5, a6, c6, a7, c7, a8, c8, a9, c9, a10, c10, a11, c11, rfl⟩ N Q hQ hN
    have hS := hf.s
    by_cases hlt : i < f.S.length
    · obtain ⟨g1, g2, g3⟩ := hf.p i hlt
      have hwa := hw.a i hlt
      simp only [go_sem, ↓reduceIte, ↓guardT_tt, ↓guardT_tf, ↓guardT_ft, ↓guardT_ff, ↓condT_t, ↓condT_f, eP, wrap_succ hlt (by omega), Int.ofNat_lt, hlt]
      generalize hx : f.S[i]! = x at *
      have hwx : ∀ j < x.X.length, WOk x.X[j]! := fun j hj => by have := hw.x i hlt j (by rw [hx]; exact hj); rw [hx] at this; exact this
      refine wp_loopQ (fun (j : Nat) σ => j ≤ x.A.length ∧ ∃ z4 a5 c5 a6 c6 a7 c7, σ = ⟨aT .undef 75 [(1, I p), (4, .ptr 1 1 [] 0 0 0), (5, .ptr 2 1 [] 0 0 0), (7, .ptr 3 (a3 + 1) [] 0 0 0), (8, .ptr 4 (a4 + 1) [] 0 0 0), (20, .lst (f.S.map eP)), (21, I f.S.length), (22, I i), (27, .lst (x.A.map eC)), (28, I x.A.length), (29, I j)],
        [⟨1, 0, .own 3 [.agg [.lst (f.acts.map .str), I f.P, .lst (f.S.map eP)]]⟩, ⟨1, 0, .own 2 [.agg [.nils, .nils]]⟩, ⟨1, z, .own 2 [.agg [.lst (f.acts.map .str), cellv .nils 2 ((f.S.take i).map fun x => eRow2 (sttOf x p))]]⟩, ⟨a3 + 1, 0, .own 2 [.agg [.lst (x.A.map eC), .lst (x.X.map eCs)]]⟩, ⟨a4 + 1, z4, .own 2 [.agg [cellv .nils 1 ((chosenL (x.A.take j) p).map I), .nils]]⟩, ⟨a5, c5, .gone⟩, ⟨a6, c6, .gone⟩, ⟨a7, c7, .gone⟩, ⟨a8, c8, .gone⟩, ⟨a9, c9, .gone⟩, ⟨a10, c10, .gone⟩, ⟨a11, c11, .gone⟩], []⟩) (fun j => x.A.length - j) ?_ 0 ?_
      · rintro j σ ⟨hj, z4, a5, c5, a6, c6, a7, c7, rfl⟩ N2 Q2 hQ2 hN2
        by_cases hlt2 : j < x.A.length
        · obtain ⟨w, hw1, hw2⟩ := hwa j hlt2
          have hsm := @chosenL_len (x.A.take j) p
          rw [List.length_take] at hsm
          simp only [go_sem, ↓reduceIte, ↓guardT_tt, ↓guardT_tf, ↓guardT_ft, ↓guardT_ff, ↓condT_t, ↓condT_f, eC, wrap_succ hlt2 (by omega), Int.ofNat_lt, hlt2, hw1, has_r (show w < 2 ^ 63 by omega)]
          refine ⟨fun hb => ⟨by omega, hN2 (j + 1) _ (by omega) ⟨by omega, ?_⟩⟩, fun hb => hN2 (j + 1) _ (by omega) ⟨by omega, ?_⟩⟩
          · simp only [go_sem, ↓reduceIte, ↓guardT_tt, ↓guardT_tf, ↓guardT_ft, ↓guardT_ff, ↓condT_t, ↓condT_f, chosenL_succ hlt2, hw1, hb, List.map_append]
            repeat apply Exists.intro
            rfl
          · simp only [go_sem, ↓reduceIte, ↓guardT_tt, ↓guardT_tf, ↓guardT_ft, ↓guardT_ff, ↓condT_t, ↓condT_f, chosenL_succ hlt2, hw1, hb]
            repeat apply Exists.intro
            rfl
        · have hjl : j = x.A.length := by omega
          subst hjl hQ2
          simp only [go_sem, ↓reduceIte, ↓guardT_tt, ↓guardT_tf, ↓guardT_ft, ↓guardT_ff, ↓condT_t, ↓condT_f, Int.ofNat_lt, hlt2, List.take_length]
          refine wp_loopQ (fun (j : Nat) σ => j ≤ x.X.length ∧ ∃ z4 a8 c8 a9 c9, σ = ⟨aT .undef 75 [(1, I p), (4, .ptr 1 1 [] 0 0 0), (5, .ptr 2 1 [] 0 0 0), (8, .ptr 4 (a4 + 1) [] 0 0 0), (20, .lst (f.S.map eP)), (21, I f.S.length), (22, I i), (46, .lst (x.X.map eCs)), (47, I x.X.length), (48, I j)],
            [⟨1, 0, .own 3 [.agg [.lst (f.acts.map .str), I f.P, .lst (f.S.map eP)]]⟩, ⟨1, 0, .own 2 [.agg [.nils, .nils]]⟩, ⟨1, z, .own 2 [.agg [.lst (f.acts.map .str), cellv .nils 2 ((f.S.take i).map fun x => eRow2 (sttOf x p))]]⟩, ⟨a3 + 1, 0, .own 2 [.agg [.lst (x.A.map eC), .lst (x.X.map eCs)]]⟩, ⟨a4 + 1, z4, .own 2 [.agg [cellv .nils 1 ((chosenL x.A p).map I), cellv .nils 1 ((x.X.take j).map fun l => I (nextOf l p))]]⟩, ⟨a5, c5, .gone⟩, ⟨a6, c6, .gone⟩, ⟨a7, c7, .gone⟩, ⟨a8, c8, .gone⟩, ⟨a9, c9, .gone⟩, ⟨a10, c10, .gone⟩, ⟨a11, c11, .gone⟩], []⟩) (fun j => x.X.length - j) ?_ 0 ?_
          · rintro j σ ⟨hj, z4, a8, c8, a9, c9, rfl⟩ N3 Q3 hQ3 hN3
            by_cases hlt3 : j < x.X.length
            · have hl := g3 j hlt3
              simp only [go_sem, ↓reduceIte, ↓guardT_tt, ↓guardT_tf, ↓guardT_ft, ↓guardT_ff, ↓condT_t, ↓condT_f, eCs, wrap_succ hlt3 (by omega), Int.ofNat_lt, hlt3, chosen_r hl (hwx j hlt3)]
              refine ⟨fun h => ⟨by rw [List.length_take]; omega, hN3 (j + 1) _ (by omega) ⟨by omega, ?_⟩⟩, fun h => ⟨by rw [List.length_take]; omega, hN3 (j + 1) _ (by omega) ⟨by omega, ?_⟩⟩⟩
              · have hn : nextOf x.X[j]! p = -1 := by
                  unfold nextOf; cases hc : chosenL x.X[j]! p <;> rw [hc] at h <;> first | rfl | (simp at h; done) | (cases h; done) | trace_state
                simp only [go_sem, ↓reduceIte, ↓guardT_tt, ↓guardT_tf, ↓guardT_ft, ↓guardT_ff, ↓condT_t, ↓condT_f, take_succ_map _ hlt3, hn]
                repeat apply Exists.intro
                rfl
              · have hn : nextOf x.X[j]! p = (chosenL x.X[j]! p).headD 0 := by
                  unfold nextOf; cases hc : chosenL x.X[j]! p <;> rw [hc] at h <;> first | rfl | (simp at h; done) | (cases h; done) | trace_state
                simp only [go_sem, ↓reduceIte, ↓guardT_tt, ↓guardT_tf, ↓guardT_ft, ↓guardT_ff, ↓condT_t, ↓condT_f, take_succ_map _ hlt3, hn]
                repeat apply Exists.intro
                rfl
            · have hjl : j = x.X.length := by omega
              subst hjl hQ3
              simp only [go_sem, ↓reduceIte, ↓guardT_tt, ↓guardT_tf, ↓guardT_ft, ↓guardT_ff, ↓condT_t, ↓condT_f, Int.ofNat_lt, hlt3, List.take_length, wrap_succ hlt (show f.S.length ≤ 1000000000 by omega)]
              refine ⟨by rw [List.length_take]; omega, hN (i + 1) _ (by omega) ⟨by omega, ?_⟩⟩
              simp only [go_sem, ↓reduceIte, ↓guardT_tt, ↓guardT_tf, ↓guardT_ft, ↓guardT_ff, ↓condT_t, ↓condT_f, take_succ_map _ hlt, hx, eRow2_eq]
              repeat apply Exists.intro
              rfl
          · refine ⟨by omega, ?_⟩
            simp only [go_sem, ↓reduceIte, ↓guardT_tt, ↓guardT_tf, ↓guardT_ft, ↓guardT_ff, ↓condT_t, ↓condT_f, List.take_zero]
            repeat apply Exists.intro
            rfl
      · refine ⟨by omega, ?_⟩
        simp only [go_sem, ↓reduceIte, ↓guardT_tt, ↓guardT_tf, ↓guardT_ft, ↓guardT_ff, ↓condT_t, ↓condT_f, chosenL, List.take_zero, List.filter_nil]
        repeat apply Exists.intro
        rfl
    · have hil : i = f.S.length := by omega
      subst hil hQ
      simp only [go_sem, ↓reduceIte, ↓guardT_tt, ↓guardT_tf, ↓guardT_ft, ↓guardT_ff, ↓condT_t, ↓condT_f, Int.ofNat_lt, hlt, List.take_length, eSp, prodOf]
      simp only [List.map_map]
      have e : ∀ x, (frz ∘ fun x => eRow2 (sttOf x p)) x = (eSt ∘ fun x => sttOf x p) x := fun x => frz_eRow2 _
      rw [List.map_congr_left (fun x _ => e x)]
  · refine ⟨by omega, ?_⟩
    simp only [go_sem, ↓reduceIte, ↓guardT_tt, ↓guardT_tf, ↓guardT_ft, ↓guardT_ff, ↓condT_t, ↓condT_f, List.take_zero]
    repeat apply Exists.intro
    rfl
end Go.Mw

/- Drawn regions whose operations may meet. -/
namespace Go.Mw
set_option linter.unusedVariables false
set_option linter.unusedSimpArgs false
set_option maxRecDepth 100000
def WpDr (G : Prg) (ops : List Rop) (b : Nat) (σ : St) (K : St → List (Option (List Nat)) → Prop) (u : Tg K := tg) : Prop := WpD G ops b σ K
theorem wp_drwT {G : Prg} {ops : List Rop} {x : Nat × Nat} {prs : List (Nat × Nat)} {b : Nat} {σ : St} {Q : Ex → St → Prop} :
    Wp G (.drw ops (x :: prs)) b σ Q = WpDr G ops b σ (fun σ1 fs => (x :: prs).all (fun p => apart (fs.getD p.1 none) (fs.getD p.2 none)) = true ∧ Q .nrm σ1) := wp_drw
theorem wpDr_congr {G : Prg} {ops : List Rop} {b : Nat} {σ τ : St} {K : St → List (Option (List Nat)) → Prop} (h : σ = τ) : WpDr G ops b σ K = WpDr G ops b τ K := by rw [h]
attribute [congr] wpDr_congr
theorem wpDr_nil {G : Prg} {b : Nat} {σ : St} {K : St → List (Option (List Nat)) → Prop} : WpDr G [] b σ K = K σ [] :=
  propext ⟨fun ⟨n, σ', fs, h, k⟩ => by simp [drwE] at h; obtain ⟨rfl, rfl⟩ := h; exact k, fun k => ⟨0, σ, [], rfl, k⟩⟩
theorem drwE_le {G : Prg} {n m : Nat} (h : n ≤ m) {ops : List Rop} {b : Nat} {σ : St} {r : St × List (Option (List Nat))} (hx : drwE G (evO G n) ops b σ = some r) : drwE G (evO G m) ops b σ = some r :=
  drwE_mono (fun i b σ r h2 => (monoLe h).2.1 i b σ r h2) _ _ _ _ hx
/-- one operation, as a function of fuel -/
theorem wpI_ex {G : Prg} {i : Ins} {b : Nat} {σ : St} {k : AV → St → Prop} : wpI G i b σ k ↔ ∃ n v σ1, evO G n i b σ = some (v, σ1) ∧ k v σ1 := by
  have h := wpO_cons (G := G) (d := none) (i := i) (os := []) (b := b) (σ := σ) (K := fun _ => True)
  have key : ∀ k : AV → St → Prop, wpI G i b σ k = ∃ n v σ1, evO G n i b σ = some (v, σ1) ∧ k v σ1 := by
    intro k
    cases i with
    | call f xs ss =>
      refine propext ⟨fun ⟨n, v, σ1, h1, h2⟩ => ⟨n + 1, v, σ1, h1, h2⟩, fun ⟨n, v, σ1, h1, h2⟩ => ?_⟩
      cases n with
      | zero => simp [evO] at h1
      | succ n => exact ⟨n, v, σ1, h1, h2⟩
    | calv x xs ss =>
      show calvK G (σ.get x) (σ.gets xs) b ss σ k = _
      cases hx : σ.get x with
      | fn f cs =>
        refine propext ⟨fun ⟨n, v, σ1, h1, h2⟩ => ⟨n + 1, v, σ1, by rw [evO, hx]; exact h1, h2⟩, fun ⟨n, v, σ1, h1, h2⟩ => ?_⟩
        cases n with
        | zero => simp [evO] at h1
        | succ n => rw [evO, hx] at h1; exact ⟨n, v, σ1, h1, h2⟩
      | yld l =>
        refine propext ⟨fun ⟨n, v, σ1, h1, h2⟩ => ⟨n + 1, v, σ1, by rw [evO, hx]; exact h1, h2⟩, fun ⟨n, v, σ1, h1, h2⟩ => ?_⟩
        cases n with
        | zero => simp [evO] at h1
        | succ n => rw [evO, hx] at h1; exact ⟨n, v, σ1, h1, h2⟩
      | _ =>
        refine propext ⟨fun h => h.elim, fun ⟨n, v, σ1, h1, h2⟩ => ?_⟩
        cases n with
        | zero => simp [evO] at h1
        | succ n => simp [evO, hx] at h1
    | _ =>
      refine propext ⟨fun h => ?_, fun ⟨n, v, σ1, h1, h2⟩ => ?_⟩
      · refine ⟨1, ?_⟩
        rw [evO_plain rfl]
        simp only [wpI, stepK] at h
        split at h
        · rename_i v h' hx; exact ⟨v, { σ with h := h' }, rfl, h⟩
        · exact h.elim
      · cases n with
        | zero => simp [evO] at h1
        | succ n =>
          rw [evO_plain rfl] at h1
          simp only [wpI, stepK]
          split at h1
          · rename_i v' h' hx; simp only [Option.some.injEq, Prod.mk.injEq] at h1; obtain ⟨rfl, rfl⟩ := h1; exact h2
          · cases h1
  rw [key k]
theorem wpDr_cons {G : Prg} {d : Option Nat} {i : Ins} {os : List Rop} {b : Nat} {σ : St} {K : St → List (Option (List Nat)) → Prop} :
    WpDr G (⟨d, i, none⟩ :: os) b σ K = wpI G i b σ (fun v σ1 => WpDr G os b (σ1.put d v) (fun σ2 fs => K σ2 (foot G b i σ :: fs))) := by
  refine propext ⟨fun ⟨n, σ', fs, h, k⟩ => ?_, fun h => ?_⟩
  · rw [wpI_ex]
    simp only [drwE, wantedO] at h
    cases hx : evO G n i b σ with
    | none => simp [hx] at h
    | some p =>
      obtain ⟨v, σ1⟩ := p
      simp only [hx] at h
      cases hy : drwE G (evO G n) os b (σ1.put d v) with
      | none => simp [hy] at h
      | some q =>
        obtain ⟨σ2, fs2⟩ := q
        simp only [hy, Option.some.injEq, Prod.mk.injEq] at h
        obtain ⟨rfl, rfl⟩ := h
        exact ⟨n, v, σ1, hx, n, σ2, fs2, hy, k⟩
  · rw [wpI_ex] at h
    obtain ⟨n, v, σ1, h1, m, σ2, fs, h2, k⟩ := h
    refine ⟨max n m, σ2, foot G b i σ :: fs, ?_, k⟩
    simp only [drwE, wantedO, (monoLe (Nat.le_max_left n m)).2.1 _ _ _ _ h1, drwE_le (Nat.le_max_right n m) h2]
attribute [go_sem] wp_drwT wpDr_nil wpDr_cons
/-! #### feet -/
section
variable {G : Prg} {b : Nat} {σ : St} {x y z : Opd}
theorem foot_bxf : foot G b (.bxf x) σ = some [] := (rfl)
theorem foot_mov  : foot G b (.mov x) σ = some [] := (rfl)
theorem foot_pick  : foot G b (.pick x y z) σ = some [] := (rfl)
theorem foot_bin {op : BinOp} : foot G b (.bin op x y) σ = some [] := (rfl)
theorem foot_beq {ng : Bool} : foot G b (.beq ng x y) σ = some [] := (rfl)
theorem foot_un {uo : UnOp} : foot G b (.un uo x) σ = some [] := (rfl)
theorem foot_cvi {kk : IntKind} : foot G b (.cvi kk x) σ = some [] := (rfl)
theorem foot_ext {n : Nat} : foot G b (.ext x n) σ = some [] := (rfl)
theorem foot_lens  : foot G b (.lens x) σ = some [] := (rfl)
theorem foot_idx  : foot G b (.idx x y) σ = some [] := (rfl)
theorem foot_ixa {ag : Bool} {n : Nat} {m : Nat} : foot G b (.ixa ag n m x y) σ = some [] := (rfl)
theorem foot_fld {ag : Bool} {n : Nat} {m : Nat} : foot G b (.fld ag n m x) σ = some [] := (rfl)
theorem foot_ld {ag : Bool} {n : Nat} : foot G b (.ld ag n x) σ = some (rootsL [σ.get x]) := (rfl)
theorem foot_fad {n : Nat} : foot G b (.fad n x) σ = some (rootsL [σ.get x]) := (rfl)
theorem foot_lenl  : foot G b (.lenl x) σ = some (rootsL [σ.get x]) := (rfl)
theorem foot_lenm  : foot G b (.lenm x) σ = some (rootsL [σ.get x]) := (rfl)
theorem foot_sto {n : Nat} : foot G b (.sto n x y) σ = some (rootsL [σ.get x, σ.get y]) := (rfl)
theorem foot_iad {n : Nat} : foot G b (.iad n x y) σ = some (rootsL [σ.get x, σ.get y]) := (rfl)
theorem foot_iaa {n : Nat} {m : Nat} : foot G b (.iaa n m x y) σ = some (rootsL [σ.get x, σ.get y]) := (rfl)
theorem foot_nilc {ng : Bool} : foot G b (.nilc ng x y) σ = some (rootsL [σ.get x, σ.get y]) := (rfl)
theorem foot_alc {s n : Nat} {z : AV} : foot G b (.alc s n z) σ = some [b + s] := (rfl)
theorem foot_box {s n : Nat} : foot G b (.box s n x) σ = some ((b + s) :: rootsL [σ.get x]) := (rfl)
theorem foot_app {s n m : Nat} : foot G b (.app s n m x y) σ = some ((b + s) :: rootsL [σ.get x, σ.get y]) := (rfl)
theorem foot_mks {s n m : Nat} {z : AV} : foot G b (.mks s n m z x y) σ = some ((b + s) :: rootsL [σ.get x, σ.get y]) := (rfl)
theorem foot_bsl {s n m : Nat} {xs : List Opd} : foot G b (.bsl s n m xs) σ = some ((b + s) :: rootsL (σ.gets xs)) := (rfl)
theorem foot_bld {zs : List AV} {ps : List (Nat × Nat × Opd)} : foot G b (.bld zs ps) σ = some (rootsL (σ.gets (ps.map (·.2.2)))) := (rfl)
def footV (G : Prg) (v : AV) (ys : List AV) : Option (List Nat) :=
  match v with
  | .fn f cs => match G f with
    | some F => if F.pure then some (rootsL (ys ++ cs)) else none
    | none => none
  | _ => none
theorem foot_calv {xs : List Opd} : foot G b (.calv x xs []) σ = footV G (σ.get x) (σ.gets xs) := by
  simp only [foot, footV]
  generalize σ.get x = v
  cases v <;> first | rfl | (simp only [List.map_nil, List.nil_append])
theorem footV_fn {f : FuncId} {cs ys : List AV} (h : PureF G f) : footV G (.fn f cs) ys = some (rootsL (ys ++ cs)) := by
  obtain ⟨F, h1, h2⟩ := h
  simp [footV, h1, h2]
theorem foot_call {f : FuncId} {xs : List Opd} (h : PureF G f) : foot G b (.call f xs []) σ = some (rootsL (σ.gets xs)) := by
  obtain ⟨F, h1, h2⟩ := h
  simp [foot, h1, h2]
end
attribute [go_sem] foot_calv footV_fn foot_bxf foot_mov foot_pick foot_bin foot_beq foot_un foot_cvi foot_ext foot_lens foot_idx foot_ixa foot_fld foot_ld foot_fad foot_lenl foot_lenm foot_sto foot_iad foot_iaa foot_nilc foot_alc foot_box foot_app foot_mks foot_bsl foot_bld foot_call
theorem rootsL_nil' : rootsL [] = [] := (rfl)
theorem rootsL_cons' {x : AV} {xs : List AV} : rootsL (x :: xs) = rootsOf x ++ rootsL xs := (rfl)
theorem roots_int {κ : IntKind} {n : Int} : rootsOf (.int κ n) = [] := (rfl)
theorem roots_bool {v : Bool} : rootsOf (.bool v) = [] := (rfl)
theorem roots_str {v : ByteArray} : rootsOf (.str v) = [] := (rfl)
theorem roots_lst {v : List AV} : rootsOf (.lst v) = [] := (rfl)
theorem roots_nils : rootsOf .nils = [] := (rfl)
theorem roots_emp : rootsOf .emp = [] := (rfl)
theorem roots_undef : rootsOf .undef = [] := (rfl)
theorem roots_pfro {v : List AV} : rootsOf (.pfro v) = [] := (rfl)
theorem roots_sl {r st : Nat} {p : Path} {ss off len : Nat} : rootsOf (.sl r st p ss off len) = [r] := (rfl)
theorem roots_ptr {r st : Nat} {p : Path} {ss i j : Nat} : rootsOf (.ptr r st p ss i j) = [r] := (rfl)
theorem roots_mp {r st : Nat} {p : Path} {ss : Nat} : rootsOf (.mp r st p ss) = [r] := (rfl)
theorem roots_agg {v : List AV} : rootsOf (.agg v) = rootsL v := (rfl)
theorem roots_tup {v : List AV} : rootsOf (.tup v) = rootsL v := (rfl)
theorem roots_fn {f : FuncId} {v : List AV} : rootsOf (.fn f v) = rootsL v := (rfl)
/-- perhaps a place -/
def may (xs : List AV) (r : Nat) : List Nat := if xs = [] then [] else [r]
theorem roots_row {e : AV} {es r st : Nat} {xs : List AV} (he : e.void = true) : rootsOf (rowv e es r st xs) = may xs r := by
  unfold rowv may; split
  · cases e <;> first | rfl | (simp [AV.void] at he)
  · rfl
theorem roots_cell {e : AV} {es r st ss : Nat} {p : Path} {xs : List AV} (he : e.void = true) : rootsOf (rowc e es r st p ss xs) = may xs r := by
  unfold rowc may; split
  · cases e <;> first | rfl | (simp [AV.void] at he)
  · rfl
def notIn (r : Nat) (l : List Nat) : Prop := l.contains r = false
def noneIn (a b : List Nat) : Prop := (a.all fun r => !b.contains r) = true
theorem apart_0 {b : Option (List Nat)} : (apart (some []) b = true) = True := by simp [apart]
theorem apart_1 {x : Nat} {a b : List Nat} : (apart (some (x :: a)) (some b) = true) = noneIn (x :: a) b := by
  unfold noneIn; cases b with
  | nil => simp [apart]
  | cons y b => rfl
theorem apart_m {xs : List AV} {r : Nat} {a b : List Nat} : (apart (some (may xs r ++ a)) (some b) = true) = noneIn (may xs r ++ a) b := by
  unfold noneIn may
  split
  · cases a with
    | nil => simp [apart]
    | cons x a => cases b <;> simp [apart]
  · cases b <;> simp [apart]
theorem apart_m0 {xs : List AV} {r : Nat} {b : List Nat} : (apart (some (may xs r)) (some b) = true) = noneIn (may xs r) b := by
  have := @apart_m xs r [] b; rwa [List.append_nil] at this
theorem noneIn_nil {b : List Nat} : noneIn [] b = True := by simp [noneIn]
theorem noneIn_cons {x : Nat} {a b : List Nat} : noneIn (x :: a) b = (notIn x b ∧ noneIn a b) := by simp [noneIn, notIn]
theorem noneIn_may {xs : List AV} {r : Nat} {a b : List Nat} : noneIn (may xs r ++ a) b = ((xs ≠ [] → notIn r b) ∧ noneIn a b) := by
  unfold may; by_cases h : xs = [] <;> simp [h, noneIn, notIn]
theorem noneIn_may0 {xs : List AV} {r : Nat} {b : List Nat} : noneIn (may xs r) b = (xs ≠ [] → notIn r b) := by
  unfold may; by_cases h : xs = [] <;> simp [h, noneIn, notIn]
theorem notIn_nil {x : Nat} : notIn x [] = True := by simp [notIn]
theorem notIn_cons {x y : Nat} {b : List Nat} : notIn x (y :: b) = (¬ x = y ∧ notIn x b) := by simp [notIn]
theorem notIn_may {x : Nat} {xs : List AV} {r : Nat} {b : List Nat} : notIn x (may xs r ++ b) = ((xs ≠ [] → ¬ x = r) ∧ notIn x b) := by
  unfold may; by_cases h : xs = [] <;> simp [h, notIn]
theorem notIn_may0 {x : Nat} {xs : List AV} {r : Nat} : notIn x (may xs r) = (xs ≠ [] → ¬ x = r) := by
  unfold may; by_cases h : xs = [] <;> simp [h, notIn]
theorem all_pr {α : Type} {x : α} {l : List α} {q : α → Bool} : ((x :: l).all q = true) = (q x = true ∧ l.all q = true) := by simp
theorem all_pr0 {α : Type} {q : α → Bool} : (([] : List α).all q = true) = True := by simp
theorem pr_and {a b : Bool} : ((a && b) = true) = (a = true ∧ b = true) := by cases a <;> cases b <;> simp
attribute [go_sem] pr_and rootsL_nil' rootsL_cons' roots_int roots_bool roots_str roots_lst roots_nils roots_emp roots_undef roots_pfro roots_sl roots_ptr roots_mp roots_agg roots_tup roots_fn roots_row roots_cell apart_0 apart_1 apart_m apart_m0 noneIn_may0 notIn_may0 noneIn_nil noneIn_cons noneIn_may notIn_nil notIn_cons notIn_may all_pr all_pr0
end Go.Mw

/- The same? small or not? -/
namespace Go.Mw
set_option linter.unusedVariables false
set_option linter.unusedSimpArgs false
set_option maxRecDepth 100000
theorem sameS_ok (l : List ByteArray) (hl : l.length ≤ 1048576) : FnT G f_makeweightref01_SameStrings [.lst (l.map .str), .lst (l.map .str)] (Bo true) := by
  refine FnP.mk' g_makeweightref01_SameStrings rfl rfl ?_
  simp only [go_sem, ↓reduceIte, ↓guardT_tt, ↓guardT_tf, ↓guardT_ft, ↓guardT_ff, ↓condT_t, ↓condT_f, bne_self_eq_false, c_makeweightref01_SameStrings]
  refine wp_loopQ (fun (i : Nat) σ => i ≤ l.length ∧ σ = ⟨aT .undef 26 [(1, .lst (l.map .str)), (12, .lst (l.map .str)), (13, I l.length), (14, I i)], [], []⟩) (fun i => l.length - i) ?_ 0 ?_
  · rintro i σ ⟨hi, rfl⟩ N Q hQ hN
    by_cases hlt : i < l.length
    · simp only [go_sem, ↓reduceIte, ↓guardT_tt, ↓guardT_tf, ↓guardT_ft, ↓guardT_ff, ↓condT_t, ↓condT_f, bne_self_eq_false, wrap_succ hlt (by omega), Int.ofNat_lt, hlt]
      refine hN (i + 1) _ (by omega) ⟨by omega, ?_⟩
      simp only [go_sem, ↓reduceIte, ↓guardT_tt, ↓guardT_tf, ↓guardT_ft, ↓guardT_ff, ↓condT_t, ↓condT_f, bne_self_eq_false]
    · subst hQ
      simp only [go_sem, ↓reduceIte, ↓guardT_tt, ↓guardT_tf, ↓guardT_ft, ↓guardT_ff, ↓condT_t, ↓condT_f, bne_self_eq_false, Int.ofNat_lt, hlt]
  · exact ⟨by omega, by simp only [go_sem, ↓reduceIte, ↓guardT_tt, ↓guardT_tf, ↓guardT_ft, ↓guardT_ff, ↓condT_t, ↓condT_f]⟩
theorem sameI_ok (l : List Int) (hl : l.length ≤ 1048576) : FnT G f_makeweightref01_SameInts [.lst (l.map I), .lst (l.map I)] (Bo true) := by
  refine FnP.mk' g_makeweightref01_SameInts rfl rfl ?_
  simp only [go_sem, ↓reduceIte, ↓guardT_tt, ↓guardT_tf, ↓guardT_ft, ↓guardT_ff, ↓condT_t, ↓condT_f, bne_self_eq_false, c_makeweightref01_SameInts]
  refine wp_loopQ (fun (i : Nat) σ => i ≤ l.length ∧ σ = ⟨aT .undef 26 [(1, .lst (l.map I)), (12, .lst (l.map I)), (13, I l.length), (14, I i)], [], []⟩) (fun i => l.length - i) ?_ 0 ?_
  · rintro i σ ⟨hi, rfl⟩ N Q hQ hN
    by_cases hlt : i < l.length
    · simp only [go_sem, ↓reduceIte, ↓guardT_tt, ↓guardT_tf, ↓guardT_ft, ↓guardT_ff, ↓condT_t, ↓condT_f, bne_self_eq_false, wrap_succ hlt (by omega), Int.ofNat_lt, hlt]
      refine hN (i + 1) _ (by omega) ⟨by omega, ?_⟩
      simp only [go_sem, ↓reduceIte, ↓guardT_tt, ↓guardT_tf, ↓guardT_ft, ↓guardT_ff, ↓condT_t, ↓condT_f, bne_self_eq_false]
    · subst hQ
      simp only [go_sem, ↓reduceIte, ↓guardT_tt, ↓guardT_tf, ↓guardT_ft, ↓guardT_ff, ↓condT_t, ↓condT_f, bne_self_eq_false, Int.ofNat_lt, hlt]
  · exact ⟨by omega, by simp only [go_sem, ↓reduceIte, ↓guardT_tt, ↓guardT_tf, ↓guardT_ft, ↓guardT_ff, ↓condT_t, ↓condT_f]⟩
section
variable {fr : Bool} {roots : List Nat} {b : Nat} {ss : List Nat} {σ : St} {k : AV → St → Prop}
theorem sameS_r {l : List ByteArray} (hl : l.length ≤ 1048576) : callT G f_makeweightref01_SameStrings [.lst (l.map .str), .lst (l.map .str)] fr roots b ss σ k = k (Bo true) σ := (sameS_ok l hl).rule
theorem sameI_r {l : List Int} (hl : l.length ≤ 1048576) : callT G f_makeweightref01_SameInts [.lst (l.map I), .lst (l.map I)] fr roots b ss σ k = k (Bo true) σ := (sameI_ok l hl).rule
end
structure SpSz (t : Spc) : Prop where
  a : t.acts.length ≤ 1048576
  s : t.S.length ≤ 1048576
  x : ∀ i < t.S.length, t.S[i]!.A.length ≤ 1048576 ∧ t.S[i]!.X.length ≤ 1048576
theorem same_ok (s : Spc) (hs : SpSz s) : FnT G f_makeweightref03_Same [eSp s, eSp s] (Bo true) := by
  refine FnP.mk' g_makeweightref03_Same rfl rfl ?_
  simp only [go_sem, ↓reduceIte, ↓guardT_tt, ↓guardT_tf, ↓guardT_ft, ↓guardT_ff, ↓condT_t, ↓condT_f, bne_self_eq_false, c_makeweightref03_Same, eSp, sameS_r hs.a]
  refine wp_loopQ (fun (i : Nat) σ => i ≤ s.S.length ∧ ∃ a c, σ = ⟨aT .undef 53 [(3, .ptr 1 1 [] 0 0 0), (23, .lst (s.S.map eSt)), (24, I s.S.length), (25, I i)], [⟨1, 0, .own 2 [.agg [.lst (s.acts.map .str), .lst (s.S.map eSt)]]⟩, ⟨1, 0, .own 2 [.agg [.lst (s.acts.map .str), .lst (s.S.map eSt)]]⟩, ⟨a, c, .gone⟩], []⟩) (fun i => s.S.length - i) ?_ 0 ?_
  · rintro i σ ⟨hi, a, c, rfl⟩ N Q hQ hN
    have hS := hs.s
    by_cases hlt : i < s.S.length
    · obtain ⟨h1, h2⟩ := hs.x i hlt
      simp only [go_sem, ↓reduceIte, ↓guardT_tt, ↓guardT_tf, ↓guardT_ft, ↓guardT_ff, ↓condT_t, ↓condT_f, bne_self_eq_false, eSt, wrap_succ hlt (by omega), Int.ofNat_lt, hlt, sameI_r h1, sameI_r h2]
      refine hN (i + 1) _ (by omega) ⟨by omega, ?_⟩
      simp only [go_sem, ↓reduceIte, ↓guardT_tt, ↓guardT_tf, ↓guardT_ft, ↓guardT_ff, ↓condT_t, ↓condT_f, bne_self_eq_false]
      repeat apply Exists.intro
      rfl
    · subst hQ
      simp only [go_sem, ↓reduceIte, ↓guardT_tt, ↓guardT_tf, ↓guardT_ft, ↓guardT_ff, ↓condT_t, ↓condT_f, bne_self_eq_false, Int.ofNat_lt, hlt]
  · refine ⟨by omega, ?_⟩
    simp only [go_sem, ↓reduceIte, ↓guardT_tt, ↓guardT_tf, ↓guardT_ft, ↓guardT_ff, ↓condT_t, ↓condT_f, bne_self_eq_false]
    repeat apply Exists.intro
    rfl
end Go.Mw

/- Small or not: only that there is an answer. -/
namespace Go.Mw
set_option linter.unusedVariables false
set_option linter.unusedSimpArgs false
set_option maxRecDepth 100000
theorem FnP.flat {f : FuncId} {xs : List AV} (h : FnP G f xs fun rs h => ∃ v, packV (treeBL 0 h rs) = Bo v ∧ rs.all AV.flats = true) : ∃ v, FnT G f xs (Bo v) := by
  obtain ⟨F, n, rs, σ1, hf, h1, h2, h3, h4, hr, v, hR⟩ := h
  exact ⟨v, F, n, rs, σ1, hf, h1, h2, h3, h4, hr, hR⟩
theorem bo_ex {b : Bool} : (∃ v, AV.bool b = Bo v) = True := by
  apply propext; constructor
  · intro _; trivial
  · intro h; exact ⟨b, rfl⟩
theorem few_ex (f : Fam) (hf : FSz f) : ∃ v, FnT G f_makeweightref16_Few [eF f, I 1000] (Bo v) := by
  refine FnP.flat (FnP.mk' g_makeweightref16_Few rfl rfl ?_)
  have ha := hf.a
  have hS := hf.s
  have w0 : IntKind.i64.wrap ((f.acts.length : Int) + f.S.length) = (f.acts.length : Int) + f.S.length := by rw [wrapI] <;> omega
  simp only [go_sem, ↓reduceIte, ↓guardT_tt, ↓guardT_tf, ↓guardT_ft, ↓guardT_ff, ↓condT_t, ↓condT_f, c_makeweightref16_Few, eF, w0]
  refine wp_loopQ (fun (i : Nat) σ => i ≤ f.S.length ∧ ∃ c : Int, 0 ≤ c ∧ c ≤ 4194304 ∧ σ = ⟨aT .undef 75 [(1, I 1000), (2, .ptr 0 1 [] 0 0 0), (5, I c), (6, I i)], [⟨1, 0, .own 3 [.agg [.lst (f.acts.map .str), I f.P, .lst (f.S.map eP)]]⟩], []⟩) (fun i => f.S.length - i) ?_ 0 ?_
  · rintro i σ ⟨hi, c, hc0, hc1, rfl⟩ N Q hQ hN
    by_cases hlt : i < f.S.length
    · obtain ⟨g1, g2, g3⟩ := hf.p i hlt
      simp only [go_sem, ↓reduceIte, ↓guardT_tt, ↓guardT_tf, ↓guardT_ft, ↓guardT_ff, ↓condT_t, ↓condT_f, eP, Int.ofNat_lt, hlt]
      by_cases hc : c ≤ 1000
      · have w1 : IntKind.i64.wrap ((f.S[i]!.A.length : Int) + f.S[i]!.X.length) = (f.S[i]!.A.length : Int) + f.S[i]!.X.length := by rw [wrapI] <;> omega
        have w2 : IntKind.i64.wrap (c + ((f.S[i]!.A.length : Int) + f.S[i]!.X.length)) = c + ((f.S[i]!.A.length : Int) + f.S[i]!.X.length) := by rw [wrapI] <;> omega
        simp only [go_sem, ↓reduceIte, ↓guardT_tt, ↓guardT_tf, ↓guardT_ft, ↓guardT_ff, ↓condT_t, ↓condT_f, hc, w1, w2]
        refine wp_loopQ (fun (j : Nat) σ => j ≤ f.S[i]!.X.length ∧ ∃ c : Int, 0 ≤ c ∧ c ≤ 4194304 ∧ σ = ⟨aT .undef 75 [(1, I 1000), (2, .ptr 0 1 [] 0 0 0), (5, I c), (6, I i), (7, I j)], [⟨1, 0, .own 3 [.agg [.lst (f.acts.map .str), I f.P, .lst (f.S.map eP)]]⟩], []⟩) (fun j => f.S[i]!.X.length - j) ?_ 0 ?_
        · rintro j σ ⟨hj, c, hc0, hc1, rfl⟩ N2 Q2 hQ2 hN2
          by_cases hlt2 : j < f.S[i]!.X.length
          · have g4 := g3 j hlt2
            simp only [go_sem, ↓reduceIte, ↓guardT_tt, ↓guardT_tf, ↓guardT_ft, ↓guardT_ff, ↓condT_t, ↓condT_f, eP, eCs, Int.ofNat_lt, hlt, hlt2]
            by_cases hc2 : c ≤ 1000
            · have w3 : IntKind.i64.wrap (c + (f.S[i]!.X[j]!.length : Int)) = c + (f.S[i]!.X[j]!.length : Int) := by rw [wrapI] <;> omega
              simp only [go_sem, ↓reduceIte, ↓guardT_tt, ↓guardT_tf, ↓guardT_ft, ↓guardT_ff, ↓condT_t, ↓condT_f, eCs, hc2, w3, hlt, hlt2, wrap_succ hlt2 (by omega)]
              refine hN2 (j + 1) _ (by omega) ⟨by omega, c + f.S[i]!.X[j]!.length, by omega, by omega, ?_⟩
              simp only [go_sem, ↓reduceIte, ↓guardT_tt, ↓guardT_tf, ↓guardT_ft, ↓guardT_ff, ↓condT_t, ↓condT_f]
            · simp only [go_sem, ↓reduceIte, ↓guardT_tt, ↓guardT_tf, ↓guardT_ft, ↓guardT_ff, ↓condT_t, ↓condT_f, hc2]
              subst hQ2
              simp only [go_sem, ↓reduceIte, ↓guardT_tt, ↓guardT_tf, ↓guardT_ft, ↓guardT_ff, ↓condT_t, ↓condT_f, wrap_succ hlt (show f.S.length ≤ 1000000000 by omega)]
              refine hN (i + 1) _ (by omega) ⟨by omega, c, hc0, hc1, ?_⟩
              simp only [go_sem, ↓reduceIte, ↓guardT_tt, ↓guardT_tf, ↓guardT_ft, ↓guardT_ff, ↓condT_t, ↓condT_f]
          · simp only [go_sem, ↓reduceIte, ↓guardT_tt, ↓guardT_tf, ↓guardT_ft, ↓guardT_ff, ↓condT_t, ↓condT_f, eP, eCs, Int.ofNat_lt, hlt, hlt2]
            subst hQ2
            simp only [go_sem, ↓reduceIte, ↓guardT_tt, ↓guardT_tf, ↓guardT_ft, ↓guardT_ff, ↓condT_t, ↓condT_f, wrap_succ hlt (show f.S.length ≤ 1000000000 by omega)]
            refine hN (i + 1) _ (by omega) ⟨by omega, c, hc0, hc1, ?_⟩
            simp only [go_sem, ↓reduceIte, ↓guardT_tt, ↓guardT_tf, ↓guardT_ft, ↓guardT_ff, ↓condT_t, ↓condT_f]
        · refine ⟨by omega, c + (f.S[i]!.A.length + f.S[i]!.X.length), by omega, by omega, ?_⟩
          simp only [go_sem, ↓reduceIte, ↓guardT_tt, ↓guardT_tf, ↓guardT_ft, ↓guardT_ff, ↓condT_t, ↓condT_f]
      · simp only [go_sem, ↓reduceIte, ↓guardT_tt, ↓guardT_tf, ↓guardT_ft, ↓guardT_ff, ↓condT_t, ↓condT_f, hc]
        subst hQ
        simp only [go_sem, ↓reduceIte, ↓guardT_tt, ↓guardT_tf, ↓guardT_ft, ↓guardT_ff, ↓condT_t, ↓condT_f, bo_ex]
    · subst hQ
      simp only [go_sem, ↓reduceIte, ↓guardT_tt, ↓guardT_tf, ↓guardT_ft, ↓guardT_ff, ↓condT_t, ↓condT_f, Int.ofNat_lt, hlt, bo_ex]
  · refine ⟨by omega, f.acts.length + f.S.length, by omega, by omega, ?_⟩
    simp only [go_sem, ↓reduceIte, ↓guardT_tt, ↓guardT_tf, ↓guardT_ft, ↓guardT_ff, ↓condT_t, ↓condT_f]
theorem light_ex (f : Fam) (hf : FSz f) : ∃ v, FnT G f_makeweightlaw16_light [eF f] (Bo v) := by
  obtain ⟨v, hv⟩ := few_ex f hf
  have hcall : ∀ {fr : Bool} {roots : List Nat} {b : Nat} {ss : List Nat} {σ : St} {k : AV → St → Prop}, callT G f_makeweightref16_Few [.agg [.lst (f.acts.map .str), I f.P, .lst (f.S.map eP)], .int .i64 1000] fr roots b ss σ k = k (Bo v) σ := hv.rule
  refine FnP.flat (FnP.mk' g_makeweightlaw16_light rfl rfl ?_)
  have hS := hf.s
  simp only [go_sem, ↓reduceIte, ↓guardT_tt, ↓guardT_tf, ↓guardT_ft, ↓guardT_ff, ↓condT_t, ↓condT_f, c_makeweightlaw16_light, eF]
  by_cases h : (f.S.length : Int) ≤ 20
  · simp only [go_sem, ↓reduceIte, ↓guardT_tt, ↓guardT_tf, ↓guardT_ft, ↓guardT_ff, ↓condT_t, ↓condT_f, h, hcall, bo_ex]
  · simp only [go_sem, ↓reduceIte, ↓guardT_tt, ↓guardT_tf, ↓guardT_ft, ↓guardT_ff, ↓condT_t, ↓condT_f, h, bo_ex]
end Go.Mw

/- Check and Product, as a caller sees them. -/
namespace Go.Mw
set_option linter.unusedVariables false
set_option linter.unusedSimpArgs false
set_option maxRecDepth 100000
theorem choOk_at {l : List Ch} {most : Int} {p : Int → Bool} (h : choOk l most p = true) : ∀ i < l.length, p l[i]!.N = true ∧ 1 ≤ l[i]!.W ∧ l[i]!.W < most ∧ (0 < i → l[i-1]!.N < l[i]!.N) := by
  unfold choOk at h; rw [decide_eq_true_eq] at h; exact h
theorem choOk_W {l : List Ch} {pr : Nat} {p : Int → Bool} (hp : pr ≤ 32) (h : choOk l ((2 ^ pr : Nat) : Int) p = true) : WOk l := by
  intro i hi
  obtain ⟨_, h1, h2, _⟩ := choOk_at h i hi
  have h3 : (2 : Nat) ^ pr ≤ 2 ^ 32 := Nat.pow_le_pow_right (by omega) hp
  exact ⟨l[i]!.W.toNat, by omega, by omega⟩
theorem FamOk.w {f : Fam} (h : FamOk f) : FWOk f := by
  have h32 : f.P.toNat ≤ 32 := by have := h.p2; omega
  exact ⟨fun i hi => choOk_W h32 (h.plan i hi).acc, fun i hi j hj => choOk_W h32 ((h.plan i hi).nxt j hj).1⟩
section
variable {fr : Bool} {roots : List Nat} {b : Nat} {ss : List Nat} {σ : St} {k : AV → St → Prop}
theorem single_r {f : Fam} (hf : FSz f) (hw : FWOk f) {p : Nat} : callT G f_family_single [.agg [.lst (f.acts.map .str), I f.P, .lst (f.S.map eP)], I p] true roots b ss σ k = k (eSp (prodOf f p)) σ := (single_ok f hf hw p).rule
theorem prodR_r {f : Fam} (hf : FSz f) (hw : FWOk f) {p : Nat} : callT G f_makeweightref16_Product [.agg [.lst (f.acts.map .str), I f.P, .lst (f.S.map eP)], I p] true roots b ss σ k = k (eSp (prodOf f p)) σ := (prodR_ok f hf hw p).rule
end
open Classical in
theorem check_ok (f : Fam) (hf : FSz f) : FnT G f_family_Check [eF f] (I (if FamOk f then 0 else 160)) := by
  refine FnP.mk' g_family_Check rfl rfl ?_
  simp only [go_sem, ↓reduceIte, ↓guardT_tt, ↓guardT_tf, ↓guardT_ft, ↓guardT_ff, ↓condT_t, ↓condT_f, c_family_Check, eF, fam_r hf]
  by_cases h : FamOk f <;> simp only [go_sem, ↓reduceIte, ↓guardT_tt, ↓guardT_tf, ↓guardT_ft, ↓guardT_ff, ↓condT_t, ↓condT_f, h]
def noSp : Spc := ⟨[], []⟩
open Classical in
/-- a product as it is answered -/
noncomputable def prodA (f : Fam) (n : Int) : Spc × Int := if FamOk f then (if n < 0 ∨ f.P ≤ n then (noSp, 1) else (prodOf f n.toNat, 0)) else (noSp, 160)
theorem product_ok (f : Fam) (hf : FSz f) (n : Int) : Fn G f_family_Product [eF f, I n] (.tup [eSp (prodA f n).1, I (prodA f n).2]) := by
  refine FnP.mk' g_family_Product rfl rfl ?_
  simp only [go_sem, ↓reduceIte, ↓guardT_tt, ↓guardT_tf, ↓guardT_ft, ↓guardT_ff, ↓condT_t, ↓condT_f, c_family_Product, eF, fam_r hf, prodA]
  by_cases h : FamOk f
  · by_cases h1 : n < 0
    · simp only [go_sem, ↓reduceIte, ↓guardT_tt, ↓guardT_tf, ↓guardT_ft, ↓guardT_ff, ↓condT_t, ↓condT_f, h, h1, noSp, eSp]
    · by_cases h2 : f.P ≤ n
      · simp only [go_sem, ↓reduceIte, ↓guardT_tt, ↓guardT_tf, ↓guardT_ft, ↓guardT_ff, ↓condT_t, ↓condT_f, h, h1, h2, noSp, eSp]
      · obtain ⟨p, rfl⟩ : ∃ p : Nat, n = p := ⟨n.toNat, by omega⟩
        simp only [go_sem, ↓reduceIte, ↓guardT_tt, ↓guardT_tf, ↓guardT_ft, ↓guardT_ff, ↓condT_t, ↓condT_f, h, h1, h2, single_r hf h.w, eSp, Int.toNat_natCast]
  · simp only [go_sem, ↓reduceIte, ↓guardT_tt, ↓guardT_tf, ↓guardT_ft, ↓guardT_ff, ↓condT_t, ↓condT_f, h, noSp, eSp]
end Go.Mw

/- A copy of a family. -/
namespace Go.Mw
set_option linter.unusedVariables false
set_option linter.unusedSimpArgs false
set_option maxRecDepth 100000
def rowCh (l : List Ch) : AV := cellv .nils 2 (l.map eC)
def rowP (p : Plan) (j : Nat) : AV := .agg [cellv .nils 2 (p.A.map eC), cellv .nils 1 ((p.X.take j).map rowCh)]
theorem frz_eC (c : Ch) : frz (eC c) = eC c := rfl
theorem frz_mapC {l : List Ch} : (l.map eC).map frz = l.map eC := by rw [List.map_map]; rfl
theorem frz_rowCh (l : List Ch) : frz (rowCh l) = eCs l := by simp only [rowCh, eCs, go_sem, frz_mapC]
theorem frz_rowP (p : Plan) {j : Nat} (h : p.X.length ≤ j) : frz (rowP p j) = eP p := by
  simp only [rowP, eP, go_sem, frz_mapC, List.take_of_length_le h, List.map_map]
  have e1 : frz ∘ eC = eC := rfl
  have e2 : frz ∘ rowCh = eCs := funext frz_rowCh
  rw [e1, e2]
theorem headOk_C {l : List Ch} : headOk 2 (l.map eC) := by
  cases l <;> simp [headOk, eC, AV.cells]
theorem copy_ok (f : Fam) (hf : FSz f) : Fn G f_makeweightref16_Copy [eF f] (eF f) := by
  refine FnP.mk' g_makeweightref16_Copy rfl rfl ?_
  have ha := hf.a
  have hS := hf.s
  simp only [go_sem, ↓reduceIte, ↓guardT_tt, ↓guardT_tf, ↓guardT_ft, ↓guardT_ff, ↓condT_t, ↓condT_f, c_makeweightref16_Copy, eF]
  refine ⟨by omega, ?_⟩
  refine wp_loopQ (fun (i : Nat) σ => i ≤ f.S.length ∧ ∃ a0 c0 a2 c2 z a4 c4 a5 c5 a6 c6 a7 c7 a8 c8 a9 c9 a10 c10 a11 c11, σ = ⟨aT .undef 49 [(2, .ptr 1 1 [] 0 0 0), (3, .ptr 3 1 [] 0 0 0), (16, .lst (f.S.map eP)), (17, I f.S.length), (18, I i)],
      [⟨a0, c0, .own 3 [.agg [.lst (f.acts.map .str), I f.P, .lst (f.S.map eP)]]⟩, ⟨1, 0, .own 3 [.agg [.nils, I 0, .nils]]⟩, ⟨a2, c2, .gone⟩, ⟨1, z, .own 3 [.agg [cellv .nils 1 (f.acts.map .str), I f.P, cellv .nils 2 ((f.S.take i).map fun p => rowP p p.X.length)]]⟩, ⟨a4, c4, .gone⟩, ⟨a5, c5, .gone⟩, ⟨a6, c6, .gone⟩, ⟨a7, c7, .gone⟩, ⟨a8, c8, .gone⟩, ⟨a9, c9, .gone⟩, ⟨a10, c10, .gone⟩, ⟨a11, c11, .gone⟩], []⟩) (fun i => f.S.length - i) ?_ 0 ?_
  · rintro i σ ⟨hi, a0, c0, a2, c2, z, a4, c4, a5, c5, a6, c6, a7, c7, a8, c8, a9, c9, a10, c10, a11, c11, rfl⟩ N Q hQ hN
    by_cases hlt : i < f.S.length
    · obtain ⟨g1, g2, g3⟩ := hf.p i hlt
      simp only [go_sem, ↓reduceIte, ↓guardT_tt, ↓guardT_tf, ↓guardT_ft, ↓guardT_ff, ↓condT_t, ↓condT_f, eP, wrap_succ hlt (by omega), Int.ofNat_lt, hlt]
      generalize hx : f.S[i]! = x at *
      refine ⟨headOk_C, by omega, ?_⟩
      refine wp_loopQ (fun (j : Nat) σ => j ≤ x.X.length ∧ ∃ z5 d5 z6 a7 c7 a8 c8 a9 c9, σ = ⟨aT .undef 49 [(2, .ptr 1 1 [] 0 0 0), (3, .ptr 3 1 [] 0 0 0), (6, .ptr 6 (a6 + 1) [] 0 0 0), (16, .lst (f.S.map eP)), (17, I f.S.length), (18, I i), (27, .lst (x.X.map eCs)), (28, I x.X.length), (29, I j)],
        [⟨a0, c0, .own 3 [.agg [.lst (f.acts.map .str), I f.P, .lst (f.S.map eP)]]⟩, ⟨1, 0, .own 3 [.agg [.nils, I 0, .nils]]⟩, ⟨a2, c2, .gone⟩, ⟨1, z, .own 3 [.agg [cellv .nils 1 (f.acts.map .str), I f.P, cellv .nils 2 ((f.S.take i).map fun p => rowP p p.X.length)]]⟩, ⟨a4 + 1, 0, .own 2 [.agg [.lst (x.A.map eC), .lst (x.X.map eCs)]]⟩, ⟨z5, d5, .gone⟩, ⟨a6 + 1, z6, .own 2 [rowP x j]⟩, ⟨a7, c7, .gone⟩, ⟨a8, c8, .gone⟩, ⟨a9, c9, .gone⟩, ⟨a10, c10, .gone⟩, ⟨a11, c11, .gone⟩], []⟩) (fun j => x.X.length - j) ?_ 0 ?_
      · rintro j σ ⟨hj, z5, d5, z6, a7, c7, a8, c8, a9, c9, rfl⟩ N2 Q2 hQ2 hN2
        by_cases hlt2 : j < x.X.length
        · have hl := g3 j hlt2
          simp only [go_sem, ↓reduceIte, ↓guardT_tt, ↓guardT_tf, ↓guardT_ft, ↓guardT_ff, ↓condT_t, ↓condT_f, eCs, rowP, wrap_succ hlt2 (by omega), Int.ofNat_lt, hlt2]
          refine ⟨headOk_C, by omega, by rw [List.length_take]; omega, hN2 (j + 1) _ (by omega) ⟨by omega, ?_⟩⟩
          simp only [go_sem, ↓reduceIte, ↓guardT_tt, ↓guardT_tf, ↓guardT_ft, ↓guardT_ff, ↓condT_t, ↓condT_f, take_succ_map _ hlt2, rowP, rowCh]
          repeat apply Exists.intro
          rfl
        · have hjl : j = x.X.length := by omega
          subst hjl hQ2
          simp only [go_sem, ↓reduceIte, ↓guardT_tt, ↓guardT_tf, ↓guardT_ft, ↓guardT_ff, ↓condT_t, ↓condT_f, rowP, Int.ofNat_lt, hlt2, List.take_length, wrap_succ hlt (show f.S.length ≤ 1000000000 by omega)]
          refine ⟨by rw [List.length_take]; omega, hN (i + 1) _ (by omega) ⟨by omega, ?_⟩⟩
          simp only [go_sem, ↓reduceIte, ↓guardT_tt, ↓guardT_tf, ↓guardT_ft, ↓guardT_ff, ↓condT_t, ↓condT_f, take_succ_map _ hlt, hx, rowP, List.take_length]
          repeat apply Exists.intro
          rfl
      · refine ⟨by omega, ?_⟩
        simp only [go_sem, ↓reduceIte, ↓guardT_tt, ↓guardT_tf, ↓guardT_ft, ↓guardT_ff, ↓condT_t, ↓condT_f, List.take_zero, rowP]
        repeat apply Exists.intro
        rfl
    · have hil : i = f.S.length := by omega
      subst hil hQ
      simp only [go_sem, ↓reduceIte, ↓guardT_tt, ↓guardT_tf, ↓guardT_ft, ↓guardT_ff, ↓condT_t, ↓condT_f, Int.ofNat_lt, hlt, List.take_length]
      have e : (frz ∘ fun p : Plan => rowP p p.X.length) = eP := funext fun x => frz_rowP x (Nat.le_refl _)
      rw [List.map_map, e]
  · refine ⟨by omega, ?_⟩
    simp only [go_sem, ↓reduceIte, ↓guardT_tt, ↓guardT_tf, ↓guardT_ft, ↓guardT_ff, ↓condT_t, ↓condT_f, List.take_zero]
    repeat apply Exists.intro
    rfl
end Go.Mw

/- The check that a law's eyes are open. -/
namespace Go.Mw
set_option linter.unusedVariables false
set_option linter.unusedSimpArgs false
set_option maxRecDepth 100000
def isTrue : Option (List AV × St) → Bool
  | some ([.bool true], _) => true
  | _ => false
theorem isTrue_at {x : Option (List AV × St)} (h : isTrue x = true) : ∃ σ, x = some ([.bool true], σ) := by
  unfold isTrue at h
  split at h
  · rename_i σ; exact ⟨σ, rfl⟩
  · cases h
theorem awake_run : isTrue (runF G 400 F_makeweightlaw16_awake [] [] []) = true := by decide +kernel
theorem awake_ok : FnT G f_makeweightlaw16_awake [] (Bo true) := by
  obtain ⟨σ, h⟩ := isTrue_at awake_run
  exact ⟨F_makeweightlaw16_awake, 400, _, σ, g_makeweightlaw16_awake, rfl, rfl, rfl, rfl, h, rfl, rfl⟩
end Go.Mw

/- The law of products. -/
namespace Go.Mw
set_option linter.unusedVariables false
set_option linter.unusedSimpArgs false
set_option maxRecDepth 100000
section
variable {fr : Bool} {roots : List Nat} {b : Nat} {ss : List Nat} {σ : St} {k : AV → St → Prop}
theorem awake_r : callT G f_makeweightlaw16_awake [] fr roots b ss σ k = k (Bo true) σ := awake_ok.rule
theorem copy_r {f : Fam} (hf : FSz f) : callT G f_makeweightref16_Copy [.agg [.lst (f.acts.map .str), I f.P, .lst (f.S.map eP)]] true roots b ss σ k = k (eF f) σ := (copy_ok f hf).rule
open Classical in
theorem check_r {f : Fam} (hf : FSz f) : callT G f_family_Check [.agg [.lst (f.acts.map .str), I f.P, .lst (f.S.map eP)]] fr roots b ss σ k = k (I (if FamOk f then 0 else 160)) σ := (check_ok f hf).rule
theorem product_r {f : Fam} (hf : FSz f) {n : Int} : callT G f_family_Product [.agg [.lst (f.acts.map .str), I f.P, .lst (f.S.map eP)], I n] true roots b ss σ k = k (.tup [eSp (prodA f n).1, I (prodA f n).2]) σ := (product_ok f hf n).rule
theorem same_r {s : Spc} (hs : SpSz s) : callT G f_makeweightref03_Same [.agg [.lst (s.acts.map .str), .lst (s.S.map eSt)], .agg [.lst (s.acts.map .str), .lst (s.S.map eSt)]] fr roots b ss σ k = k (Bo true) σ := (same_ok s hs).rule
end
theorem prodOf_sz {f : Fam} (hf : FSz f) (p : Nat) : SpSz (prodOf f p) := by
  refine ⟨hf.a, by simp only [prodOf, List.length_map]; exact hf.s, fun i hi => ?_⟩
  simp only [prodOf, List.length_map] at hi
  obtain ⟨g1, g2, g3⟩ := hf.p i hi
  have e : (prodOf f p).S[i]! = sttOf f.S[i]! p := by
    rw [getElem!_pos (prodOf f p).S i (by simp only [prodOf, List.length_map]; exact hi), getElem!_pos f.S i hi]; simp only [prodOf, List.getElem_map]
  rw [e]
  simp only [sttOf, List.length_map]
  have := @chosenL_len f.S[i]!.A p
  exact ⟨by omega, g2⟩
theorem noSp_sz : SpSz noSp := ⟨by simp [noSp], by simp [noSp], fun i hi => by simp [noSp] at hi⟩
theorem same0_r {fr : Bool} {roots : List Nat} {b : Nat} {ss : List Nat} {σ : St} {k : AV → St → Prop} : callT G f_makeweightref03_Same [.agg [.lst [], .lst []], .agg [.lst [], .lst []]] fr roots b ss σ k = k (Bo true) σ := same_r noSp_sz
theorem bne_tf : (true != false) = true := (rfl)
theorem bne_ft : (false != true) = true := (rfl)
theorem familyProducts_ok (f : Fam) (hf : FSz f) (n : Int) : FnT G f_makeweightlaw16_FamilyProducts [eF f, I n] (Bo true) := by
  obtain ⟨v, hv⟩ := light_ex f hf
  have hlight : ∀ {fr : Bool} {roots : List Nat} {b : Nat} {ss : List Nat} {σ : St} {k : AV → St → Prop}, callT G f_makeweightlaw16_light [.agg [.lst (f.acts.map .str), I f.P, .lst (f.S.map eP)]] fr roots b ss σ k = k (Bo v) σ := hv.rule
  refine FnP.mk' g_makeweightlaw16_FamilyProducts rfl rfl ?_
  simp only [go_sem, ↓reduceIte, ↓guardT_tt, ↓guardT_tf, ↓guardT_ft, ↓guardT_ff, ↓condT_t, ↓condT_f, c_makeweightlaw16_FamilyProducts, eF, hlight, awake_r]
  cases v with
  | false => simp only [go_sem, ↓reduceIte, ↓guardT_tt, ↓guardT_tf, ↓guardT_ft, ↓guardT_ff, ↓condT_t, ↓condT_f]
  | true =>
    simp only [go_sem, ↓reduceIte, ↓guardT_tt, ↓guardT_tf, ↓guardT_ft, ↓guardT_ff, ↓condT_t, ↓condT_f, famR_r hf]
    by_cases h : FamOk f
    · by_cases h1 : n < 0
      · simp only [go_sem, ↓reduceIte, ↓guardT_tt, ↓guardT_tf, ↓guardT_ft, ↓guardT_ff, ↓condT_t, ↓condT_f, h, h1, copy_r hf, check_r hf, eF, product_r hf, prodA, noSp, eSp, same0_r, awake_r, bne_tf, bne_ft]
      · by_cases h2 : f.P ≤ n
        · simp only [go_sem, ↓reduceIte, ↓guardT_tt, ↓guardT_tf, ↓guardT_ft, ↓guardT_ff, ↓condT_t, ↓condT_f, h, h1, h2, copy_r hf, check_r hf, eF, product_r hf, prodA, noSp, eSp, same0_r, awake_r, bne_tf, bne_ft]
        · obtain ⟨p, rfl⟩ : ∃ p : Nat, n = p := ⟨n.toNat, by omega⟩
          simp only [go_sem, ↓reduceIte, ↓guardT_tt, ↓guardT_tf, ↓guardT_ft, ↓guardT_ff, ↓condT_t, ↓condT_f, h, h1, h2, copy_r hf, check_r hf, eF, product_r hf, prodA, prodR_r hf h.w, eSp, same_r (prodOf_sz hf p), awake_r, bne_tf, Int.toNat_natCast]
    · simp only [go_sem, ↓reduceIte, ↓guardT_tt, ↓guardT_tf, ↓guardT_ft, ↓guardT_ff, ↓condT_t, ↓condT_f, h, copy_r hf, check_r hf, eF, product_r hf, prodA, noSp, eSp, same0_r, awake_r, bne_tf, bne_ft]
end Go.Mw

/- Products that are kept: sets of new numbers. -/
namespace Go.Mw
set_option linter.unusedVariables false
set_option linter.unusedSimpArgs false
set_option maxRecDepth 100000
/-- the numbers below n of which something holds, as a set -/
def bitsN (p : Nat → Bool) : Nat → Nat
  | 0 => 0
  | j + 1 => if p j then bitsN p j ||| 2 ^ j else bitsN p j
theorem bitsN_succ {p : Nat → Bool} {j : Nat} : bitsN p (j + 1) = if p j then bitsN p j ||| 2 ^ j else bitsN p j := (rfl)
theorem bitsN_test {p : Nat → Bool} {n a : Nat} : (bitsN p n).testBit a = (decide (a < n) && p a) := by
  induction n with
  | zero => simp [bitsN]
  | succ n ih =>
    rw [bitsN_succ]
    split
    · rename_i h
      rw [Nat.testBit_or, ih, Nat.testBit_two_pow]
      by_cases e : n = a
      · subst e; simp [h]
      · have h1 : decide (a < n + 1) = decide (a < n) := by apply decide_eq_decide.2; omega
        simp [e, h1]
    · rename_i h
      rw [ih]
      by_cases e : n = a
      · subst e; simp [h]
      · have h1 : decide (a < n + 1) = decide (a < n) := by apply decide_eq_decide.2; omega
        rw [h1]
theorem bitsN_lt {p : Nat → Bool} {n : Nat} : bitsN p n < 2 ^ n := by
  apply Nat.lt_pow_two_of_testBit
  intro i hi
  rw [bitsN_test]; simp; omega
theorem bitsN_63 {p : Nat → Bool} {n : Nat} (hn : n ≤ 32) : bitsN p n < 2 ^ 63 := Nat.lt_of_lt_of_le bitsN_lt (Nat.pow_le_pow_right (by omega) (by omega))
theorem bitsN_bor {p : Nat → Bool} {n : Nat} (hn : n ≤ 32) : bor .i64 (bitsN p n : Int) ((2 ^ n : Nat) : Int) = ((bitsN p n ||| 2 ^ n : Nat) : Int) := bor_nat (bitsN_63 hn) (Nat.pow_lt_pow_right (by omega) (by omega))
/-- of a set of products: those that are kept, by their new numbers -/
def pickN (w : Nat) (ks : List Nat) : Nat := bitsN (fun m => w.testBit ks[m]!) ks.length
/-- of choices: those that are there for a product that is kept -/
def someL (l : List Ch) (ks : List Nat) : List Ch := (l.map fun c => ⟨c.N, (pickN c.W.toNat ks : Nat)⟩ : List Ch).filter fun c => decide (0 < c.W)
theorem someL_succ {l : List Ch} {ks : List Nat} {i : Nat} (h : i < l.length) : someL (l.take (i + 1)) ks = if 0 < pickN l[i]!.W.toNat ks then someL (l.take i) ks ++ [⟨l[i]!.N, (pickN l[i]!.W.toNat ks : Nat)⟩] else someL (l.take i) ks := by
  unfold someL
  rw [List.take_succ_eq_append_getElem h, List.map_append, List.filter_append, getElem!_pos l i h]
  by_cases hb : 0 < pickN l[i].W.toNat ks <;> simp [hb]
theorem someL_len {l : List Ch} {ks : List Nat} : (someL l ks).length ≤ l.length := by
  unfold someL; exact Nat.le_trans (List.length_filter_le _ _) (by simp)
theorem some_ok (l : List Ch) (hl : l.length ≤ 1048576) (hw : WOk l) (ks : List Nat) (hk : ks.length ≤ 32) : Fn G f_makeweightref16_some [.lst (l.map eC), .lst (ks.map nI)] (.lst ((someL l ks).map eC)) := by
  refine FnP.mk' g_makeweightref16_some rfl rfl ?_
  simp only [go_sem, ↓reduceIte, ↓guardT_tt, ↓guardT_tf, ↓guardT_ft, ↓guardT_ff, ↓condT_t, ↓condT_f, c_makeweightref16_some]
  refine wp_loopQ (fun (i : Nat) σ => i ≤ l.length ∧ ∃ a0 c0 a1 c1 st ss, σ = ⟨aT .undef 44 [(1, .lst (ks.map nI)), (5, rowv .nils 2 2 st ((someL (l.take i) ks).map eC)), (11, .lst (l.map eC)), (12, I l.length), (13, I i)], [⟨a0, c0, .gone⟩, ⟨a1, c1, .gone⟩, ⟨st, ss, rowo 2 ((someL (l.take i) ks).map eC)⟩], []⟩) (fun i => l.length - i) ?_ 0 ?_
  · rintro i σ ⟨hi, a0, c0, a1, c1, st, ss, rfl⟩ N Q hQ hN
    by_cases hlt : i < l.length
    · obtain ⟨w, hw1, hw2⟩ := hw i hlt
      have hsm := @someL_len (l.take i) ks
      rw [List.length_take] at hsm
      simp only [go_sem, ↓reduceIte, ↓guardT_tt, ↓guardT_tf, ↓guardT_ft, ↓guardT_ff, ↓condT_t, ↓condT_f, eC, wrap_succ hlt (by omega), Int.ofNat_lt, hlt, hw1]
      refine wp_loopQ (fun (j : Nat) σ => j ≤ ks.length ∧ σ = ⟨aT .undef 44 [(1, .lst (ks.map nI)), (5, rowv .nils 2 2 st ((someL (l.take i) ks).map eC)), (7, .ptr 0 (a0 + 1) [] 0 0 0), (8, I (bitsN (fun m => w.testBit ks[m]!) j : Nat)), (11, .lst (l.map eC)), (12, I l.length), (13, I i), (17, .lst (ks.map nI)), (18, I ks.length), (19, I j)],
        [⟨a0 + 1, 0, .own 2 [.agg [I l[i]!.N, I w]]⟩, ⟨a1, c1, .gone⟩, ⟨st, ss, rowo 2 ((someL (l.take i) ks).map eC)⟩], []⟩) (fun j => ks.length - j) ?_ 0 ?_
      · rintro j σ ⟨hj, rfl⟩ N2 Q2 hQ2 hN2
        by_cases hlt2 : j < ks.length
        · simp only [go_sem, ↓reduceIte, ↓guardT_tt, ↓guardT_tf, ↓guardT_ft, ↓guardT_ff, ↓condT_t, ↓condT_f, wrap_succ hlt2 (by omega), Int.ofNat_lt, hlt2, nI, hasR_r (show w < 2 ^ 63 by omega), bshl_one (show j ≤ 62 by omega), bitsN_bor (show j ≤ 32 by omega)]
          refine ⟨fun hb => hN2 (j + 1) _ (by omega) ⟨by omega, ?_⟩, fun hb => hN2 (j + 1) _ (by omega) ⟨by omega, ?_⟩⟩
          · simp only [go_sem, ↓reduceIte, ↓guardT_tt, ↓guardT_tf, ↓guardT_ft, ↓guardT_ff, ↓condT_t, ↓condT_f, bitsN_succ, hb]
          · simp only [go_sem, ↓reduceIte, ↓guardT_tt, ↓guardT_tf, ↓guardT_ft, ↓guardT_ff, ↓condT_t, ↓condT_f, bitsN_succ, hb]
        · have hjl : j = ks.length := by omega
          subst hjl hQ2
          simp only [go_sem, ↓reduceIte, ↓guardT_tt, ↓guardT_tf, ↓guardT_ft, ↓guardT_ff, ↓condT_t, ↓condT_f, Int.ofNat_lt, hlt2, wrap_succ hlt (show l.length ≤ 1000000000 by omega)]
          refine ⟨fun hb => ⟨by omega, hN (i + 1) _ (by omega) ⟨by omega, ?_⟩⟩, fun hb => hN (i + 1) _ (by omega) ⟨by omega, ?_⟩⟩
          · have e : someL (l.take (i + 1)) ks = someL (l.take i) ks ++ [⟨l[i]!.N, (bitsN (fun m => w.testBit ks[m]!) ks.length : Nat)⟩] := by
              rw [someL_succ hlt, hw1, Int.toNat_natCast, if_pos (show 0 < pickN w ks by unfold pickN; omega)]; rfl
            simp only [go_sem, ↓reduceIte, ↓guardT_tt, ↓guardT_tf, ↓guardT_ft, ↓guardT_ff, ↓condT_t, ↓condT_f, e, List.map_append, eC]
            repeat apply Exists.intro
            rfl
          · have e : someL (l.take (i + 1)) ks = someL (l.take i) ks := by
              rw [someL_succ hlt, hw1, Int.toNat_natCast, if_neg (show ¬ 0 < pickN w ks by unfold pickN; omega)]
            simp only [go_sem, ↓reduceIte, ↓guardT_tt, ↓guardT_tf, ↓guardT_ft, ↓guardT_ff, ↓condT_t, ↓condT_f, e]
            repeat apply Exists.intro
            rfl
      · refine ⟨by omega, ?_⟩
        simp only [go_sem, ↓reduceIte, ↓guardT_tt, ↓guardT_tf, ↓guardT_ft, ↓guardT_ff, ↓condT_t, ↓condT_f, bitsN]
    · have hil : i = l.length := by omega
      subst hil hQ
      simp only [go_sem, ↓reduceIte, ↓guardT_tt, ↓guardT_tf, ↓guardT_ft, ↓guardT_ff, ↓condT_t, ↓condT_f, Int.ofNat_lt, hlt, List.take_length, frz_mapC]
  · refine ⟨by omega, 0, 0, 0, 0, 0, 0, ?_⟩
    simp only [go_sem, ↓reduceIte, ↓guardT_tt, ↓guardT_tf, ↓guardT_ft, ↓guardT_ff, ↓condT_t, ↓condT_f, someL, List.take_zero, List.map_nil, List.filter_nil]
theorem some_r {l : List Ch} (hl : l.length ≤ 1048576) (hw : WOk l) {ks : List Nat} (hk : ks.length ≤ 32) {roots : List Nat} {b : Nat} {ss : List Nat} {σ : St} {k : AV → St → Prop} :
    callT G f_makeweightref16_some [.lst (l.map eC), .lst (ks.map nI)] true roots b ss σ k = k (.lst ((someL l ks).map eC)) σ := (some_ok l hl hw ks hk).rule
end Go.Mw

/- A family that is restricted to some products: reference. -/
namespace Go.Mw
set_option linter.unusedVariables false
set_option linter.unusedSimpArgs false
set_option maxRecDepth 100000
def restrictP (p : Plan) (ks : List Nat) : Plan := ⟨someL p.A ks, p.X.map fun l => someL l ks⟩
def restrictOf (f : Fam) (ks : List Nat) : Fam := ⟨f.acts, ks.length, f.S.map fun p => restrictP p ks⟩
def rowR (p : Plan) (ks : List Nat) (j : Nat) : AV := .agg [.lst ((someL p.A ks).map eC), cellv .nils 1 ((p.X.take j).map fun l => eCs (someL l ks))]
theorem frz_eCs (l : List Ch) : frz (eCs l) = eCs l := by simp only [eCs, go_sem]
theorem frz_rowR (p : Plan) (ks : List Nat) : frz (rowR p ks p.X.length) = eP (restrictP p ks) := by
  simp only [rowR, eP, restrictP, go_sem, List.take_length, List.map_map]
  have e2 : (frz ∘ fun l => eCs (someL l ks)) = (eCs ∘ fun l => someL l ks) := funext fun l => frz_eCs _
  rw [e2]
theorem restrictR_ok (f : Fam) (hf : FSz f) (hw : FWOk f) (ks : List Nat) (hk : ks.length ≤ 32) : Fn G f_makeweightref16_Restrict [eF f, .lst (ks.map nI)] (eF (restrictOf f ks)) := by
  refine FnP.mk' g_makeweightref16_Restrict rfl rfl ?_
  have ha := hf.a
  have hS := hf.s
  simp only [go_sem, ↓reduceIte, ↓guardT_tt, ↓guardT_tf, ↓guardT_ft, ↓guardT_ff, ↓condT_t, ↓condT_f, c_makeweightref16_Restrict, eF]
  refine ⟨by omega, ?_⟩
  refine wp_loopQ (fun (i : Nat) σ => i ≤ f.S.length ∧ ∃ a0 c0 a2 c2 z a4 c4 a5 c5 a6 c6 a7 c7 a8 c8 a9 c9, σ = ⟨aT .undef 53 [(1, .lst (ks.map nI)), (4, .ptr 1 1 [] 0 0 0), (5, .ptr 3 1 [] 0 0 0), (18, .lst (f.S.map eP)), (19, I f.S.length), (20, I i)],
      [⟨a0, c0, .own 3 [.agg [.lst (f.acts.map .str), I f.P, .lst (f.S.map eP)]]⟩, ⟨1, 0, .own 3 [.agg [.nils, I 0, .nils]]⟩, ⟨a2, c2, .gone⟩, ⟨1, z, .own 3 [.agg [cellv .nils 1 (f.acts.map .str), I ks.length, cellv .nils 2 ((f.S.take i).map fun p => rowR p ks p.X.length)]]⟩, ⟨a4, c4, .gone⟩, ⟨a5, c5, .gone⟩, ⟨a6, c6, .gone⟩, ⟨a7, c7, .gone⟩, ⟨a8, c8, .gone⟩, ⟨a9, c9, .gone⟩], []⟩) (fun i => f.S.length - i) ?_ 0 ?_
  · rintro i σ ⟨hi, a0, c0, a2, c2, z, a4, c4, a5, c5, a6, c6, a7, c7, a8, c8, a9, c9, rfl⟩ N Q hQ hN
    by_cases hlt : i < f.S.length
    · obtain ⟨g1, g2, g3⟩ := hf.p i hlt
      simp only [go_sem, ↓reduceIte, ↓guardT_tt, ↓guardT_tf, ↓guardT_ft, ↓guardT_ff, ↓condT_t, ↓condT_f, eP, wrap_succ hlt (by omega), Int.ofNat_lt, hlt, some_r g1 (hw.a i hlt) hk]
      generalize hx : f.S[i]! = x at *
      have hwx : ∀ j < x.X.length, WOk x.X[j]! := fun j hj => by have := hw.x i hlt j (by rw [hx]; exact hj); rw [hx] at this; exact this
      refine wp_loopQ (fun (j : Nat) σ => j ≤ x.X.length ∧ ∃ z5 a6 c6 a7 c7, σ = ⟨aT .undef 53 [(1, .lst (ks.map nI)), (4, .ptr 1 1 [] 0 0 0), (5, .ptr 3 1 [] 0 0 0), (8, .ptr 5 (a5 + 1) [] 0 0 0), (18, .lst (f.S.map eP)), (19, I f.S.length), (20, I i), (30, .lst (x.X.map eCs)), (31, I x.X.length), (32, I j)],
        [⟨a0, c0, .own 3 [.agg [.lst (f.acts.map .str), I f.P, .lst (f.S.map eP)]]⟩, ⟨1, 0, .own 3 [.agg [.nils, I 0, .nils]]⟩, ⟨a2, c2, .gone⟩, ⟨1, z, .own 3 [.agg [cellv .nils 1 (f.acts.map .str), I ks.length, cellv .nils 2 ((f.S.take i).map fun p => rowR p ks p.X.length)]]⟩, ⟨a4 + 1, 0, .own 2 [.agg [.lst (x.A.map eC), .lst (x.X.map eCs)]]⟩, ⟨a5 + 1, z5, .own 2 [rowR x ks j]⟩, ⟨a6, c6, .gone⟩, ⟨a7, c7, .gone⟩, ⟨a8, c8, .gone⟩, ⟨a9, c9, .gone⟩], []⟩) (fun j => x.X.length - j) ?_ 0 ?_
      · rintro j σ ⟨hj, z5, a6, c6, a7, c7, rfl⟩ N2 Q2 hQ2 hN2
        by_cases hlt2 : j < x.X.length
        · have hl := g3 j hlt2
          simp only [go_sem, ↓reduceIte, ↓guardT_tt, ↓guardT_tf, ↓guardT_ft, ↓guardT_ff, ↓condT_t, ↓condT_f, eCs, rowR, wrap_succ hlt2 (by omega), Int.ofNat_lt, hlt2, some_r hl (hwx j hlt2) hk]
          refine ⟨by rw [List.length_take]; omega, hN2 (j + 1) _ (by omega) ⟨by omega, ?_⟩⟩
          simp only [go_sem, ↓reduceIte, ↓guardT_tt, ↓guardT_tf, ↓guardT_ft, ↓guardT_ff, ↓condT_t, ↓condT_f, take_succ_map _ hlt2, rowR, eCs]
          repeat apply Exists.intro
          rfl
        · have hjl : j = x.X.length := by omega
          subst hjl hQ2
          simp only [go_sem, ↓reduceIte, ↓guardT_tt, ↓guardT_tf, ↓guardT_ft, ↓guardT_ff, ↓condT_t, ↓condT_f, rowR, Int.ofNat_lt, hlt2, List.take_length, wrap_succ hlt (show f.S.length ≤ 1000000000 by omega)]
          refine ⟨by rw [List.length_take]; omega, hN (i + 1) _ (by omega) ⟨by omega, ?_⟩⟩
          simp only [go_sem, ↓reduceIte, ↓guardT_tt, ↓guardT_tf, ↓guardT_ft, ↓guardT_ff, ↓condT_t, ↓condT_f, take_succ_map _ hlt, hx, rowR, List.take_length]
          repeat apply Exists.intro
          rfl
      · refine ⟨by omega, ?_⟩
        simp only [go_sem, ↓reduceIte, ↓guardT_tt, ↓guardT_tf, ↓guardT_ft, ↓guardT_ff, ↓condT_t, ↓condT_f, List.take_zero, rowR]
        repeat apply Exists.intro
        rfl
    · have hil : i = f.S.length := by omega
      subst hil hQ
      simp only [go_sem, ↓reduceIte, ↓guardT_tt, ↓guardT_tf, ↓guardT_ft, ↓guardT_ff, ↓condT_t, ↓condT_f, Int.ofNat_lt, hlt, List.take_length]
      have e : (frz ∘ fun p : Plan => rowR p ks p.X.length) = (eP ∘ fun p => restrictP p ks) := funext fun x => frz_rowR x ks
      simp only [restrictOf, List.map_map, e]
  · refine ⟨by omega, ?_⟩
    simp only [go_sem, ↓reduceIte, ↓guardT_tt, ↓guardT_tf, ↓guardT_ft, ↓guardT_ff, ↓condT_t, ↓condT_f, List.take_zero]
    repeat apply Exists.intro
    rfl
end Go.Mw
