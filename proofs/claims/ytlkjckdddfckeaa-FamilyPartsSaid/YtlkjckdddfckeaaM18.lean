/- A family that is restricted to some products. -/
import Derived.Test.YtlkjckdddfckeaaM17
namespace Go.Mw
set_option linter.unusedVariables false
set_option linter.unusedSimpArgs false
set_option maxRecDepth 100000
theorem with_ok (p : Nat → Bool) (n : Nat) (hn : n ≤ 32) : FnT G f__family_products__with [I (bitsN p n : Nat), I n] (I ((bitsN p n ||| 2 ^ n : Nat) : Int)) := by
  refine FnP.mk' g__family_products__with rfl rfl ?_
  simp only [go_sem, ↓reduceIte, ↓guardT_tt, ↓guardT_tf, ↓guardT_ft, ↓guardT_ff, ↓condT_t, ↓condT_f, c__family_products__with, bshl_one (show n ≤ 62 by omega), bitsN_bor hn]
theorem with_r {p : Nat → Bool} {n : Nat} (hn : n ≤ 32) {fr : Bool} {roots : List Nat} {b : Nat} {ss : List Nat} {σ : St} {k : AV → St → Prop} :
    callT G f__family_products__with [I (bitsN p n : Nat), I n] fr roots b ss σ k = k (I ((bitsN p n ||| 2 ^ n : Nat) : Int)) σ := (with_ok p n hn).rule
theorem which_ok (n : Nat) (hn : n ≤ 32) (f : FuncId) (cs : List AV) (p : Nat → Bool) (hp : PureF G f) (ht : ∀ h, treeBL 0 h cs = cs) (hok : ∀ a < n, FnT G f (I a :: cs) (Bo (p a))) :
    FnT G f_family_which [I n, .fn f cs] (I (bitsN p n : Nat)) := by
  refine FnP.mk' g_family_which rfl rfl ?_
  simp only [go_sem, ↓reduceIte, ↓guardT_tt, ↓guardT_tf, ↓guardT_ft, ↓guardT_ff, ↓condT_t, ↓condT_f, c_family_which]
  refine wp_loopQ (fun (i : Nat) σ => i ≤ n ∧ σ = ⟨aT .undef 19 [(1, .fn f cs), (5, I (bitsN p i : Nat)), (7, I n), (8, I i)], [], []⟩) (fun i => n - i) ?_ 0 ?_
  · rintro i σ ⟨hi, rfl⟩ N Q hQ hN
    by_cases hlt : i < n
    · have hcall : ∀ {fr : Bool} {roots : List Nat} {b : Nat} {ss : List Nat} {σ : St} {k : AV → St → Prop}, callT G f (I i :: cs) fr roots b ss σ k = k (Bo (p i)) σ := (hok i hlt).rule
      simp only [go_sem, ↓reduceIte, ↓guardT_tt, ↓guardT_tf, ↓guardT_ft, ↓guardT_ff, ↓condT_t, ↓condT_f, wrap_succ hlt (by omega), Int.ofNat_lt, hlt, hp, ht, hcall, with_r (show i ≤ 32 by omega)]
      refine ⟨fun h => hN (i + 1) _ (by omega) ⟨by omega, ?_⟩, fun h => hN (i + 1) _ (by omega) ⟨by omega, ?_⟩⟩
      · simp only [go_sem, ↓reduceIte, ↓guardT_tt, ↓guardT_tf, ↓guardT_ft, ↓guardT_ff, ↓condT_t, ↓condT_f, bitsN_succ, h]
      · simp only [go_sem, ↓reduceIte, ↓guardT_tt, ↓guardT_tf, ↓guardT_ft, ↓guardT_ff, ↓condT_t, ↓condT_f, bitsN_succ, h]
    · have hil : i = n := by omega
      subst hil hQ
      simp only [go_sem, ↓reduceIte, ↓guardT_tt, ↓guardT_tf, ↓guardT_ft, ↓guardT_ff, ↓condT_t, ↓condT_f, Int.ofNat_lt, hlt]
  · exact ⟨by omega, by simp only [go_sem, ↓reduceIte, ↓guardT_tt, ↓guardT_tf, ↓guardT_ft, ↓guardT_ff, ↓condT_t, ↓condT_f, bitsN]⟩
theorem keep_ok (N : Int) (w : Nat) (hw : w < 2 ^ 62) (ks : List Nat) (a : Nat) (ha : a < ks.length) (hk : ks.length ≤ 32) : FnT G f_family_Restrict_2_1 [I a, .pfro [I N, I w], .pfro [.lst (ks.map nI)]] (Bo (w.testBit ks[a]!)) := by
  refine FnP.mk' g_family_Restrict_2_1 rfl rfl ?_
  simp only [go_sem, ↓reduceIte, ↓guardT_tt, ↓guardT_tf, ↓guardT_ft, ↓guardT_ff, ↓condT_t, ↓condT_f, c_family_Restrict_2_1, has_r (show w < 2 ^ 63 by omega), nI]
  exact ha
theorem part_ok (l : List Ch) (hl : l.length ≤ 1048576) (hw : WOk l) (ks : List Nat) (hk : ks.length ≤ 32) : Fn G f_family_Restrict_2 [.lst (l.map eC), .pfro [.lst (ks.map nI)]] (.lst ((someL l ks).map eC)) := by
  refine FnP.mk' g_family_Restrict_2 rfl rfl ?_
  simp only [go_sem, ↓reduceIte, ↓guardT_tt, ↓guardT_tf, ↓guardT_ft, ↓guardT_ff, ↓condT_t, ↓condT_f, c_family_Restrict_2]
  refine wp_loopQ (fun (i : Nat) σ => i ≤ l.length ∧ ∃ a0 c0 a1 c1 st ss, σ = ⟨aT .undef 29 [(1, .pfro [.lst (ks.map nI)]), (4, rowv .nils 2 2 st ((someL (l.take i) ks).map eC)), (8, .lst (l.map eC)), (9, I l.length), (10, I i)], [⟨a0, c0, .gone⟩, ⟨a1, c1, .gone⟩, ⟨st, ss, rowo 2 ((someL (l.take i) ks).map eC)⟩], []⟩) (fun i => l.length - i) ?_ 0 ?_
  · rintro i σ ⟨hi, a0, c0, a1, c1, st, ss, rfl⟩ N Q hQ hN
    by_cases hlt : i < l.length
    · obtain ⟨w, hw1, hw2⟩ := hw i hlt
      have hsm := @someL_len (l.take i) ks
      rw [List.length_take] at hsm
      have hwh := which_ok ks.length hk f_family_Restrict_2_1 [.pfro [I l[i]!.N, I w], .pfro [.lst (ks.map nI)]] (fun m => w.testBit ks[m]!) pure_family_Restrict_2_1 (fun h => rfl) (fun a ha => keep_ok _ w hw2 ks a ha hk)
      have hcall : ∀ {fr : Bool} {roots : List Nat} {b : Nat} {ss : List Nat} {σ : St} {k : AV → St → Prop}, callT G f_family_which [I ks.length, .fn f_family_Restrict_2_1 [.pfro [I l[i]!.N, I w], .pfro [.lst (ks.map nI)]]] fr roots b ss σ k = k (I (bitsN (fun m => w.testBit ks[m]!) ks.length : Nat)) σ := hwh.rule
      simp only [go_sem, ↓reduceIte, ↓guardT_tt, ↓guardT_tf, ↓guardT_ft, ↓guardT_ff, ↓condT_t, ↓condT_f, eC, wrap_succ hlt (by omega), Int.ofNat_lt, hlt, hw1, hcall]
      refine ⟨fun hb => ⟨by omega, hN (i + 1) _ (by omega) ⟨by omega, ?_⟩⟩, fun hb => hN (i + 1) _ (by omega) ⟨by omega, ?_⟩⟩
      · have hb' : ¬ ((bitsN (fun m => w.testBit ks[m]!) ks.length : Nat) : Int) = 0 := by simpa using hb
        have e : someL (l.take (i + 1)) ks = someL (l.take i) ks ++ [⟨l[i]!.N, (bitsN (fun m => w.testBit ks[m]!) ks.length : Nat)⟩] := by
          rw [someL_succ hlt, hw1, Int.toNat_natCast, if_pos (show 0 < pickN w ks by unfold pickN; omega)]; rfl
        simp only [go_sem, ↓reduceIte, ↓guardT_tt, ↓guardT_tf, ↓guardT_ft, ↓guardT_ff, ↓condT_t, ↓condT_f, e, List.map_append, eC]
        repeat apply Exists.intro
        rfl
      · have hb' : ((bitsN (fun m => w.testBit ks[m]!) ks.length : Nat) : Int) = 0 := by simpa using hb
        have e : someL (l.take (i + 1)) ks = someL (l.take i) ks := by
          rw [someL_succ hlt, hw1, Int.toNat_natCast, if_neg (show ¬ 0 < pickN w ks by unfold pickN; omega)]
        simp only [go_sem, ↓reduceIte, ↓guardT_tt, ↓guardT_tf, ↓guardT_ft, ↓guardT_ff, ↓condT_t, ↓condT_f, e]
        repeat apply Exists.intro
        rfl
    · have hil : i = l.length := by omega
      subst hil hQ
      simp only [go_sem, ↓reduceIte, ↓guardT_tt, ↓guardT_tf, ↓guardT_ft, ↓guardT_ff, ↓condT_t, ↓condT_f, Int.ofNat_lt, hlt, List.take_length, frz_mapC]
  · refine ⟨by omega, 0, 0, 0, 0, 0, 0, ?_⟩
    simp only [go_sem, ↓reduceIte, ↓guardT_tt, ↓guardT_tf, ↓guardT_ft, ↓guardT_ff, ↓condT_t, ↓condT_f, someL, List.take_zero, List.map_nil, List.filter_nil]
theorem part_r {l : List Ch} (hl : l.length ≤ 1048576) (hw : WOk l) {ks : List Nat} (hk : ks.length ≤ 32) {roots : List Nat} {b : Nat} {ss : List Nat} {σ : St} {k : AV → St → Prop} :
    callT G f_family_Restrict_2 [.lst (l.map eC), .pfro [.lst (ks.map nI)]] true roots b ss σ k = k (.lst ((someL l ks).map eC)) σ := (part_ok l hl hw ks hk).rule
/-! #### is one of them not a product? -/
def idxI (l : List Int) (q : Int → Bool) : Int := match l.findIdx? q with | some i => i | none => -1
theorem idxI_any {l : List Int} {q : Int → Bool} : decide (0 ≤ idxI l q) = l.any q := by
  unfold idxI
  cases h : l.findIdx? q with
  | none =>
    rw [List.findIdx?_eq_none_iff] at h
    simp only [show ¬ (0 : Int) ≤ -1 by omega, decide_false]
    exact (by rw [List.any_eq_false]; simpa using h : l.any q = false).symm
  | some i =>
    rw [List.findIdx?_eq_some_iff_getElem] at h
    obtain ⟨hi, h1, _⟩ := h
    simp only [show (0 : Int) ≤ (i : Int) by omega, decide_true]
    exact (List.any_eq_true.2 ⟨_, List.getElem_mem hi, h1⟩).symm
theorem indexI_ok (l : List Int) (hl : l.length ≤ 1048576) (f : FuncId) (cs : List AV) (q : Int → Bool) (hp : PureF G f) (ht : ∀ h, treeBL 0 h cs = cs) (hok : ∀ n, FnT G f (I n :: cs) (Bo (q n))) :
    FnT G f_slices_IndexFunc___int_int_ [.lst (l.map I), .fn f cs] (I (idxI l q)) := by
  have hcall : ∀ {n : Int} {fr : Bool} {roots : List Nat} {b : Nat} {ss : List Nat} {σ : St} {k : AV → St → Prop}, callT G f (I n :: cs) fr roots b ss σ k = k (Bo (q n)) σ := fun {n} => (hok n).rule
  refine FnP.mk' g_slices_IndexFunc___int_int_ rfl rfl ?_
  simp only [go_sem, ↓reduceIte, ↓guardT_tt, ↓guardT_tf, ↓guardT_ft, ↓guardT_ff, ↓condT_t, ↓condT_f, c_slices_IndexFunc___int_int_]
  refine wp_loopQ (fun (i : Nat) σ => i ≤ l.length ∧ (∀ j < i, q l[j]! = false) ∧ σ = ⟨aT .undef 19 [(0, .lst (l.map I)), (1, .fn f cs), (7, I l.length), (8, I i)], [], []⟩) (fun i => l.length - i) ?_ 0 ?_
  · rintro i σ ⟨hi, hall, rfl⟩ N Q hQ hN
    by_cases hlt : i < l.length
    · simp only [go_sem, ↓reduceIte, ↓guardT_tt, ↓guardT_tf, ↓guardT_ft, ↓guardT_ff, ↓condT_t, ↓condT_f, wrap_succ hlt (by omega), Int.ofNat_lt, hlt, hp, ht, hcall]
      refine ⟨fun h => ?_, fun h => hN (i + 1) _ (by omega) ⟨by omega, forall_lt_succ hall h, ?_⟩⟩
      · subst hQ; simp only [go_sem, ↓reduceIte, ↓guardT_tt, ↓guardT_tf, ↓guardT_ft, ↓guardT_ff, ↓condT_t, ↓condT_f]
        have e : l.findIdx? q = some i := by
          rw [List.findIdx?_eq_some_iff_getElem]
          refine ⟨hlt, by rw [← getElem!_pos l i hlt]; exact h, fun j hj => ?_⟩
          have := hall j hj
          rw [getElem!_pos l j (by omega)] at this
          simp [this]
        unfold idxI; rw [e]
      · simp only [go_sem, ↓reduceIte, ↓guardT_tt, ↓guardT_tf, ↓guardT_ft, ↓guardT_ff, ↓condT_t, ↓condT_f]
    · have hil : i = l.length := by omega
      subst hil hQ
      simp only [go_sem, ↓reduceIte, ↓guardT_tt, ↓guardT_tf, ↓guardT_ft, ↓guardT_ff, ↓condT_t, ↓condT_f, Int.ofNat_lt, hlt]
      have e : l.findIdx? q = none := by
        rw [List.findIdx?_eq_none_iff]
        intro x hx
        obtain ⟨j, hj, rfl⟩ := List.mem_iff_getElem.1 hx
        have := hall j hj
        rw [getElem!_pos l j hj] at this
        exact this
      unfold idxI; rw [e]
  · exact ⟨by omega, by simp, by simp only [go_sem, ↓reduceIte, ↓guardT_tt, ↓guardT_tf, ↓guardT_ft, ↓guardT_ff, ↓condT_t, ↓condT_f]⟩
theorem containsI_ok (l : List Int) (hl : l.length ≤ 1048576) (f : FuncId) (cs : List AV) (q : Int → Bool) (hp : PureF G f) (ht : ∀ h, treeBL 0 h cs = cs) (hok : ∀ n, FnT G f (I n :: cs) (Bo (q n))) :
    FnT G f_slices_ContainsFunc___int_int_ [.lst (l.map I), .fn f cs] (Bo (l.any q)) := by
  have hcall : ∀ {fr : Bool} {roots : List Nat} {b : Nat} {ss : List Nat} {σ : St} {k : AV → St → Prop}, callT G f_slices_IndexFunc___int_int_ [.lst (l.map I), .fn f cs] fr roots b ss σ k = k (I (idxI l q)) σ := (indexI_ok l hl f cs q hp ht hok).rule
  refine FnP.mk' g_slices_ContainsFunc___int_int_ rfl rfl ?_
  simp only [go_sem, ↓reduceIte, ↓guardT_tt, ↓guardT_tf, ↓guardT_ft, ↓guardT_ff, ↓condT_t, ↓condT_f, c_slices_ContainsFunc___int_int_, hcall, ht, idxI_any]
theorem out_ok (f : Fam) (n : Int) : FnT G f_family_Restrict_1 [I n, .pfro [.lst (f.acts.map .str), I f.P, .lst (f.S.map eP)]] (Bo (decide (n < 0 ∨ f.P ≤ n))) := by
  refine FnP.mk' g_family_Restrict_1 rfl rfl ?_
  simp only [go_sem, ↓reduceIte, ↓guardT_tt, ↓guardT_tf, ↓guardT_ft, ↓guardT_ff, ↓condT_t, ↓condT_f, c_family_Restrict_1]
  by_cases h : n < 0
  · simp only [go_sem, ↓reduceIte, ↓guardT_tt, ↓guardT_tf, ↓guardT_ft, ↓guardT_ff, ↓condT_t, ↓condT_f, h]
  · simp only [go_sem, ↓reduceIte, ↓guardT_tt, ↓guardT_tf, ↓guardT_ft, ↓guardT_ff, ↓condT_t, ↓condT_f, h]
end Go.Mw

/- family.Restrict. -/
namespace Go.Mw
set_option linter.unusedVariables false
set_option linter.unusedSimpArgs false
set_option maxRecDepth 100000
def outOf (f : Fam) (ks : List Int) : Bool := ks.any fun n => decide (n < 0 ∨ f.P ≤ n)
def noFam : Fam := ⟨[], 0, []⟩
section
variable {fr : Bool} {roots : List Nat} {b : Nat} {ss : List Nat} {σ : St} {k : AV → St → Prop}
theorem out_r {f : Fam} {ks : List Int} (hk : ks.length ≤ 1048576) : callT G f_slices_ContainsFunc___int_int_ [.lst (ks.map I), .fn f_family_Restrict_1 [.pfro [.lst (f.acts.map .str), I f.P, .lst (f.S.map eP)]]] fr roots b ss σ k = k (Bo (outOf f ks)) σ :=
  (containsI_ok ks hk f_family_Restrict_1 _ _ pure_family_Restrict_1 (fun h => rfl) (fun n => out_ok f n)).rule
end
theorem restrict_no (f : Fam) (hf : FSz f) (h : ¬ FamOk f) (ks : List Int) : Fn G f_family_Restrict [eF f, .lst (ks.map I)] (.tup [eF noFam, I 160]) := by
  refine FnP.mk' g_family_Restrict rfl rfl ?_
  simp only [go_sem, ↓reduceIte, ↓guardT_tt, ↓guardT_tf, ↓guardT_ft, ↓guardT_ff, ↓condT_t, ↓condT_f, c_family_Restrict, eF, fam_r hf, h, noFam]
theorem restrict_bad (f : Fam) (hf : FSz f) (h : FamOk f) (ks : List Int) (hk : ks.length ≤ 1048576) (hb : ks.length < 1 ∨ 32 < ks.length ∨ outOf f ks = true) : Fn G f_family_Restrict [eF f, .lst (ks.map I)] (.tup [eF noFam, I 1]) := by
  refine FnP.mk' g_family_Restrict rfl rfl ?_
  simp only [go_sem, ↓reduceIte, ↓guardT_tt, ↓guardT_tf, ↓guardT_ft, ↓guardT_ff, ↓condT_t, ↓condT_f, c_family_Restrict, eF, fam_r hf, h]
  by_cases h1 : (ks.length : Int) < 1
  · simp only [go_sem, ↓reduceIte, ↓guardT_tt, ↓guardT_tf, ↓guardT_ft, ↓guardT_ff, ↓condT_t, ↓condT_f, h1, noFam, eF]
  · by_cases h2 : (32 : Int) < ks.length
    · simp only [go_sem, ↓reduceIte, ↓guardT_tt, ↓guardT_tf, ↓guardT_ft, ↓guardT_ff, ↓condT_t, ↓condT_f, h1, h2, noFam, eF]
    · have h3 : outOf f ks = true := hb.elim (fun h => absurd h (by omega)) (fun h => h.elim (fun h => absurd h (by omega)) id)
      simp only [go_sem, ↓reduceIte, ↓guardT_tt, ↓guardT_tf, ↓guardT_ft, ↓guardT_ff, ↓condT_t, ↓condT_f, h1, h2, out_r hk, h3, noFam, eF]
theorem restrict_ok (f : Fam) (hf : FSz f) (h : FamOk f) (ks : List Nat) (hk1 : 1 ≤ ks.length) (hk : ks.length ≤ 32) (hin : ∀ n ∈ ks, (n : Int) < f.P) : Fn G f_family_Restrict [eF f, .lst (ks.map nI)] (.tup [eF (restrictOf f ks), I 0]) := by
  have hw := h.w
  have ha := hf.a
  have hS := hf.s
  have e0 : ks.map nI = (ks.map fun n : Nat => (n : Int)).map I := by rw [List.map_map]; rfl
  have hout : outOf f (ks.map fun n : Nat => (n : Int)) = false := by
    unfold outOf
    rw [List.any_eq_false]
    intro x hx
    obtain ⟨n, hn, rfl⟩ := List.mem_map.1 hx
    have := hin n hn
    simp; omega
  have hor : ∀ {fr : Bool} {roots : List Nat} {b : Nat} {ss : List Nat} {σ : St} {k : AV → St → Prop}, callT G f_slices_ContainsFunc___int_int_ [.lst (ks.map nI), .fn f_family_Restrict_1 [.pfro [.lst (f.acts.map .str), I f.P, .lst (f.S.map eP)]]] fr roots b ss σ k = k (Bo false) σ := by
    intro fr roots b ss σ k
    rw [e0, out_r (by simp; omega), hout]
  have h1 : ¬ (ks.length : Int) < 1 := by omega
  have h2 : ¬ (32 : Int) < ks.length := by omega
  refine FnP.mk' g_family_Restrict rfl rfl ?_
  simp only [go_sem, ↓reduceIte, ↓guardT_tt, ↓guardT_tf, ↓guardT_ft, ↓guardT_ff, ↓condT_t, ↓condT_f, c_family_Restrict, eF, fam_r hf, h, h1, h2, hor, clone_r ha]
  refine wp_loopQ (fun (i : Nat) σ => i ≤ f.S.length ∧ ∃ a0 c0 z a3 c3 a4 c4 a5 c5 a6 c6 a7 c7 a8 c8, σ = ⟨aT .undef 76 [(4, .ptr 1 1 [] 0 0 0), (6, .fn f_family_Restrict_2 [.pfro [.lst (ks.map nI)]]), (7, .ptr 2 1 [] 0 0 0), (41, .lst (f.S.map eP)), (42, I f.S.length), (43, I i)],
      [⟨a0, c0, .own 3 [.agg [.lst (f.acts.map .str), I f.P, .lst (f.S.map eP)]]⟩, ⟨1, 0, .own 3 [.agg [.nils, I 0, .nils]]⟩, ⟨1, z, .own 3 [.agg [.lst (f.acts.map .str), I ks.length, cellv .nils 2 ((f.S.take i).map fun p => rowR p ks p.X.length)]]⟩, ⟨a3, c3, .gone⟩, ⟨a4, c4, .gone⟩, ⟨a5, c5, .gone⟩, ⟨a6, c6, .gone⟩, ⟨a7, c7, .gone⟩, ⟨a8, c8, .gone⟩], []⟩) (fun i => f.S.length - i) ?_ 0 ?_
  · rintro i σ ⟨hi, a0, c0, z, a3, c3, a4, c4, a5, c5, a6, c6, a7, c7, a8, c8, rfl⟩ N Q hQ hN
    by_cases hlt : i < f.S.length
    · obtain ⟨g1, g2, g3⟩ := hf.p i hlt
      simp only [go_sem, ↓reduceIte, ↓guardT_tt, ↓guardT_tf, ↓guardT_ft, ↓guardT_ff, ↓condT_t, ↓condT_f, eP, wrap_succ hlt (by omega), Int.ofNat_lt, hlt, part_r g1 (hw.a i hlt) hk]
      generalize hx : f.S[i]! = x at *
      have hwx : ∀ j < x.X.length, WOk x.X[j]! := fun j hj => by have := hw.x i hlt j (by rw [hx]; exact hj); rw [hx] at this; exact this
      refine wp_loopQ (fun (j : Nat) σ => j ≤ x.X.length ∧ ∃ z4 a5 c5 a6 c6, σ = ⟨aT .undef 76 [(4, .ptr 1 1 [] 0 0 0), (6, .fn f_family_Restrict_2 [.pfro [.lst (ks.map nI)]]), (7, .ptr 2 1 [] 0 0 0), (10, .ptr 4 (a4 + 1) [] 0 0 0), (41, .lst (f.S.map eP)), (42, I f.S.length), (43, I i), (53, .lst (x.X.map eCs)), (54, I x.X.length), (55, I j)],
        [⟨a0, c0, .own 3 [.agg [.lst (f.acts.map .str), I f.P, .lst (f.S.map eP)]]⟩, ⟨1, 0, .own 3 [.agg [.nils, I 0, .nils]]⟩, ⟨1, z, .own 3 [.agg [.lst (f.acts.map .str), I ks.length, cellv .nils 2 ((f.S.take i).map fun p => rowR p ks p.X.length)]]⟩, ⟨a3 + 1, 0, .own 2 [.agg [.lst (x.A.map eC), .lst (x.X.map eCs)]]⟩, ⟨a4 + 1, z4, .own 2 [rowR x ks j]⟩, ⟨a5, c5, .gone⟩, ⟨a6, c6, .gone⟩, ⟨a7, c7, .gone⟩, ⟨a8, c8, .gone⟩], []⟩) (fun j => x.X.length - j) ?_ 0 ?_
      · rintro j σ ⟨hj, z4, a5, c5, a6, c6, rfl⟩ N2 Q2 hQ2 hN2
        by_cases hlt2 : j < x.X.length
        · have hl := g3 j hlt2
          simp only [go_sem, ↓reduceIte, ↓guardT_tt, ↓guardT_tf, ↓guardT_ft, ↓guardT_ff, ↓condT_t, ↓condT_f, eCs, rowR, wrap_succ hlt2 (by omega), Int.ofNat_lt, hlt2, part_r hl (hwx j hlt2) hk]
          refine ⟨by rw [List.length_take]; omega, hN2 (j + 1) _ (by omega) ⟨by omega, ?_⟩⟩
          simp only [go_sem, ↓reduceIte, ↓guardT_tt, ↓guardT_tf, ↓guardT_ft, ↓guardT_ff, ↓condT_t, ↓condT_f, take_succ_map _ hlt2, rowR, eCs]
          repeat apply Exists.intro
          rfl
        · have hjl : j = x.X.length := by omega
          subst hjl hQ2
          simp only [go_sem, ↓reduceIte, ↓guardT_tt, ↓guardT_tf, ↓guardT_ft, ↓guardT_ff, ↓condT_t, ↓condT_f, rowR, Int.ofNat_lt, hlt2, List.take_length, wrap_succ hlt (show f.S.length ≤ 1000000000 by omega)]
          refine ⟨by rw [List.length_take]; omega, hN (i + 1) _ (by omega) ⟨by omega, ?_⟩⟩
          simp only [go_sem, ↓reduceIte, ↓guardT_tt, ↓guardT_tf, ↓guardT_ft, ↓guardT_ff, ↓condT_t, ↓condT_f, take_succ_map _ hlt, hx, rowR, List.take_length]
          repeat apply Exists.intro
          rfl
      · refine ⟨by omega, ?_⟩
        simp only [go_sem, ↓reduceIte, ↓guardT_tt, ↓guardT_tf, ↓guardT_ft, ↓guardT_ff, ↓condT_t, ↓condT_f, List.take_zero, rowR]
        repeat apply Exists.intro
        rfl
    · have hil : i = f.S.length := by omega
      subst hil hQ
      simp only [go_sem, ↓reduceIte, ↓guardT_tt, ↓guardT_tf, ↓guardT_ft, ↓guardT_ff, ↓condT_t, ↓condT_f, Int.ofNat_lt, hlt, List.take_length]
      have e : (frz ∘ fun p : Plan => rowR p ks p.X.length) = (eP ∘ fun p => restrictP p ks) := funext fun x => frz_rowR x ks
      simp only [restrictOf, List.map_map, e]
  · refine ⟨by omega, ?_⟩
    simp only [go_sem, ↓reduceIte, ↓guardT_tt, ↓guardT_tf, ↓guardT_ft, ↓guardT_ff, ↓condT_t, ↓condT_f, List.take_zero]
    repeat apply Exists.intro
    rfl
end Go.Mw

/- Families that are the same; the law of restricting. -/
namespace Go.Mw
set_option linter.unusedVariables false
set_option linter.unusedSimpArgs false
set_option maxRecDepth 100000
theorem sameC_ok (l : List Ch) (hl : l.length ≤ 1048576) : FnT G f_makeweightref16_SameChoices [.lst (l.map eC), .lst (l.map eC)] (Bo true) := by
  refine FnP.mk' g_makeweightref16_SameChoices rfl rfl ?_
  simp only [go_sem, ↓reduceIte, ↓guardT_tt, ↓guardT_tf, ↓guardT_ft, ↓guardT_ff, ↓condT_t, ↓condT_f, c_makeweightref16_SameChoices, bne_self_eq_false]
  refine wp_loopQ (fun (i : Nat) σ => i ≤ l.length ∧ ∃ a c, σ = ⟨aT .undef 26 [(1, .lst (l.map eC)), (12, .lst (l.map eC)), (13, I l.length), (14, I i)], [⟨a, c, .gone⟩], []⟩) (fun i => l.length - i) ?_ 0 ?_
  · rintro i σ ⟨hi, a, c, rfl⟩ N Q hQ hN
    by_cases hlt : i < l.length
    · simp only [go_sem, ↓reduceIte, ↓guardT_tt, ↓guardT_tf, ↓guardT_ft, ↓guardT_ff, ↓condT_t, ↓condT_f, eC, wrap_succ hlt (by omega), Int.ofNat_lt, hlt, bne_self_eq_false, beq_self_eq_true, Bool.and_true, Bool.true_and]
      refine hN (i + 1) _ (by omega) ⟨by omega, ?_⟩
      simp only [go_sem, ↓reduceIte, ↓guardT_tt, ↓guardT_tf, ↓guardT_ft, ↓guardT_ff, ↓condT_t, ↓condT_f]
      repeat apply Exists.intro
      rfl
    · subst hQ
      simp only [go_sem, ↓reduceIte, ↓guardT_tt, ↓guardT_tf, ↓guardT_ft, ↓guardT_ff, ↓condT_t, ↓condT_f, Int.ofNat_lt, hlt]
  · refine ⟨by omega, 0, 0, ?_⟩
    simp only [go_sem, ↓reduceIte, ↓guardT_tt, ↓guardT_tf, ↓guardT_ft, ↓guardT_ff, ↓condT_t, ↓condT_f]
theorem sameC_r {l : List Ch} (hl : l.length ≤ 1048576) {fr : Bool} {roots : List Nat} {b : Nat} {ss : List Nat} {σ : St} {k : AV → St → Prop} :
    callT G f_makeweightref16_SameChoices [.lst (l.map eC), .lst (l.map eC)] fr roots b ss σ k = k (Bo true) σ := (sameC_ok l hl).rule
theorem sameF_ok (f : Fam) (hf : FSz f) : FnT G f_makeweightref16_Same [eF f, eF f] (Bo true) := by
  refine FnP.mk' g_makeweightref16_Same rfl rfl ?_
  have hS := hf.s
  simp only [go_sem, ↓reduceIte, ↓guardT_tt, ↓guardT_tf, ↓guardT_ft, ↓guardT_ff, ↓condT_t, ↓condT_f, c_makeweightref16_Same, eF, bne_self_eq_false, sameS_r hf.a]
  refine wp_loopQ (fun (i : Nat) σ => i ≤ f.S.length ∧ ∃ a0 c0 a2 c2 a3 c3, σ = ⟨aT .undef 78 [(3, .ptr 1 1 [] 0 0 0), (33, .lst (f.S.map eP)), (34, I f.S.length), (35, I i)],
      [⟨a0, c0, .own 3 [.agg [.lst (f.acts.map .str), I f.P, .lst (f.S.map eP)]]⟩, ⟨1, 0, .own 3 [.agg [.lst (f.acts.map .str), I f.P, .lst (f.S.map eP)]]⟩, ⟨a2, c2, .gone⟩, ⟨a3, c3, .gone⟩], []⟩) (fun i => f.S.length - i) ?_ 0 ?_
  · rintro i σ ⟨hi, a0, c0, a2, c2, a3, c3, rfl⟩ N Q hQ hN
    by_cases hlt : i < f.S.length
    · obtain ⟨g1, g2, g3⟩ := hf.p i hlt
      simp only [go_sem, ↓reduceIte, ↓guardT_tt, ↓guardT_tf, ↓guardT_ft, ↓guardT_ff, ↓condT_t, ↓condT_f, eP, wrap_succ hlt (by omega), Int.ofNat_lt, hlt, sameC_r g1, bne_self_eq_false]
      generalize hx : f.S[i]! = x at *
      refine wp_loopQ (fun (j : Nat) σ => j ≤ x.X.length ∧ σ = ⟨aT .undef 78 [(3, .ptr 1 1 [] 0 0 0), (7, .ptr 3 (a3 + 1) [] 0 0 0), (33, .lst (f.S.map eP)), (34, I f.S.length), (35, I i), (61, .lst (x.X.map eCs)), (62, I x.X.length), (63, I j)],
        [⟨a0, c0, .own 3 [.agg [.lst (f.acts.map .str), I f.P, .lst (f.S.map eP)]]⟩, ⟨1, 0, .own 3 [.agg [.lst (f.acts.map .str), I f.P, .lst (f.S.map eP)]]⟩, ⟨a2 + 1, 0, .own 2 [.agg [.lst (x.A.map eC), .lst (x.X.map eCs)]]⟩, ⟨a3 + 1, 0, .own 2 [.agg [.lst (x.A.map eC), .lst (x.X.map eCs)]]⟩], []⟩) (fun j => x.X.length - j) ?_ 0 ?_
      · rintro j σ ⟨hj, rfl⟩ N2 Q2 hQ2 hN2
        by_cases hlt2 : j < x.X.length
        · simp only [go_sem, ↓reduceIte, ↓guardT_tt, ↓guardT_tf, ↓guardT_ft, ↓guardT_ff, ↓condT_t, ↓condT_f, eCs, wrap_succ hlt2 (by omega), Int.ofNat_lt, hlt2, sameC_r (g3 j hlt2)]
          refine hN2 (j + 1) _ (by omega) ⟨by omega, ?_⟩
          simp only [go_sem, ↓reduceIte, ↓guardT_tt, ↓guardT_tf, ↓guardT_ft, ↓guardT_ff, ↓condT_t, ↓condT_f]
        · subst hQ2
          simp only [go_sem, ↓reduceIte, ↓guardT_tt, ↓guardT_tf, ↓guardT_ft, ↓guardT_ff, ↓condT_t, ↓condT_f, Int.ofNat_lt, hlt2, wrap_succ hlt (show f.S.length ≤ 1000000000 by omega)]
          refine hN (i + 1) _ (by omega) ⟨by omega, ?_⟩
          simp only [go_sem, ↓reduceIte, ↓guardT_tt, ↓guardT_tf, ↓guardT_ft, ↓guardT_ff, ↓condT_t, ↓condT_f]
          repeat apply Exists.intro
          rfl
      · refine ⟨by omega, ?_⟩
        simp only [go_sem, ↓reduceIte, ↓guardT_tt, ↓guardT_tf, ↓guardT_ft, ↓guardT_ff, ↓condT_t, ↓condT_f]
    · subst hQ
      simp only [go_sem, ↓reduceIte, ↓guardT_tt, ↓guardT_tf, ↓guardT_ft, ↓guardT_ff, ↓condT_t, ↓condT_f, Int.ofNat_lt, hlt]
  · refine ⟨by omega, ?_⟩
    simp only [go_sem, ↓reduceIte, ↓guardT_tt, ↓guardT_tf, ↓guardT_ft, ↓guardT_ff, ↓condT_t, ↓condT_f]
    repeat apply Exists.intro
    rfl
theorem sameF_r {f : Fam} (hf : FSz f) {fr : Bool} {roots : List Nat} {b : Nat} {ss : List Nat} {σ : St} {k : AV → St → Prop} :
    callT G f_makeweightref16_Same [.agg [.lst (f.acts.map .str), I f.P, .lst (f.S.map eP)], .agg [.lst (f.acts.map .str), I f.P, .lst (f.S.map eP)]] fr roots b ss σ k = k (Bo true) σ := (sameF_ok f hf).rule
theorem noFam_sz : FSz noFam := ⟨by simp [noFam], by simp [noFam], fun i hi => by simp [noFam] at hi⟩
theorem sameF0_r {fr : Bool} {roots : List Nat} {b : Nat} {ss : List Nat} {σ : St} {k : AV → St → Prop} :
    callT G f_makeweightref16_Same [.agg [.lst [], .int .i64 0, .lst []], .agg [.lst [], .int .i64 0, .lst []]] fr roots b ss σ k = k (Bo true) σ := sameF_r noFam_sz
theorem restrictOf_sz {f : Fam} (hf : FSz f) (ks : List Nat) : FSz (restrictOf f ks) := by
  refine ⟨hf.a, by simp only [restrictOf, List.length_map]; exact hf.s, fun i hi => ?_⟩
  simp only [restrictOf, List.length_map] at hi
  obtain ⟨g1, g2, g3⟩ := hf.p i hi
  have e : (restrictOf f ks).S[i]! = restrictP f.S[i]! ks := by
    rw [getElem!_pos (restrictOf f ks).S i (by simp only [restrictOf, List.length_map]; exact hi), getElem!_pos f.S i hi]; simp only [restrictOf, List.getElem_map]
  rw [e]
  refine ⟨Nat.le_trans someL_len g1, by simp only [restrictP, List.length_map]; exact g2, fun j hj => ?_⟩
  simp only [restrictP, List.length_map] at hj ⊢
  have e2 : (f.S[i]!.X.map fun l => someL l ks)[j]! = someL f.S[i]!.X[j]! ks := by
    rw [getElem!_pos (f.S[i]!.X.map fun l => someL l ks) j (by simpa using hj), getElem!_pos f.S[i]!.X j hj]; simp
  rw [e2]
  exact Nat.le_trans someL_len (g3 j hj)
end Go.Mw

/- The law of restricting. -/
namespace Go.Mw
set_option linter.unusedVariables false
set_option linter.unusedSimpArgs false
set_option maxRecDepth 100000
def errI (e0 : Int) (f : Fam) (l : List Int) : Int := if e0 = 0 then (if outOf f l then 1 else 0) else e0
theorem outOf_succ {f : Fam} {l : List Int} {i : Nat} (h : i < l.length) : outOf f (l.take (i + 1)) = (outOf f (l.take i) || decide (l[i]! < 0 ∨ f.P ≤ l[i]!)) := by
  unfold outOf
  rw [List.take_succ_eq_append_getElem h, List.any_append, getElem!_pos l i h]; simp
theorem errI_succ {e0 : Int} {f : Fam} {l : List Int} {i : Nat} (h : i < l.length) : errI e0 f (l.take (i + 1)) = if errI e0 f (l.take i) = 0 ∧ (l[i]! < 0 ∨ f.P ≤ l[i]!) then 1 else errI e0 f (l.take i) := by
  unfold errI
  rw [outOf_succ h]
  by_cases h0 : e0 = 0
  · simp only [h0, if_true]
    cases outOf f (l.take i) <;> simp
  · simp only [h0, if_false, false_and]
theorem restrict_loop (f : Fam) (ks : List Int) (hk : ks.length ≤ 1048576) (e0 : Int) {σ : St} {Q : Ex → St → Prop}
    (hσ : headS (rest 74 [1, 2, 5, 6, 31, 32, 33]) [] 0 σ = ⟨aT .undef 74 [(1, .lst (ks.map I)), (2, .ptr 0 1 [] 0 0 0), (5, I e0), (6, .ptr 1 1 [] 0 0 0), (31, .lst (ks.map I)), (32, I ks.length), (33, I 0)],
      [⟨1, 0, .own 3 [.agg [.lst (f.acts.map .str), I f.P, .lst (f.S.map eP)]]⟩, ⟨1, 0, .own 3 [.agg [.nils, I 0, .nils]]⟩, ⟨0, 0, .gone⟩, ⟨0, 0, .gone⟩], []⟩)
    (hQ : Q (.ext 0) ⟨aT .undef 74 [(34, .bool false), (1, .lst (ks.map I)), (2, .ptr 0 1 [] 0 0 0), (5, I (errI e0 f ks)), (6, .ptr 1 1 [] 0 0 0), (31, .lst (ks.map I)), (32, I ks.length), (33, I ks.length)],
      [⟨1, 0, .own 3 [.agg [.lst (f.acts.map .str), I f.P, .lst (f.S.map eP)]]⟩, ⟨1, 0, .own 3 [.agg [.nils, I 0, .nils]]⟩, ⟨0, 0, .gone⟩, ⟨0, 0, .gone⟩], []⟩) : Wp G l_makeweightlaw16_FamilyRestricts_0 0 σ Q := by
  unfold l_makeweightlaw16_FamilyRestricts_0
  refine wp_loopQ (fun (i : Nat) σ => i ≤ ks.length ∧ σ = ⟨aT .undef 74 [(1, .lst (ks.map I)), (2, .ptr 0 1 [] 0 0 0), (5, I (errI e0 f (ks.take i))), (6, .ptr 1 1 [] 0 0 0), (31, .lst (ks.map I)), (32, I ks.length), (33, I i)],
      [⟨1, 0, .own 3 [.agg [.lst (f.acts.map .str), I f.P, .lst (f.S.map eP)]]⟩, ⟨1, 0, .own 3 [.agg [.nils, I 0, .nils]]⟩, ⟨0, 0, .gone⟩, ⟨0, 0, .gone⟩], []⟩) (fun i => ks.length - i) ?_ 0 ?_
  · rintro i σ ⟨hi, rfl⟩ N Q' hQ' hN
    by_cases hlt : i < ks.length
    · have hs := @outOf_succ f ks i hlt
      simp only [go_sem, ↓reduceIte, ↓guardT_tt, ↓guardT_tf, ↓guardT_ft, ↓guardT_ff, ↓condT_t, ↓condT_f, wrap_succ hlt (by omega), Int.ofNat_lt, hlt]
      have he := @errI_succ e0 f ks i hlt
      generalize errI e0 f (ks.take i) = e at *
      (repeat' (first | intro _ | refine And.intro ?_ ?_)) <;> (refine hN (i + 1) _ (by omega) ⟨by omega, ?_⟩) <;> first
        | (rw [he, if_pos (by grind)]; simp only [go_sem, ↓reduceIte, ↓guardT_tt, ↓guardT_tf, ↓guardT_ft, ↓guardT_ff, ↓condT_t, ↓condT_f])
        | (rw [he, if_neg (by grind)]; simp only [go_sem, ↓reduceIte, ↓guardT_tt, ↓guardT_tf, ↓guardT_ft, ↓guardT_ff, ↓condT_t, ↓condT_f])
    · have hil : i = ks.length := by omega
      subst hil hQ'
      simp only [go_sem, ↓reduceIte, ↓guardT_tt, ↓guardT_tf, ↓guardT_ft, ↓guardT_ff, ↓condT_t, ↓condT_f, Int.ofNat_lt, hlt, List.take_length]
      exact hQ
  · refine ⟨by omega, ?_⟩
    rw [hσ, show errI e0 f (ks.take 0) = e0 by unfold errI outOf; by_cases h : e0 = 0 <;> simp [h]]
    rfl
theorem Fn.ruleM {f : FuncId} {xs : List AV} {r : AV} (h : Fn G f xs r) {fr : Bool} {roots : List Nat} {b : Nat} {ss : List Nat} {σ : St} {k : AV → St → Prop} (hk : ∀ h', (h' = σ.h ∨ h' = dropRoots σ.h roots) → k r ⟨σ.t, h', σ.lp⟩) : callT G f xs fr roots b ss σ k := by
  cases fr with
  | true => rw [h.rule]; exact hk _ (.inl rfl)
  | false => exact h.rule2 (hk _ (.inl rfl)) (hk _ (.inr rfl))
theorem drop4 {o0 o1 o2 o3 : Ob} {xs : List AV} {h' : List Ob} (h : h' = [o0, o1, o2, o3] ∨ h' = dropRoots [o0, o1, o2, o3] (may xs 2)) : ∃ o, h' = [o0, o1, o, o3] := by
  rcases h with rfl | rfl
  · exact ⟨_, rfl⟩
  · unfold may; split <;> exact ⟨_, rfl⟩
theorem eF_noFam : eF noFam = .agg [.lst [], I 0, .lst []] := (rfl)
theorem nats_of {f : Fam} {ks : List Int} (h : outOf f ks = false) : ∃ kn : List Nat, ks.map I = kn.map nI ∧ kn.length = ks.length ∧ ∀ n ∈ kn, (n : Int) < f.P := by
  unfold outOf at h
  rw [List.any_eq_false] at h
  refine ⟨ks.map Int.toNat, ?_, by simp, fun n hn => ?_⟩
  · rw [List.map_map]
    refine List.map_congr_left (fun x hx => ?_)
    have := h x hx
    simp at this
    show I x = I ((x.toNat : Nat) : Int)
    rw [Int.toNat_of_nonneg (by omega)]
  · obtain ⟨x, hx, rfl⟩ := List.mem_map.1 hn
    have := h x hx
    simp at this
    omega
theorem familyRestricts_ok (f : Fam) (hf : FSz f) (ks : List Int) (hk : ks.length ≤ 1048576) : FnT G f_makeweightlaw16_FamilyRestricts [eF f, .lst (ks.map I)] (Bo true) := by
  obtain ⟨v, hv⟩ := light_ex f hf
  have hlight : ∀ {fr : Bool} {roots : List Nat} {b : Nat} {ss : List Nat} {σ : St} {k : AV → St → Prop}, callT G f_makeweightlaw16_light [.agg [.lst (f.acts.map .str), I f.P, .lst (f.S.map eP)]] fr roots b ss σ k = k (Bo v) σ := hv.rule
  refine FnP.mk' g_makeweightlaw16_FamilyRestricts rfl rfl ?_
  simp only [go_sem, ↓reduceIte, ↓guardT_tt, ↓guardT_tf, ↓guardT_ft, ↓guardT_ff, ↓condT_t, ↓condT_f, c_makeweightlaw16_FamilyRestricts, eF, hlight, awake_r]
  cases v with
  | false => simp only [go_sem, ↓reduceIte, ↓guardT_tt, ↓guardT_tf, ↓guardT_ft, ↓guardT_ff, ↓condT_t, ↓condT_f, awake_r]
  | true =>
    by_cases h100 : (100 : Int) < ks.length
    · simp only [go_sem, ↓reduceIte, ↓guardT_tt, ↓guardT_tf, ↓guardT_ft, ↓guardT_ff, ↓condT_t, ↓condT_f, h100, awake_r]
    · simp only [go_sem, ↓reduceIte, ↓guardT_tt, ↓guardT_tf, ↓guardT_ft, ↓guardT_ff, ↓condT_t, ↓condT_f, h100, famR_r hf]
      by_cases h : FamOk f
      · by_cases h1 : (ks.length : Int) < 1
        · simp only [go_sem, ↓reduceIte, ↓guardT_tt, ↓guardT_tf, ↓guardT_ft, ↓guardT_ff, ↓condT_t, ↓condT_f, h, h1]
          refine restrict_loop f ks hk 1 (by simp only [go_sem, ↓reduceIte, ↓guardT_tt, ↓guardT_tf, ↓guardT_ft, ↓guardT_ff, ↓condT_t, ↓condT_f]) ?_
          simp only [go_sem, ↓reduceIte, ↓guardT_tt, ↓guardT_tf, ↓guardT_ft, ↓guardT_ff, ↓condT_t, ↓condT_f, show errI 1 f ks = 1 from rfl, copy_r hf, eF]
          refine ⟨by omega, (restrict_bad f hf h ks hk (.inl (by omega))).ruleM (fun h' hh => ?_)⟩
          obtain ⟨o, rfl⟩ := drop4 hh
          simp only [go_sem, ↓reduceIte, ↓guardT_tt, ↓guardT_tf, ↓guardT_ft, ↓guardT_ff, ↓condT_t, ↓condT_f, eF_noFam, sameF0_r, awake_r]
        · by_cases h2 : (32 : Int) < ks.length
          · simp only [go_sem, ↓reduceIte, ↓guardT_tt, ↓guardT_tf, ↓guardT_ft, ↓guardT_ff, ↓condT_t, ↓condT_f, h, h1, h2]
            refine restrict_loop f ks hk 1 (by simp only [go_sem, ↓reduceIte, ↓guardT_tt, ↓guardT_tf, ↓guardT_ft, ↓guardT_ff, ↓condT_t, ↓condT_f]) ?_
            simp only [go_sem, ↓reduceIte, ↓guardT_tt, ↓guardT_tf, ↓guardT_ft, ↓guardT_ff, ↓condT_t, ↓condT_f, show errI 1 f ks = 1 from rfl, copy_r hf, eF]
            refine ⟨by omega, (restrict_bad f hf h ks hk (.inr (.inl (by omega)))).ruleM (fun h' hh => ?_)⟩
            obtain ⟨o, rfl⟩ := drop4 hh
            simp only [go_sem, ↓reduceIte, ↓guardT_tt, ↓guardT_tf, ↓guardT_ft, ↓guardT_ff, ↓condT_t, ↓condT_f, eF_noFam, sameF0_r, awake_r]
          · simp only [go_sem, ↓reduceIte, ↓guardT_tt, ↓guardT_tf, ↓guardT_ft, ↓guardT_ff, ↓condT_t, ↓condT_f, h, h1, h2]
            refine restrict_loop f ks hk 0 (by simp only [go_sem, ↓reduceIte, ↓guardT_tt, ↓guardT_tf, ↓guardT_ft, ↓guardT_ff, ↓condT_t, ↓condT_f]) ?_
            cases ho : outOf f ks with
            | true =>
              simp only [go_sem, ↓reduceIte, ↓guardT_tt, ↓guardT_tf, ↓guardT_ft, ↓guardT_ff, ↓condT_t, ↓condT_f, show errI 0 f ks = 1 by simp [errI, ho], copy_r hf, eF]
              refine ⟨by omega, (restrict_bad f hf h ks hk (.inr (.inr ho))).ruleM (fun h' hh => ?_)⟩
              obtain ⟨o, rfl⟩ := drop4 hh
              simp only [go_sem, ↓reduceIte, ↓guardT_tt, ↓guardT_tf, ↓guardT_ft, ↓guardT_ff, ↓condT_t, ↓condT_f, eF_noFam, sameF0_r, awake_r]
            | false =>
              obtain ⟨kn, hkn, hlen, hin⟩ := nats_of ho
              have hr := restrictR_ok f hf h.w kn (by omega)
              have hcall : ∀ {roots : List Nat} {b : Nat} {ss : List Nat} {σ : St} {k : AV → St → Prop}, callT G f_makeweightref16_Restrict [.agg [.lst (f.acts.map .str), I f.P, .lst (f.S.map eP)], .lst (kn.map nI)] true roots b ss σ k = k (eF (restrictOf f kn)) σ := hr.rule
              have hsz := restrictOf_sz hf kn
              rw [hkn]
              simp only [go_sem, ↓reduceIte, ↓guardT_tt, ↓guardT_tf, ↓guardT_ft, ↓guardT_ff, ↓condT_t, ↓condT_f, show errI 0 f ks = 0 by simp [errI, ho], copy_r hf, hcall, eF]
              refine ⟨by omega, (restrict_ok f hf h kn (by omega) (by omega) hin).ruleM (fun h' hh => ?_)⟩
              obtain ⟨o, rfl⟩ := drop4 hh
              simp only [go_sem, ↓reduceIte, ↓guardT_tt, ↓guardT_tf, ↓guardT_ft, ↓guardT_ff, ↓condT_t, ↓condT_f, sameF_r hsz, eF, awake_r]
      · simp only [go_sem, ↓reduceIte, ↓guardT_tt, ↓guardT_tf, ↓guardT_ft, ↓guardT_ff, ↓condT_t, ↓condT_f, h]
        refine restrict_loop f ks hk 160 (by simp only [go_sem, ↓reduceIte, ↓guardT_tt, ↓guardT_tf, ↓guardT_ft, ↓guardT_ff, ↓condT_t, ↓condT_f]) ?_
        simp only [go_sem, ↓reduceIte, ↓guardT_tt, ↓guardT_tf, ↓guardT_ft, ↓guardT_ff, ↓condT_t, ↓condT_f, show errI 160 f ks = 160 from rfl, copy_r hf, eF]
        refine ⟨by omega, (restrict_no f hf h ks).ruleM (fun h' hh => ?_)⟩
        obtain ⟨o, rfl⟩ := drop4 hh
        simp only [go_sem, ↓reduceIte, ↓guardT_tt, ↓guardT_tf, ↓guardT_ft, ↓guardT_ff, ↓condT_t, ↓condT_f, eF_noFam, sameF0_r, awake_r]
end Go.Mw

/- What is restricted is a family again: plain facts. -/
namespace Go.Mw
set_option linter.unusedVariables false
set_option linter.unusedSimpArgs false
set_option maxRecDepth 100000
theorem nat_zero_bits {n : Nat} : n = 0 ↔ ∀ a, n.testBit a = false := by
  constructor
  · rintro rfl a; exact Nat.zero_testBit a
  · intro h; exact Nat.eq_of_testBit_eq (fun a => by rw [h a, Nat.zero_testBit])
theorem band_zero {m n : Nat} (hm : m < 2 ^ 63) (hn : n < 2 ^ 63) : band .i64 (m : Int) (n : Int) = 0 ↔ ∀ a, ¬ (m.testBit a = true ∧ n.testBit a = true) := by
  rw [band_nat hm hn]
  have e : ((m &&& n : Nat) : Int) = 0 ↔ m &&& n = 0 := by omega
  rw [e, nat_zero_bits]
  refine forall_congr' (fun a => ?_)
  rw [Nat.testBit_and]
  cases m.testBit a <;> cases n.testBit a <;> simp
theorem bandn_zero {m n : Nat} (hm : m < 2 ^ 63) (hn : n < 2 ^ 63) : bandn .i64 (m : Int) (n : Int) = 0 ↔ ∀ a, m.testBit a = true → n.testBit a = true := by
  unfold bandn
  have hb : IntKind.i64.bits = 64 := rfl
  rw [hb, BitVec.ofInt_natCast, BitVec.ofInt_natCast]
  have hle : (BitVec.ofNat 64 m &&& ~~~ BitVec.ofNat 64 n).toNat < 2 ^ 63 := by
    rw [BitVec.toNat_and, BitVec.toNat_ofNat]
    exact Nat.lt_of_le_of_lt (Nat.and_le_left) (by rw [Nat.mod_eq_of_lt (by omega)]; exact hm)
  rw [wrapN hle]
  have e : (((BitVec.ofNat 64 m &&& ~~~ BitVec.ofNat 64 n).toNat : Nat) : Int) = 0 ↔ (BitVec.ofNat 64 m &&& ~~~ BitVec.ofNat 64 n).toNat = 0 := by omega
  rw [e, nat_zero_bits]
  constructor
  · intro h a ha
    have hlt : a < 63 := by
      rcases Nat.lt_or_ge a 63 with h1 | h1
      · exact h1
      · rw [Nat.testBit_lt_two_pow (Nat.lt_of_lt_of_le hm (Nat.pow_le_pow_right (by omega) h1))] at ha; cases ha
    have := h a
    rw [BitVec.testBit_toNat, BitVec.getLsbD_and, BitVec.getLsbD_not, BitVec.getLsbD_ofNat, BitVec.getLsbD_ofNat] at this
    have h64 : a < 64 := by omega
    simp [h64, ha] at this
    exact this
  · intro h a
    rw [BitVec.testBit_toNat, BitVec.getLsbD_and, BitVec.getLsbD_not, BitVec.getLsbD_ofNat, BitVec.getLsbD_ofNat]
    have := h a
    cases hm' : m.testBit a
    · simp
    · rw [hm'] at this; simp [this rfl]
def WM (l : List Ch) : Prop := ∀ c ∈ l, ∃ w : Nat, c.W = w ∧ w < 2 ^ 62
theorem WOk.m {l : List Ch} (h : WOk l) : WM l := by
  intro c hc
  obtain ⟨i, hi, rfl⟩ := List.mem_iff_getElem.1 hc
  have := h i hi
  rwa [getElem!_pos l i hi] at this
def orN (l : List Ch) : Nat := l.foldl (fun s c => s ||| c.W.toNat) 0
theorem orAll_nat {l : List Ch} (h : WM l) : orAll l = (orN l : Int) ∧ orN l < 2 ^ 62 := by
  have key : ∀ (l : List Ch) (s : Nat), WM l → s < 2 ^ 62 → l.foldl (fun s c => bor .i64 s c.W) (s : Int) = ((l.foldl (fun s c => s ||| c.W.toNat) s : Nat) : Int) ∧ l.foldl (fun s c => s ||| c.W.toNat) s < 2 ^ 62 := by
    intro l
    induction l with
    | nil => intro s _ hs; exact ⟨rfl, hs⟩
    | cons c l ih =>
      intro s hl hs
      obtain ⟨w, hw, hw2⟩ := hl c (List.mem_cons_self ..)
      simp only [List.foldl_cons, hw, Int.toNat_natCast]
      rw [bor_nat (by omega) (by omega)]
      exact ih _ (fun d hd => hl d (List.mem_cons_of_mem _ hd)) (Nat.or_lt_two_pow hs hw2)
  exact key l 0 h (by omega)
theorem orN_test {l : List Ch} {a : Nat} : (orN l).testBit a = true ↔ ∃ c ∈ l, c.W.toNat.testBit a = true := by
  have key : ∀ (l : List Ch) (s : Nat), (l.foldl (fun s c => s ||| c.W.toNat) s).testBit a = true ↔ s.testBit a = true ∨ ∃ c ∈ l, c.W.toNat.testBit a = true := by
    intro l
    induction l with
    | nil => intro s; simp
    | cons c l ih =>
      intro s
      rw [List.foldl_cons, ih, Nat.testBit_or]
      simp [or_assoc]
  unfold orN
  rw [key l 0]; simp
theorem choOk_iff {l : List Ch} {most : Int} {p : Int → Bool} : choOk l most p = true ↔ (∀ c ∈ l, p c.N = true ∧ 1 ≤ c.W ∧ c.W < most) ∧ l.Pairwise (fun c d => c.N < d.N) := by
  constructor
  · intro h
    have h1 := choOk_at h
    refine ⟨fun c hc => ?_, ?_⟩
    · obtain ⟨i, hi, rfl⟩ := List.mem_iff_getElem.1 hc
      have := h1 i hi
      rw [getElem!_pos l i hi] at this
      exact ⟨this.1, this.2.1, this.2.2.1⟩
    · rw [List.pairwise_iff_getElem]
      intro i j hi hj hij
      have key : ∀ d, i + d + 1 < l.length → l[i]!.N < l[i + d + 1]!.N := by
        intro d
        induction d with
        | zero => intro hd; have := (h1 (i + 0 + 1) hd).2.2.2 (by omega); simpa using this
        | succ d ih => intro hd; have h2 := ih (by omega); have h3 := (h1 (i + (d + 1) + 1) hd).2.2.2 (by omega); simp only [Nat.add_sub_cancel] at h3; have e : i + (d + 1) = i + d + 1 := by omega
                       rw [e] at h3 ⊢; omega
      have := key (j - i - 1) (by omega)
      have e : i + (j - i - 1) + 1 = j := by omega
      rw [e, getElem!_pos l i hi, getElem!_pos l j hj] at this
      exact this
  · rintro ⟨h1, h2⟩
    rw [List.pairwise_iff_getElem] at h2
    unfold choOk
    rw [decide_eq_true_eq]
    intro i hi
    have := h1 l[i] (List.getElem_mem hi)
    rw [getElem!_pos l i hi]
    refine ⟨this.1, this.2.1, this.2.2, fun h0 => ?_⟩
    rw [getElem!_pos l (i - 1) (by omega)]
    exact h2 (i - 1) i (by omega) hi (by omega)
def Apart (c d : Ch) : Prop := ∀ a, ¬ (c.W.toNat.testBit a = true ∧ d.W.toNat.testBit a = true)
theorem disj_iff {l : List Ch} (h : WM l) : disj l = true ↔ l.Pairwise Apart := by
  unfold disj
  rw [decide_eq_true_eq, List.pairwise_iff_getElem]
  have step : ∀ k (hk : k < l.length), band .i64 (orAll (l.take k)) l[k]!.W = 0 ↔ ∀ c ∈ l.take k, Apart c l[k] := by
    intro k hk
    obtain ⟨w, hw, hw2⟩ := h l[k] (List.getElem_mem hk)
    obtain ⟨e, e2⟩ := orAll_nat (l := l.take k) (fun c hc => h c (List.mem_of_mem_take hc))
    rw [getElem!_pos l k hk, e, hw, band_zero (by omega) (by omega)]
    constructor
    · intro g c hc a hca
      rw [hw, Int.toNat_natCast] at hca
      exact g a ⟨orN_test.2 ⟨c, hc, hca.1⟩, hca.2⟩
    · intro g a ⟨h1, h2⟩
      obtain ⟨c, hc, hca⟩ := orN_test.1 h1
      exact g c hc a ⟨hca, by rw [hw, Int.toNat_natCast]; exact h2⟩
  constructor
  · intro g i j hi hj hij
    refine (step j hj).1 (g j hj) l[i] ?_
    exact List.mem_take_iff_getElem.2 ⟨i, by omega, rfl⟩
  · intro g k hk
    refine (step k hk).2 (fun c hc => ?_)
    obtain ⟨i, hi, rfl⟩ := List.mem_take_iff_getElem.1 hc
    exact g i k (by omega) hk (by omega)
end Go.Mw

/- The parts of what is restricted. -/
namespace Go.Mw
set_option linter.unusedVariables false
set_option linter.unusedSimpArgs false
set_option maxRecDepth 100000
theorem pickN_test {w : Nat} {ks : List Nat} {a : Nat} : (pickN w ks).testBit a = (decide (a < ks.length) && w.testBit ks[a]!) := bitsN_test
theorem pickN_lt {w : Nat} {ks : List Nat} : pickN w ks < 2 ^ ks.length := bitsN_lt
theorem mem_someL {l : List Ch} {ks : List Nat} {c' : Ch} : c' ∈ someL l ks ↔ ∃ c ∈ l, c' = ⟨c.N, (pickN c.W.toNat ks : Nat)⟩ ∧ 0 < pickN c.W.toNat ks := by
  unfold someL
  rw [List.mem_filter, List.mem_map]
  constructor
  · rintro ⟨⟨c, hc, rfl⟩, h⟩
    refine ⟨c, hc, rfl, ?_⟩
    have : (0 : Int) < (pickN c.W.toNat ks : Nat) := by simpa using h
    omega
  · rintro ⟨c, hc, rfl, h⟩
    refine ⟨⟨c, hc, rfl⟩, ?_⟩
    have : (0 : Int) < (pickN c.W.toNat ks : Nat) := by omega
    simpa using this
theorem someL_pw {l : List Ch} {ks : List Nat} {R S : Ch → Ch → Prop} (h : l.Pairwise R) (hRS : ∀ c d, R c d → S ⟨c.N, (pickN c.W.toNat ks : Nat)⟩ ⟨d.N, (pickN d.W.toNat ks : Nat)⟩) : (someL l ks).Pairwise S := by
  unfold someL
  refine List.Pairwise.filter _ ?_
  rw [List.pairwise_map]
  exact h.imp (fun {c d} hr => hRS c d hr)
theorem someL_wm {l : List Ch} {ks : List Nat} (hk : ks.length ≤ 32) : WM (someL l ks) := by
  intro c' hc
  obtain ⟨c, _, rfl, _⟩ := mem_someL.1 hc
  exact ⟨_, rfl, Nat.lt_of_lt_of_le pickN_lt (Nat.pow_le_pow_right (by omega) (by omega))⟩
theorem chosen_some {l : List Ch} {ks : List Nat} {i : Nat} (hi : i < ks.length) : chosenL (someL l ks) i = chosenL l ks[i]! := by
  unfold chosenL someL
  induction l with
  | nil => rfl
  | cons c l ih =>
    have ht := @pickN_test c.W.toNat ks i
    simp only [hi, decide_true, Bool.true_and] at ht
    rw [List.map_cons, List.filter_cons, List.filter_cons]
    cases hb : c.W.toNat.testBit ks[i]! with
    | true =>
      rw [hb] at ht
      have hpos : 0 < pickN c.W.toNat ks := by
        rcases Nat.eq_zero_or_pos (pickN c.W.toNat ks) with h0 | h0
        · rw [h0, Nat.zero_testBit] at ht; cases ht
        · exact h0
      have hpos' : decide ((0 : Int) < ((pickN c.W.toNat ks : Nat) : Int)) = true := by simpa using hpos
      simp only [hpos', if_true, List.filter_cons, Int.toNat_natCast, ht, List.map_cons, ih]
    | false =>
      rw [hb] at ht
      by_cases hpos : decide ((0 : Int) < ((pickN c.W.toNat ks : Nat) : Int)) = true
      · simp only [hpos, if_true, List.filter_cons, Int.toNat_natCast, ht, Bool.false_eq_true, if_false, ih]
      · simp only [hpos, if_false, Bool.false_eq_true, ih]
theorem prod_restrict {f : Fam} {ks : List Nat} {i : Nat} (hi : i < ks.length) : prodOf (restrictOf f ks) i = prodOf f ks[i]! := by
  have e : ∀ x : Plan, sttOf (restrictP x ks) i = sttOf x ks[i]! := by
    intro x
    unfold sttOf restrictP
    simp only [chosen_some hi, List.map_map]
    congr 1
    refine List.map_congr_left (fun l _ => ?_)
    simp only [Function.comp_apply, nextOf, chosen_some hi]
  unfold prodOf restrictOf
  simp only [List.map_map]
  congr 1
  exact List.map_congr_left (fun x _ => e x)
theorem choOk_some {l : List Ch} {ks : List Nat} {most : Int} {p : Int → Bool} (h : choOk l most p = true) : choOk (someL l ks) ((2 ^ ks.length : Nat) : Int) p = true := by
  rw [choOk_iff] at h ⊢
  refine ⟨fun c' hc => ?_, someL_pw h.2 (fun c d hr => hr)⟩
  obtain ⟨c, hc1, rfl, hpos⟩ := mem_someL.1 hc
  have := @pickN_lt c.W.toNat ks
  exact ⟨(h.1 c hc1).1, by simp only; omega, by simp only; omega⟩
theorem disj_some {l : List Ch} {ks : List Nat} (hk : ks.length ≤ 32) (hw : WM l) (h : disj l = true) : disj (someL l ks) = true := by
  rw [disj_iff hw] at h
  rw [disj_iff (someL_wm hk)]
  refine someL_pw h (fun c d hr a ha => ?_)
  simp only [Int.toNat_natCast, pickN_test, Bool.and_eq_true] at ha
  exact hr _ ⟨ha.1.2, ha.2.2⟩
theorem plan_restrict {p : Plan} {n st pr : Nat} {ks : List Nat} (hk : ks.length ≤ 32) (hpr : pr ≤ 32) (h : PlanOk p n st pr) : PlanOk (restrictP p ks) n st ks.length := by
  have hA : WM p.A := (choOk_W hpr h.acc).m
  have hX : ∀ i < p.X.length, WM p.X[i]! := fun i hi => (choOk_W hpr (h.nxt i hi).1).m
  have eX : ∀ i < p.X.length, (restrictP p ks).X[i]! = someL p.X[i]! ks := by
    intro i hi
    rw [getElem!_pos (restrictP p ks).X i (by simp only [restrictP, List.length_map]; exact hi), getElem!_pos p.X i hi]; simp only [restrictP, List.getElem_map]
  have lX : (restrictP p ks).X.length = p.X.length := by simp only [restrictP, List.length_map]
  refine ⟨by rw [lX]; exact h.len, choOk_some h.acc, fun i hi => ?_, fun i hi a ha hbit => ?_⟩
  · rw [lX] at hi
    rw [eX i hi]
    exact ⟨choOk_some (h.nxt i hi).1, disj_some hk (hX i hi) (h.nxt i hi).2⟩
  · have hi' : i < (someL p.A ks).length := hi
    have hmem : (someL p.A ks)[i]! ∈ someL p.A ks := by rw [getElem!_pos (someL p.A ks) i hi']; exact List.getElem_mem hi'
    show bandn .i64 (someL p.A ks)[i]!.W (orAll (restrictP p ks).X[a]!) = 0
    have hbit' : (someL p.A ks)[i]!.N.toNat.testBit a = true := hbit
    obtain ⟨c, hc, e, hpos⟩ := mem_someL.1 hmem
    rw [e] at hbit' ⊢
    have hax : a < p.X.length := by rw [h.len]; exact ha
    obtain ⟨g1, g2⟩ := orAll_nat (l := someL p.X[a]! ks) (someL_wm hk)
    rw [eX a hax, g1]
    have hlt : pickN c.W.toNat ks < 2 ^ 63 := Nat.lt_of_lt_of_le pickN_lt (Nat.pow_le_pow_right (by omega) (by omega))
    rw [bandn_zero hlt (by omega)]
    intro m hm
    rw [pickN_test, Bool.and_eq_true] at hm
    obtain ⟨j, hj, hcj⟩ := List.mem_iff_getElem.1 hc
    have h5 := h.has j hj a ha (by rw [getElem!_pos p.A j hj, hcj]; exact hbit')
    rw [getElem!_pos p.A j hj, hcj] at h5
    obtain ⟨w, hw, hw2⟩ := hA c hc
    obtain ⟨g3, g4⟩ := orAll_nat (hX a hax)
    rw [g3, hw, bandn_zero (by omega) (by omega)] at h5
    have h6 := h5 _ (by have := hm.2; rwa [hw, Int.toNat_natCast] at this)
    obtain ⟨d, hd, hdb⟩ := orN_test.1 h6
    have h7 : (pickN d.W.toNat ks).testBit m = true := by rw [pickN_test, hdb, hm.1]; rfl
    have hpos2 : 0 < pickN d.W.toNat ks := by
      rcases Nat.eq_zero_or_pos (pickN d.W.toNat ks) with h0 | h0
      · rw [h0, Nat.zero_testBit] at h7; cases h7
      · exact h0
    exact orN_test.2 ⟨⟨d.N, (pickN d.W.toNat ks : Nat)⟩, mem_someL.2 ⟨d, hd, rfl, hpos2⟩, by simpa using h7⟩
theorem fam_restrict {f : Fam} {ks : List Nat} (h : FamOk f) (h1 : 1 ≤ ks.length) (hk : ks.length ≤ 32) : FamOk (restrictOf f ks) := by
  have lS : (restrictOf f ks).S.length = f.S.length := by simp only [restrictOf, List.length_map]
  have e0 : (restrictOf f ks).P = ks.length := rfl
  refine ⟨h.acts, by rw [e0]; omega, by rw [e0]; omega, by rw [lS]; exact h.s1, by rw [lS]; exact h.s2, fun i hi => ?_⟩
  rw [lS] at hi ⊢
  have e : (restrictOf f ks).S[i]! = restrictP f.S[i]! ks := by
    rw [getElem!_pos (restrictOf f ks).S i (by rw [lS]; exact hi), getElem!_pos f.S i hi]; simp only [restrictOf, List.getElem_map]
  rw [e, e0, Int.toNat_natCast]
  exact plan_restrict hk (by have := h.p2; omega) (h.plan i hi)
end Go.Mw

/- The law of parts. -/
namespace Go.Mw
set_option linter.unusedVariables false
set_option linter.unusedSimpArgs false
set_option maxRecDepth 100000
theorem drop5 {o0 o1 o2 o3 o4 : Ob} {xs : List AV} {h' : List Ob} (h : h' = [o0, o1, o2, o3, o4] ∨ h' = dropRoots [o0, o1, o2, o3, o4] (may xs 1)) : ∃ o, h' = [o0, o, o2, o3, o4] := by
  rcases h with rfl | rfl
  · exact ⟨_, rfl⟩
  · unfold may; split <;> exact ⟨_, rfl⟩
theorem familyParts_ok (f : Fam) (hf : FSz f) (ks : List Int) (hk : ks.length ≤ 1048576) : FnT G f_makeweightlaw16_FamilyParts [eF f, .lst (ks.map I)] (Bo true) := by
  obtain ⟨v, hv⟩ := light_ex f hf
  have hlight : ∀ {fr : Bool} {roots : List Nat} {b : Nat} {ss : List Nat} {σ : St} {k : AV → St → Prop}, callT G f_makeweightlaw16_light [.agg [.lst (f.acts.map .str), I f.P, .lst (f.S.map eP)]] fr roots b ss σ k = k (Bo v) σ := hv.rule
  refine FnP.mk' g_makeweightlaw16_FamilyParts rfl rfl ?_
  simp only [go_sem, ↓reduceIte, ↓guardT_tt, ↓guardT_tf, ↓guardT_ft, ↓guardT_ff, ↓condT_t, ↓condT_f, c_makeweightlaw16_FamilyParts, eF, hlight, awake_r]
  cases v with
  | false => simp only [go_sem, ↓reduceIte, ↓guardT_tt, ↓guardT_tf, ↓guardT_ft, ↓guardT_ff, ↓condT_t, ↓condT_f, awake_r]
  | true =>
    by_cases h100 : (100 : Int) < ks.length
    · simp only [go_sem, ↓reduceIte, ↓guardT_tt, ↓guardT_tf, ↓guardT_ft, ↓guardT_ff, ↓condT_t, ↓condT_f, h100, awake_r]
    · simp only [go_sem, ↓reduceIte, ↓guardT_tt, ↓guardT_tf, ↓guardT_ft, ↓guardT_ff, ↓condT_t, ↓condT_f, h100, copy_r hf, eF]
      refine ⟨by omega, ?_⟩
      by_cases h : FamOk f
      · by_cases hb : ks.length < 1 ∨ 32 < ks.length ∨ outOf f ks = true
        · refine (restrict_bad f hf h ks hk hb).ruleM (fun h' hh => ?_)
          obtain ⟨o, rfl⟩ := drop5 hh
          simp only [go_sem, ↓reduceIte, ↓guardT_tt, ↓guardT_tf, ↓guardT_ft, ↓guardT_ff, ↓condT_t, ↓condT_f, eF_noFam, awake_r]
        · have ho : outOf f ks = false := by
            cases hq : outOf f ks with
            | false => rfl
            | true => exact absurd (.inr (.inr hq)) hb
          obtain ⟨kn, hkn, hlen, hin⟩ := nats_of ho
          have hk1 : 1 ≤ kn.length := by omega
          have hk2 : kn.length ≤ 32 := by omega
          rw [hkn]
          refine (restrict_ok f hf h kn hk1 hk2 hin).ruleM (fun h' hh => ?_)
          obtain ⟨o, rfl⟩ := drop5 hh
          have hg := restrictOf_sz hf kn
          have hgo := fam_restrict h hk1 hk2
          have hgp : (restrictOf f kn).P = kn.length := rfl
          have hpr : ∀ i < kn.length, prodOf (restrictOf f kn) i = prodOf f kn[i]! := fun i hi => prod_restrict hi
          generalize restrictOf f kn = g at *
          simp only [go_sem, ↓reduceIte, ↓guardT_tt, ↓guardT_tf, ↓guardT_ft, ↓guardT_ff, ↓condT_t, ↓condT_f, eF, awake_r]
          refine wp_loopQ (fun (i : Nat) σ => i ≤ kn.length ∧ ∃ a3 c3 a4 c4, σ = ⟨aT .undef 68 [(2, .ptr 0 1 [] 0 0 0), (5, .ptr 2 1 [] 0 0 0), (33, .lst (kn.map nI)), (34, I kn.length), (35, I i)],
              [⟨1, 0, .own 3 [.agg [.lst (f.acts.map .str), I f.P, .lst (f.S.map eP)]]⟩, o, ⟨1, 0, .own 3 [.agg [.lst (g.acts.map .str), I g.P, .lst (g.S.map eP)]]⟩, ⟨a3, c3, .gone⟩, ⟨a4, c4, .gone⟩], []⟩) (fun i => kn.length - i) ?_ 0 ?_
          · rintro i σ ⟨hi, a3, c3, a4, c4, rfl⟩ N Q hQ hN
            by_cases hlt : i < kn.length
            · have hmem : kn[i]! ∈ kn := by rw [getElem!_pos kn i hlt]; exact List.getElem_mem hlt
              have h1 := hin _ hmem
              have e1 : prodA f (kn[i]! : Nat) = (prodOf f kn[i]!, 0) := by
                unfold prodA; rw [if_pos h, if_neg (by omega), Int.toNat_natCast]
              have e2 : prodA g (i : Nat) = (prodOf f kn[i]!, 0) := by
                unfold prodA; rw [if_pos hgo, if_neg (by omega), Int.toNat_natCast, hpr i hlt]
              have hsz := prodOf_sz hf kn[i]!
              simp only [go_sem, ↓reduceIte, ↓guardT_tt, ↓guardT_tf, ↓guardT_ft, ↓guardT_ff, ↓condT_t, ↓condT_f, wrap_succ hlt (by omega), Int.ofNat_lt, hlt, nI, copy_r hf, copy_r hg, eF, product_r hf, product_r hg, e1, e2, eSp, same_r hsz]
              refine hN (i + 1) _ (by omega) ⟨by omega, ?_⟩
              simp only [go_sem, ↓reduceIte, ↓guardT_tt, ↓guardT_tf, ↓guardT_ft, ↓guardT_ff, ↓condT_t, ↓condT_f]
              repeat apply Exists.intro
              rfl
            · have hil : i = kn.length := by omega
              subst hil hQ
              simp only [go_sem, ↓reduceIte, ↓guardT_tt, ↓guardT_tf, ↓guardT_ft, ↓guardT_ff, ↓condT_t, ↓condT_f, Int.ofNat_lt, hlt, awake_r]
          · refine ⟨by omega, ?_⟩
            simp only [go_sem, ↓reduceIte, ↓guardT_tt, ↓guardT_tf, ↓guardT_ft, ↓guardT_ff, ↓condT_t, ↓condT_f]
            repeat apply Exists.intro
            rfl
      · refine (restrict_no f hf h ks).ruleM (fun h' hh => ?_)
        obtain ⟨o, rfl⟩ := drop5 hh
        simp only [go_sem, ↓reduceIte, ↓guardT_tt, ↓guardT_tf, ↓guardT_ft, ↓guardT_ff, ↓condT_t, ↓condT_f, eF_noFam, awake_r]
end Go.Mw

/- Small or not, for families of any size: a family that is small has small parts. -/
namespace Go.Mw
set_option linter.unusedVariables false
set_option linter.unusedSimpArgs false
set_option maxRecDepth 100000
structure PBig (p : Plan) : Prop where
  a : p.A.length ≤ 140737488355328
  x : p.X.length ≤ 140737488355328
  y : ∀ i < p.X.length, p.X[i]!.length ≤ 140737488355328
structure FBig (f : Fam) : Prop where
  a : f.acts.length ≤ 140737488355328
  s : f.S.length ≤ 140737488355328
  p : ∀ i < f.S.length, PBig f.S[i]!
theorem FnP.flatB {f : FuncId} {xs : List AV} {P : Prop} (h : FnP G f xs fun rs h => ∃ v, packV (treeBL 0 h rs) = Bo v ∧ (v = true → P) ∧ rs.all AV.flats = true) : ∃ v, FnT G f xs (Bo v) ∧ (v = true → P) := by
  obtain ⟨F, n, rs, σ1, hf, h1, h2, h3, h4, hr, v, hR, hP, hfl⟩ := h
  exact ⟨v, ⟨F, n, rs, σ1, hf, h1, h2, h3, h4, hr, hR, hfl⟩, hP⟩
theorem bo_exB {b : Bool} {P : Prop} : (∃ v, AV.bool b = Bo v ∧ (v = true → P)) = (b = true → P) := by
  apply propext; constructor
  · rintro ⟨v, hv, h⟩; cases hv; exact h
  · intro h; exact ⟨b, rfl, h⟩
/-- parts that are counted in 'c' -/
def Counted (f : Fam) (i : Nat) (c : Int) : Prop := (f.acts.length : Int) ≤ c ∧ (f.S.length : Int) ≤ c ∧ ∀ j < i, (f.S[j]!.A.length : Int) ≤ c ∧ (f.S[j]!.X.length : Int) ≤ c ∧ ∀ m < f.S[j]!.X.length, (f.S[j]!.X[m]!.length : Int) ≤ c
theorem Counted.mono {f : Fam} {i : Nat} {c d : Int} (h : Counted f i c) (hd : c ≤ d) : Counted f i d :=
  ⟨by have := h.1; omega, by have := h.2.1; omega, fun j hj => ⟨by have := (h.2.2 j hj).1; omega, by have := (h.2.2 j hj).2.1; omega, fun m hm => by have := (h.2.2 j hj).2.2 m hm; omega⟩⟩
theorem Counted.sz {f : Fam} {c : Int} (h : Counted f f.S.length c) (hc : c ≤ 1000) : FSz f :=
  ⟨by have := h.1; omega, by have := h.2.1; omega, fun j hj => ⟨by have := (h.2.2 j hj).1; omega, by have := (h.2.2 j hj).2.1; omega, fun m hm => by have := (h.2.2 j hj).2.2 m hm; omega⟩⟩
theorem few_big (f : Fam) (hf : FBig f) : ∃ v, FnT G f_makeweightref16_Few [eF f, I 1000] (Bo v) ∧ (v = true → FSz f) := by
  refine FnP.flatB (FnP.mk' g_makeweightref16_Few rfl rfl ?_)
  have ha := hf.a
  have hS := hf.s
  have w0 : IntKind.i64.wrap ((f.acts.length : Int) + f.S.length) = (f.acts.length : Int) + f.S.length := by rw [wrapI] <;> omega
  have ws : ∀ {i n : Nat}, i < n → n ≤ 140737488355328 → IntKind.i64.wrap ((i : Int) + 1) = ((i + 1 : Nat) : Int) := fun h hn => by rw [wrapI] <;> omega
  simp only [go_sem, ↓reduceIte, ↓guardT_tt, ↓guardT_tf, ↓guardT_ft, ↓guardT_ff, ↓condT_t, ↓condT_f, c_makeweightref16_Few, eF, w0]
  refine wp_loopQ (fun (i : Nat) σ => i ≤ f.S.length ∧ ∃ c : Int, 0 ≤ c ∧ c ≤ 562949953421312 ∧ (c ≤ 1000 → Counted f i c) ∧ σ = ⟨aT .undef 75 [(1, I 1000), (2, .ptr 0 1 [] 0 0 0), (5, I c), (6, I i)], [⟨1, 0, .own 3 [.agg [.lst (f.acts.map .str), I f.P, .lst (f.S.map eP)]]⟩], []⟩) (fun i => f.S.length - i) ?_ 0 ?_
  · rintro i σ ⟨hi, c, hc0, hc1, hcnt, rfl⟩ N Q hQ hN
    by_cases hlt : i < f.S.length
    · obtain ⟨g1, g2, g3⟩ := hf.p i hlt
      simp only [go_sem, ↓reduceIte, ↓guardT_tt, ↓guardT_tf, ↓guardT_ft, ↓guardT_ff, ↓condT_t, ↓condT_f, eP, Int.ofNat_lt, hlt]
      by_cases hc : c ≤ 1000
      · have hcnt := hcnt hc
        have w1 : IntKind.i64.wrap ((f.S[i]!.A.length : Int) + f.S[i]!.X.length) = (f.S[i]!.A.length : Int) + f.S[i]!.X.length := by rw [wrapI] <;> omega
        have w2 : IntKind.i64.wrap (c + ((f.S[i]!.A.length : Int) + f.S[i]!.X.length)) = c + ((f.S[i]!.A.length : Int) + f.S[i]!.X.length) := by rw [wrapI] <;> omega
        simp only [go_sem, ↓reduceIte, ↓guardT_tt, ↓guardT_tf, ↓guardT_ft, ↓guardT_ff, ↓condT_t, ↓condT_f, hc, w1, w2]
        refine wp_loopQ (fun (j : Nat) σ => j ≤ f.S[i]!.X.length ∧ ∃ c : Int, 0 ≤ c ∧ c ≤ 562949953421312 ∧ Counted f i c ∧ ((f.S[i]!.A.length : Int) ≤ c ∧ (f.S[i]!.X.length : Int) ≤ c ∧ ∀ m < j, (f.S[i]!.X[m]!.length : Int) ≤ c) ∧ σ = ⟨aT .undef 75 [(1, I 1000), (2, .ptr 0 1 [] 0 0 0), (5, I c), (6, I i), (7, I j)], [⟨1, 0, .own 3 [.agg [.lst (f.acts.map .str), I f.P, .lst (f.S.map eP)]]⟩], []⟩) (fun j => f.S[i]!.X.length - j) ?_ 0 ?_
        · rintro j σ ⟨hj, c, hc0, hc1, hcnt, ⟨q1, q2, q3⟩, rfl⟩ N2 Q2 hQ2 hN2
          by_cases hlt2 : j < f.S[i]!.X.length
          · have g4 := g3 j hlt2
            simp only [go_sem, ↓reduceIte, ↓guardT_tt, ↓guardT_tf, ↓guardT_ft, ↓guardT_ff, ↓condT_t, ↓condT_f, eP, eCs, Int.ofNat_lt, hlt, hlt2]
            by_cases hc2 : c ≤ 1000
            · have w3 : IntKind.i64.wrap (c + (f.S[i]!.X[j]!.length : Int)) = c + (f.S[i]!.X[j]!.length : Int) := by rw [wrapI] <;> omega
              simp only [go_sem, ↓reduceIte, ↓guardT_tt, ↓guardT_tf, ↓guardT_ft, ↓guardT_ff, ↓condT_t, ↓condT_f, eCs, hc2, w3, hlt, hlt2, ws hlt2 g2]
              refine hN2 (j + 1) _ (by omega) ⟨by omega, c + f.S[i]!.X[j]!.length, by omega, by omega, hcnt.mono (by omega), ⟨by omega, by omega, forall_lt_succ (fun m hm => by have := q3 m hm; omega) (by omega)⟩, ?_⟩
              simp only [go_sem, ↓reduceIte, ↓guardT_tt, ↓guardT_tf, ↓guardT_ft, ↓guardT_ff, ↓condT_t, ↓condT_f]
            · -- more than enough: the end is near
              simp only [go_sem, ↓reduceIte, ↓guardT_tt, ↓guardT_tf, ↓guardT_ft, ↓guardT_ff, ↓condT_t, ↓condT_f, hc2]
              subst hQ2
              simp only [go_sem, ↓reduceIte, ↓guardT_tt, ↓guardT_tf, ↓guardT_ft, ↓guardT_ff, ↓condT_t, ↓condT_f, ws hlt hS]
              refine hN (i + 1) _ (by omega) ⟨by omega, c, hc0, hc1, fun h => absurd h hc2, ?_⟩
              simp only [go_sem, ↓reduceIte, ↓guardT_tt, ↓guardT_tf, ↓guardT_ft, ↓guardT_ff, ↓condT_t, ↓condT_f]
          · simp only [go_sem, ↓reduceIte, ↓guardT_tt, ↓guardT_tf, ↓guardT_ft, ↓guardT_ff, ↓condT_t, ↓condT_f, eP, eCs, Int.ofNat_lt, hlt, hlt2]
            subst hQ2
            simp only [go_sem, ↓reduceIte, ↓guardT_tt, ↓guardT_tf, ↓guardT_ft, ↓guardT_ff, ↓condT_t, ↓condT_f, ws hlt hS]
            refine hN (i + 1) _ (by omega) ⟨by omega, c, hc0, hc1, fun _ => ⟨hcnt.1, hcnt.2.1, forall_lt_succ hcnt.2.2 ⟨q1, q2, fun m hm => q3 m (by omega)⟩⟩, ?_⟩
            simp only [go_sem, ↓reduceIte, ↓guardT_tt, ↓guardT_tf, ↓guardT_ft, ↓guardT_ff, ↓condT_t, ↓condT_f]
        · refine ⟨by omega, c + (f.S[i]!.A.length + f.S[i]!.X.length), by omega, by omega, hcnt.mono (by omega), ⟨by omega, by omega, fun m hm => absurd hm (by omega)⟩, ?_⟩
          simp only [go_sem, ↓reduceIte, ↓guardT_tt, ↓guardT_tf, ↓guardT_ft, ↓guardT_ff, ↓condT_t, ↓condT_f]
      · simp only [go_sem, ↓reduceIte, ↓guardT_tt, ↓guardT_tf, ↓guardT_ft, ↓guardT_ff, ↓condT_t, ↓condT_f, hc]
        subst hQ
        simp only [go_sem, ↓reduceIte, ↓guardT_tt, ↓guardT_tf, ↓guardT_ft, ↓guardT_ff, ↓condT_t, ↓condT_f, bo_exB, hc]
    · subst hQ
      have hil : i = f.S.length := by omega
      subst hil
      simp only [go_sem, ↓reduceIte, ↓guardT_tt, ↓guardT_tf, ↓guardT_ft, ↓guardT_ff, ↓condT_t, ↓condT_f, Int.ofNat_lt, hlt, bo_exB, decide_eq_true_eq]
      exact fun h => (hcnt h).sz h
  · refine ⟨by omega, f.acts.length + f.S.length, by omega, by omega, fun _ => ⟨by omega, by omega, fun j hj => absurd hj (by omega)⟩, ?_⟩
    simp only [go_sem, ↓reduceIte, ↓guardT_tt, ↓guardT_tf, ↓guardT_ft, ↓guardT_ff, ↓condT_t, ↓condT_f]
theorem light_big (f : Fam) (hf : FBig f) : ∃ v, FnT G f_makeweightlaw16_light [eF f] (Bo v) ∧ (v = true → FSz f) := by
  obtain ⟨v, hv, hP⟩ := few_big f hf
  have hcall : ∀ {fr : Bool} {roots : List Nat} {b : Nat} {ss : List Nat} {σ : St} {k : AV → St → Prop}, callT G f_makeweightref16_Few [.agg [.lst (f.acts.map .str), I f.P, .lst (f.S.map eP)], .int .i64 1000] fr roots b ss σ k = k (Bo v) σ := hv.rule
  refine FnP.flatB (FnP.mk' g_makeweightlaw16_light rfl rfl ?_)
  simp only [go_sem, ↓reduceIte, ↓guardT_tt, ↓guardT_tf, ↓guardT_ft, ↓guardT_ff, ↓condT_t, ↓condT_f, c_makeweightlaw16_light, eF]
  by_cases h : (f.S.length : Int) ≤ 20
  · simp only [go_sem, ↓reduceIte, ↓guardT_tt, ↓guardT_tf, ↓guardT_ft, ↓guardT_ff, ↓condT_t, ↓condT_f, h, hcall, bo_exB]
    exact hP
  · simp only [go_sem, ↓reduceIte, ↓guardT_tt, ↓guardT_tf, ↓guardT_ft, ↓guardT_ff, ↓condT_t, ↓condT_f, h, bo_exB]
theorem familyProducts_big (f : Fam) (hf : FBig f) (n : Int) : FnT G f_makeweightlaw16_FamilyProducts [eF f, I n] (Bo true) := by
  obtain ⟨v, hv, hP⟩ := light_big f hf
  cases v with
  | true => exact familyProducts_ok f (hP rfl) n
  | false =>
    have hlight : ∀ {fr : Bool} {roots : List Nat} {b : Nat} {ss : List Nat} {σ : St} {k : AV → St → Prop}, callT G f_makeweightlaw16_light [.agg [.lst (f.acts.map .str), I f.P, .lst (f.S.map eP)]] fr roots b ss σ k = k (Bo false) σ := hv.rule
    refine FnP.mk' g_makeweightlaw16_FamilyProducts rfl rfl ?_
    simp only [go_sem, ↓reduceIte, ↓guardT_tt, ↓guardT_tf, ↓guardT_ft, ↓guardT_ff, ↓condT_t, ↓condT_f, c_makeweightlaw16_FamilyProducts, eF, hlight, awake_r]
theorem familyRestricts_big (f : Fam) (hf : FBig f) (ks : List Int) : FnT G f_makeweightlaw16_FamilyRestricts [eF f, .lst (ks.map I)] (Bo true) := by
  obtain ⟨v, hv, hP⟩ := light_big f hf
  have hlight : ∀ {fr : Bool} {roots : List Nat} {b : Nat} {ss : List Nat} {σ : St} {k : AV → St → Prop}, callT G f_makeweightlaw16_light [.agg [.lst (f.acts.map .str), I f.P, .lst (f.S.map eP)]] fr roots b ss σ k = k (Bo v) σ := hv.rule
  cases v with
  | true =>
    by_cases h100 : (100 : Int) < ks.length
    · refine FnP.mk' g_makeweightlaw16_FamilyRestricts rfl rfl ?_
      simp only [go_sem, ↓reduceIte, ↓guardT_tt, ↓guardT_tf, ↓guardT_ft, ↓guardT_ff, ↓condT_t, ↓condT_f, c_makeweightlaw16_FamilyRestricts, eF, hlight, awake_r, h100]
    · exact familyRestricts_ok f (hP rfl) ks (by omega)
  | false =>
    refine FnP.mk' g_makeweightlaw16_FamilyRestricts rfl rfl ?_
    simp only [go_sem, ↓reduceIte, ↓guardT_tt, ↓guardT_tf, ↓guardT_ft, ↓guardT_ff, ↓condT_t, ↓condT_f, c_makeweightlaw16_FamilyRestricts, eF, hlight, awake_r]
theorem familyParts_big (f : Fam) (hf : FBig f) (ks : List Int) : FnT G f_makeweightlaw16_FamilyParts [eF f, .lst (ks.map I)] (Bo true) := by
  obtain ⟨v, hv, hP⟩ := light_big f hf
  have hlight : ∀ {fr : Bool} {roots : List Nat} {b : Nat} {ss : List Nat} {σ : St} {k : AV → St → Prop}, callT G f_makeweightlaw16_light [.agg [.lst (f.acts.map .str), I f.P, .lst (f.S.map eP)]] fr roots b ss σ k = k (Bo v) σ := hv.rule
  cases v with
  | true =>
    by_cases h100 : (100 : Int) < ks.length
    · refine FnP.mk' g_makeweightlaw16_FamilyParts rfl rfl ?_
      simp only [go_sem, ↓reduceIte, ↓guardT_tt, ↓guardT_tf, ↓guardT_ft, ↓guardT_ff, ↓condT_t, ↓condT_f, c_makeweightlaw16_FamilyParts, eF, hlight, awake_r, h100]
    · exact familyParts_ok f (hP rfl) ks (by omega)
  | false =>
    refine FnP.mk' g_makeweightlaw16_FamilyParts rfl rfl ?_
    simp only [go_sem, ↓reduceIte, ↓guardT_tt, ↓guardT_tf, ↓guardT_ft, ↓guardT_ff, ↓condT_t, ↓condT_f, c_makeweightlaw16_FamilyParts, eF, hlight, awake_r]
end Go.Mw
