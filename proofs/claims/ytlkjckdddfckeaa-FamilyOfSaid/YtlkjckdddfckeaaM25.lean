/- family.Of on arguments that are in order. -/
import Derived.Test.YtlkjckdddfckeaaM24
set_option linter.unusedVariables false
set_option linter.unusedSimpArgs false
namespace Go.Mw
set_option maxRecDepth 100000
theorem ncell_at' {T : List Spc} {p i j : Nat} (h : i = 0) : ncell T p i j j = cellv .nils 2 ((nxtL T j p).map eC) := by subst h; exact ncell_at
theorem Stt_spc {acts : List ByteArray} {L : List Spc} (hE : ofE acts L = 0) {p : Nat} (hp : p < L.length) : TSpc (tOf L)[p]! ∧ SpcOk (tOf L)[p]! ∧ (tOf L)[p]!.acts = acts := by
 obtain ⟨_, _, h4, h5⟩ := ofE_zero hE
 rw [tOf_get hp]
 obtain ⟨g1, g2⟩ := trimA_ok (h4 p hp)
 exact ⟨g1, g1.ok, g2.trans (h5 p hp)⟩
theorem zeros_plain {n : Nat} : allPlain (zeros n) = True := by
 simp only [allPlain, zeros, eq_iff_iff, iff_true, List.all_eq_true]
 intro x hx; rw [List.eq_of_mem_replicate hx]; rfl
theorem zeros_len {n : Nat} : (zeros n).length = n := by simp [zeros]
open Classical in
theorem of_good (acts : List ByteArray) (L : List Spc) (hs : ∀ i < L.length, SpSz L[i]! ∧ SpI L[i]!) (hE : ofE acts L = 0) : Fn G f_family_Of [.lst (acts.map .str), .lst (L.map eSp)] (.tup [eF (ofA acts L).1, I (ofA acts L).2]) := by
 obtain ⟨hA, ⟨hn1, hn2⟩, hok, hac⟩ := ofE_zero hE
 have hk8 := actsOk_len hA
 have hc1 : ∀ {fr : Bool} {roots : List Nat} {b : Nat} {ss : List Nat} {σ : St} {k : AV → St → Prop}, callT G f_slices_ContainsFuncZaiScai [.lst (L.map eSp), .fn f_family_Of_1 []] fr roots b ss σ k = k (Bo (L.any fun s => !decide (SpcOk s))) σ :=
  (containsSp_ok L (by omega) f_family_Of_1 [] _ pure_family_Of_1 (fun h => rfl) (fun i hi => of1_ok _ (hs i hi).1 (hs i hi).2)).rule
 have hc2 : ∀ {fr : Bool} {roots : List Nat} {b : Nat} {ss : List Nat} {σ : St} {k : AV → St → Prop}, callT G f_slices_ContainsFuncZaiScai [.lst (L.map eSp), .fn f_family_Of_2 [.pfro [.lst (acts.map .str)]]] fr roots b ss σ k = k (Bo (L.any fun s => !decide (s.acts = acts))) σ :=
  (containsSp_ok L (by omega) f_family_Of_2 _ _ pure_family_Of_2 (fun h => rfl) (fun i hi => of2_ok acts (by omega) _ (hs i hi).1)).rule
 have a1 : (L.any fun s => !decide (SpcOk s)) = false := by
  refine List.any_eq_false.2 fun x hx => ?_
  obtain ⟨j, hj, e⟩ := getAt hx
  have := hok j hj
  rw [e] at this; simp [this]
 have a2 : (L.any fun s => !decide (s.acts = acts)) = false := by
  refine List.any_eq_false.2 fun x hx => ?_
  obtain ⟨j, hj, e⟩ := getAt hx
  have := hac j hj
  rw [e] at this; simp [this]
 rw [a1] at hc1
 rw [a2] at hc2
 have h1 : ¬ (L.length : Int) < 1 := by omega
 have h2 : ¬ (32 : Int) < L.length := by omega
 refine FnP.mk' g_family_Of rfl rfl ?_
 simp only [go_sem, ↓reduceIte, ↓gA, ↓gB, ↓gC, ↓gD, ↓cA, ↓cB, c_family_Of, acts_r (show acts.length ≤ 1048576 by omega), hc1, hc2, hA, h1, h2, clone_r (show acts.length ≤ 1048576 by omega), zeros_plain, zeros_len]
 have hT : ∀ p < L.length, TSpc (tOf L)[p]! ∧ SpcOk (tOf L)[p]! ∧ (tOf L)[p]!.acts = acts := fun p hp => Stt_spc hE hp
 have hTl : (tOf L).length = L.length := tOf_len
 have hTg : ∀ p < L.length, (trimA L[p]!).1 = (tOf L)[p]! := fun p hp => by rw [tOf_get hp]
 generalize hTe : tOf L = T at *
 refine ⟨by omega, ?_⟩
 refine wp_loopQ (fun (p : Nat) σ => p ≤ L.length ∧ offL T p ≤ 500 ∧ ∃ z z5 a6 c6 a7 c7 a8 c8 a9 c9 a10 c10 a11 c11 a12 c12 a13 c13 a14 c14 a15 c15 a16 c16 a17 c17 a18 c18, σ = ⟨aT .undef 202 [(2, .ptr 0 1 [] 0 0 0), (4, .ptr 1 1 [] 0 0 0), (6, .ptr 4 1 [] 0 0 0), (7, .ptr 5 1 [] 0 0 0), (59, .lst (L.map eSp)), (60, I L.length), (61, I p)], [⟨1, 0, .own 1 [.lst (acts.map .str)]⟩, ⟨1, 0, .own 3 [.agg [.nils, I 0, .nils]]⟩, ⟨1, 0, .gone⟩, ⟨1, 0, .gone⟩, ⟨1, z, .own 3 [.agg [.lst (acts.map .str), I L.length, .own 2 (.agg [.nils, .own 1 ((List.range acts.length).map (ncell T p 0 0))] :: (blocksL T p).map rP)]]⟩, ⟨1, z5, .own 256 [.agg (r256.map (scell T p 0))]⟩, ⟨a6, c6, .gone⟩, ⟨a7, c7, .gone⟩, ⟨a8, c8, .gone⟩, ⟨a9, c9, .gone⟩, ⟨a10, c10, .gone⟩, ⟨a11, c11, .gone⟩, ⟨a12, c12, .gone⟩, ⟨a13, c13, .gone⟩, ⟨a14, c14, .gone⟩, ⟨a15, c15, .gone⟩, ⟨a16, c16, .gone⟩, ⟨a17, c17, .gone⟩, ⟨a18, c18, .gone⟩, ⟨0, 0, .gone⟩, ⟨0, 0, .gone⟩], []⟩) (fun p => L.length - p) ?_ 0 ?_
 ·rintro p σ ⟨hp, hoff, z, z5, a6, c6, a7, c7, a8, c8, a9, c9, a10, c10, a11, c11, a12, c12, a13, c13, a14, c14, a15, c15, a16, c16, a17, c17, a18, c18, rfl⟩ N Q hQ hN
  by_cases hlt : p < L.length
  ·obtain ⟨hts, hto, hta⟩ := hT p hlt
   have hbl := @blocksL_len T p
   have hto1 := hto.s1
   have hto2 := hto.s2
   have e1 : ((offL T (p + 1) : Nat) : Int) = (offL T p : Int) + (T[p]!.S.length : Int) := by simp only [offL]; omega
   have w1 : IntKind.i64.wrap ((offL T p : Int) + (T[p]!.S.length : Int)) = ((offL T (p + 1) : Nat) : Int) := by
    rw [wrapI] <;> omega
   have hz0 := hto.st 0 (by omega)
   rw [hta] at hz0
   have hp31 : p ≤ 31 := by omega
   simp only [go_sem, ↓reduceIte, ↓gA, ↓gB, ↓gC, ↓gD, ↓cA, ↓cB, eSp, eSt, wrap_succ hlt (by omega), Int.ofNat_lt, hlt, trimmed_r (hok p hlt), hTg p hlt, hbl, w1]
   refine ⟨fun hbig => ?_, fun hsm => ⟨hto1, ?_⟩⟩
   ·subst hQ
    have ho : ¬ offL (tOf L) L.length ≤ 500 := by
     have := offL_mono (T := T) (show p + 1 ≤ L.length by omega)
     rw [hTe]; omega
    unfold ofA
    rw [if_pos hE, if_neg ho]
    rfl
   ·refine wp_loopQ (fun (j : Nat) σ => j ≤ T[p]!.S[0]!.A.length ∧ ∃ y5, σ = ⟨aT .undef 202 [(2, .ptr 0 1 [] 0 0 0), (4, .ptr 1 1 [] 0 0 0), (6, .ptr 4 1 [] 0 0 0), (7, .ptr 5 1 [] 0 0 0), (8, I p), (10, .ptr 7 (a7 + 1) [] 0 0 0), (12, I (offL T p)), (59, .lst (L.map eSp)), (60, I L.length), (61, I p), (85, .lst (T[p]!.S[0]!.A.map I)), (86, I T[p]!.S[0]!.A.length), (87, I j)], [⟨1, 0, .own 1 [.lst (acts.map .str)]⟩, ⟨1, 0, .own 3 [.agg [.nils, I 0, .nils]]⟩, ⟨1, 0, .gone⟩, ⟨1, 0, .gone⟩, ⟨1, z, .own 3 [.agg [.lst (acts.map .str), I L.length, .own 2 (.agg [.nils, .own 1 ((List.range acts.length).map (ncell T p 0 0))] :: (blocksL T p).map rP)]]⟩, ⟨1, y5, .own 256 [.agg (r256.map (scell T p j))]⟩, ⟨a6 + 1, 0, .own 2 [.agg [.lst (L[p]!.acts.map .str), .lst (L[p]!.S.map eSt)]]⟩, ⟨a7 + 1, 0, .own 2 [.agg [.lst (T[p]!.acts.map .str), .lst (T[p]!.S.map eSt)]]⟩, ⟨a8, c8, .gone⟩, ⟨a9, c9, .gone⟩, ⟨a10, c10, .gone⟩, ⟨a11, c11, .gone⟩, ⟨a12, c12, .gone⟩, ⟨a13, c13, .gone⟩, ⟨a14, c14, .gone⟩, ⟨a15, c15, .gone⟩, ⟨a16, c16, .gone⟩, ⟨a17, c17, .gone⟩, ⟨a18, c18, .gone⟩, ⟨0, 0, .gone⟩, ⟨0, 0, .gone⟩], []⟩) (fun j => T[p]!.S[0]!.A.length - j) ?_ 0 ?_
    ·rintro j σ ⟨hj, y5, rfl⟩ N2 Q2 hQ2 hN2
     by_cases hlt2 : j < T[p]!.S[0]!.A.length
     ·obtain ⟨v, hv, hv2⟩ : ∃ v : Nat, T[p]!.S[0]!.A[j]! = (v : Int) ∧ v < 256 := by
       have g := hz0.a j hlt2
       have g2 : (2 : Nat) ^ acts.length ≤ 256 := pow_le8 hk8
       exact ⟨T[p]!.S[0]!.A[j]!.toNat, by omega, by omega⟩
      have hsl := setN_lt (T := T) (p := p) (j := j) (v := v) (by omega)
      have hA500 : T[p]!.S[0]!.A.length ≤ 1000000000 := by
       have := rising_len hz0.a hz0.ris
       have g2 : (2 : Nat) ^ acts.length ≤ 256 := pow_le8 hk8
       omega
      simp only [go_sem, ↓reduceIte, ↓gA, ↓gB, ↓gC, ↓gD, ↓cA, ↓cB, wrap_succ hlt2 hA500, Int.ofNat_lt, hlt2, hv, hv2, Nat.mul_one, dt256 hv2, r256_len, r256_get hv2, scell, bshl_one (show p ≤ 62 by omega), bor_nat hsl (Nat.pow_lt_pow_right (show 1 < 2 by omega) (show p < 63 by omega))]
      refine ⟨by omega, by omega, by omega, by omega, hN2 (j + 1) _ (by omega) ⟨by omega, ?_⟩⟩
      simp only [go_sem, ↓reduceIte, ↓gA, ↓gB, ↓gC, ↓gD, ↓cA, ↓cB, scell_set hlt2 hv]
      exact ⟨_, rfl⟩
     ·have hjl : j = T[p]!.S[0]!.A.length := by omega
      subst hjl hQ2
      simp only [go_sem, ↓reduceIte, ↓gA, ↓gB, ↓gC, ↓gD, ↓cA, ↓cB, Int.ofNat_lt, hlt2, scell_end]
      refine wp_loopQ (fun (i : Nat) σ => i ≤ T[p]!.S.length ∧ ∃ y a8 c8 a9 c9 a10 c10 a11 c11 a12 c12 a13 c13 a14 c14 a15 c15 a16 c16 a17 c17 a18 c18, σ = ⟨aT .undef 202 [(2, .ptr 0 1 [] 0 0 0), (4, .ptr 1 1 [] 0 0 0), (6, .ptr 4 1 [] 0 0 0), (7, .ptr 5 1 [] 0 0 0), (8, I p), (12, I (offL T p)), (59, .lst (L.map eSp)), (60, I L.length), (61, I p), (100, .lst (T[p]!.S.map eSt)), (101, I T[p]!.S.length), (102, I i)], [⟨1, 0, .own 1 [.lst (acts.map .str)]⟩, ⟨1, 0, .own 3 [.agg [.nils, I 0, .nils]]⟩, ⟨1, 0, .gone⟩, ⟨1, 0, .gone⟩, ⟨1, y, .own 3 [.agg [.lst (acts.map .str), I L.length, .own 2 (.agg [.nils, .own 1 ((List.range acts.length).map (ncell T p i 0))] :: ((blocksL T p).map rP ++ (T[p]!.S.take i).map fun x => rP (planP p (offL T p) x)))]]⟩, ⟨1, y5, .own 256 [.agg (r256.map (scell T (p + 1) 0))]⟩, ⟨a6 + 1, 0, .own 2 [.agg [.lst (L[p]!.acts.map .str), .lst (L[p]!.S.map eSt)]]⟩, ⟨a7 + 1, 0, .own 2 [.agg [.lst (T[p]!.acts.map .str), .lst (T[p]!.S.map eSt)]]⟩, ⟨a8, c8, .gone⟩, ⟨a9, c9, .gone⟩, ⟨a10, c10, .gone⟩, ⟨a11, c11, .gone⟩, ⟨a12, c12, .gone⟩, ⟨a13, c13, .gone⟩, ⟨a14, c14, .gone⟩, ⟨a15, c15, .gone⟩, ⟨a16, c16, .gone⟩, ⟨a17, c17, .gone⟩, ⟨a18, c18, .gone⟩, ⟨0, 0, .gone⟩, ⟨0, 0, .gone⟩], []⟩) (fun i => T[p]!.S.length - i) ?_ 0 ?_
      ·rintro i σ ⟨hi, y, a8, c8, a9, c9, a10, c10, a11, c11, a12, c12, a13, c13, a14, c14, a15, c15, a16, c16, a17, c17, a18, c18, rfl⟩ N3 Q3 hQ3 hN3
       by_cases hlt3 : i < T[p]!.S.length
       ·have hzi := hto.st i hlt3
        rw [hta] at hzi
        simp only [go_sem, ↓reduceIte, ↓gA, ↓gB, ↓gC, ↓gD, ↓cA, ↓cB, eSt, wrap_succ hlt3 (by omega), Int.ofNat_lt, hlt3]
        generalize hx : T[p]!.S[i]! = x at *
        have hxl := hzi.len
        have hxA : x.A.length ≤ 256 := by
         have := rising_len hzi.a hzi.ris
         have g2 : (2 : Nat) ^ acts.length ≤ 256 := pow_le8 hk8
         omega
        refine ⟨by omega, ?_⟩
        refine wp_loopQ (fun (j : Nat) σ => j ≤ x.A.length ∧ ∃ y10 a11 c11 a12 c12, σ = ⟨aT .undef 202 [(2, .ptr 0 1 [] 0 0 0), (4, .ptr 1 1 [] 0 0 0), (6, .ptr 4 1 [] 0 0 0), (7, .ptr 5 1 [] 0 0 0), (8, I p), (12, I (offL T p)), (15, I i), (16, .ptr 8 (a8 + 1) [] 0 0 0), (17, .ptr 10 (a10 + 1) [] 0 0 0), (59, .lst (L.map eSp)), (60, I L.length), (61, I p), (100, .lst (T[p]!.S.map eSt)), (101, I T[p]!.S.length), (102, I i), (112, .lst (x.A.map I)), (113, I x.A.length), (114, I j)], [⟨1, 0, .own 1 [.lst (acts.map .str)]⟩, ⟨1, 0, .own 3 [.agg [.nils, I 0, .nils]]⟩, ⟨1, 0, .gone⟩, ⟨1, 0, .gone⟩, ⟨1, y, .own 3 [.agg [.lst (acts.map .str), I L.length, .own 2 (.agg [.nils, .own 1 ((List.range acts.length).map (ncell T p i 0))] :: ((blocksL T p).map rP ++ (T[p]!.S.take i).map fun x => rP (planP p (offL T p) x)))]]⟩, ⟨1, y5, .own 256 [.agg (r256.map (scell T (p + 1) 0))]⟩, ⟨a6 + 1, 0, .own 2 [.agg [.lst (L[p]!.acts.map .str), .lst (L[p]!.S.map eSt)]]⟩, ⟨a7 + 1, 0, .own 2 [.agg [.lst (T[p]!.acts.map .str), .lst (T[p]!.S.map eSt)]]⟩, ⟨a8 + 1, 0, .own 2 [.agg [.lst (x.A.map I), .lst (x.X.map I)]]⟩, ⟨a9 + 1, 0, .gone⟩, ⟨a10 + 1, y10, .own 2 [.agg [cellv .nils 2 ((x.A.take j).map fun v => .agg [I v, I (twoP p)]), .own 1 ((List.range acts.length).map (ycell p (offL T p) x 0))]]⟩, ⟨a11, c11, .gone⟩, ⟨a12, c12, .gone⟩, ⟨a13, c13, .gone⟩, ⟨a14, c14, .gone⟩, ⟨a15, c15, .gone⟩, ⟨a16, c16, .gone⟩, ⟨a17, c17, .gone⟩, ⟨a18, c18, .gone⟩, ⟨0, 0, .gone⟩, ⟨0, 0, .gone⟩], []⟩) (fun j => x.A.length - j) ?_ 0 ?_
        ·rintro j σ ⟨hj, y10, a11, c11, a12, c12, rfl⟩ N4 Q4 hQ4 hN4
         by_cases hlt4 : j < x.A.length
         ·simp only [go_sem, ↓reduceIte, ↓gA, ↓gB, ↓gC, ↓gD, ↓cA, ↓cB, wrap_succ hlt4 (show x.A.length ≤ 1000000000 by omega), Int.ofNat_lt, hlt4, bshl_one (show p ≤ 62 by omega)]
          refine ⟨by rw [List.length_take]; omega, hN4 (j + 1) _ (by omega) ⟨by omega, ?_⟩⟩
          simp only [go_sem, ↓reduceIte, ↓gA, ↓gB, ↓gC, ↓gD, ↓cA, ↓cB, take_succ_map _ hlt4]
          exact ⟨_, _, _, _, _, rfl⟩
         ·have hjl : j = x.A.length := by omega
          subst hjl hQ4
          simp only [go_sem, ↓reduceIte, ↓gA, ↓gB, ↓gC, ↓gD, ↓cA, ↓cB, Int.ofNat_lt, hlt4, List.take_length]
          refine wp_loopQ (fun (j : Nat) σ => j ≤ x.X.length ∧ ∃ yo yy a13 c13 a14 c14 a15 c15 a16 c16, σ = ⟨aT .undef 202 [(2, .ptr 0 1 [] 0 0 0), (4, .ptr 1 1 [] 0 0 0), (6, .ptr 4 1 [] 0 0 0), (7, .ptr 5 1 [] 0 0 0), (8, I p), (12, I (offL T p)), (15, I i), (17, .ptr 10 (a10 + 1) [] 0 0 0), (59, .lst (L.map eSp)), (60, I L.length), (61, I p), (100, .lst (T[p]!.S.map eSt)), (101, I T[p]!.S.length), (102, I i), (129, .lst (x.X.map I)), (130, I x.X.length), (131, I j)], [⟨1, 0, .own 1 [.lst (acts.map .str)]⟩, ⟨1, 0, .own 3 [.agg [.nils, I 0, .nils]]⟩, ⟨1, 0, .gone⟩, ⟨1, 0, .gone⟩, ⟨1, yo, .own 3 [.agg [.lst (acts.map .str), I L.length, .own 2 (.agg [.nils, .own 1 ((List.range acts.length).map (ncell T p i j))] :: ((blocksL T p).map rP ++ (T[p]!.S.take i).map fun x => rP (planP p (offL T p) x)))]]⟩, ⟨1, y5, .own 256 [.agg (r256.map (scell T (p + 1) 0))]⟩, ⟨a6 + 1, 0, .own 2 [.agg [.lst (L[p]!.acts.map .str), .lst (L[p]!.S.map eSt)]]⟩, ⟨a7 + 1, 0, .own 2 [.agg [.lst (T[p]!.acts.map .str), .lst (T[p]!.S.map eSt)]]⟩, ⟨a8 + 1, 0, .own 2 [.agg [.lst (x.A.map I), .lst (x.X.map I)]]⟩, ⟨a9 + 1, 0, .gone⟩, ⟨a10 + 1, yy, .own 2 [.agg [cellv .nils 2 (x.A.map fun v => .agg [I v, I (twoP p)]), .own 1 ((List.range acts.length).map (ycell p (offL T p) x j))]]⟩, ⟨a11, c11, .gone⟩, ⟨a12, c12, .gone⟩, ⟨a13, c13, .gone⟩, ⟨a14, c14, .gone⟩, ⟨a15, c15, .gone⟩, ⟨a16, c16, .gone⟩, ⟨a17, c17, .gone⟩, ⟨a18, c18, .gone⟩, ⟨0, 0, .gone⟩, ⟨0, 0, .gone⟩], []⟩) (fun j => x.X.length - j) ?_ 0 ?_
          ·rintro j σ ⟨hj, yo, yy, a13, c13, a14, c14, a15, c15, a16, c16, rfl⟩ N5 Q5 hQ5 hN5
           by_cases hlt5 : j < x.X.length
           ·have hjk : j < acts.length := by omega
            have hxj := hzi.x j hjk
            by_cases h0 : x.X[j]! < 0
            ·simp only [go_sem, ↓reduceIte, ↓gA, ↓gB, ↓gC, ↓gD, ↓cA, ↓cB, wrap_succ hlt5 (show x.X.length ≤ 1000000000 by omega), Int.ofNat_lt, hlt5, h0]
             refine hN5 (j + 1) _ (by omega) ⟨by omega, ?_⟩
             have hs : (List.range acts.length).map (ncell T p i j) = (List.range acts.length).map (ncell T p i (j + 1)) := by
              by_cases hi0 : i = 0
              ·exact ncell_skip (by rw [← hi0, hx]; exact h0)
              ·exact ncell_pos hi0
             simp only [go_sem, ↓reduceIte, ↓gA, ↓gB, ↓gC, ↓gD, ↓cA, ↓cB, hs, ycell_skip h0]
             exact ⟨_, _, _, _, _, _, _, _, _, _, rfl⟩
            ·have w2 : IntKind.i64.wrap ((offL T p : Int) + x.X[j]!) = (offL T p : Int) + x.X[j]! := by rw [wrapI] <;> omega
             by_cases hi0 : i = 0
             ·have hb : ((i : Int) == 0) = true := by rw [hi0]; rfl
              have hnl := @nxtL_len T j p
              simp only [go_sem, ↓reduceIte, ↓gA, ↓gB, ↓gC, ↓gD, ↓cA, ↓cB, wrap_succ hlt5 (show x.X.length ≤ 1000000000 by omega), Int.ofNat_lt, hlt5, h0, bshl_one (show p ≤ 62 by omega), List.length_range, hjk, rng_get hjk, ycell_at, hb, w2, ncell_at' hi0]
              have him : ∀ A : Prop, ¬ (¬ A → False) → ¬ A := fun A h1 h2 => h1 (fun h3 => h3 h2)
              refine ⟨by omega, by omega, by omega, him _, hN5 (j + 1) _ (by omega) ⟨by omega, ?_⟩⟩
              have hset : ((List.range acts.length).map (ncell T p i j)).set j (.own 2 ((nxtL T j p).map eC ++ [.agg [I ((offL T p : Int) + x.X[j]!), I (twoP p)]])) = (List.range acts.length).map (ncell T p i (j + 1)) := by
               rw [hi0] at hx ⊢
               have := ncell_set (T := T) (p := p) (k := acts.length) (j := j) (by rw [hx]; exact h0)
               rw [hx] at this
               exact this
              simp only [go_sem, ↓reduceIte, ↓gA, ↓gB, ↓gC, ↓gD, ↓cA, ↓cB, ycell_set h0, hset]
              exact ⟨_, _, _, _, _, _, _, _, _, _, rfl⟩
             ·have hb : ((i : Int) == 0) = false := by rw [beq_eq_false_iff_ne]; omega
              simp only [go_sem, ↓reduceIte, ↓gA, ↓gB, ↓gC, ↓gD, ↓cA, ↓cB, wrap_succ hlt5 (show x.X.length ≤ 1000000000 by omega), Int.ofNat_lt, hlt5, h0, bshl_one (show p ≤ 62 by omega), List.length_range, hjk, rng_get hjk, ycell_at, hb, w2]
              refine hN5 (j + 1) _ (by omega) ⟨by omega, ?_⟩
              simp only [go_sem, ↓reduceIte, ↓gA, ↓gB, ↓gC, ↓gD, ↓cA, ↓cB, ycell_set h0, ncell_pos (j := j) hi0]
              exact ⟨_, _, _, _, _, _, _, _, _, _, rfl⟩
           ·have hjl : j = x.X.length := by omega
            subst hjl hQ5
            have hrow : ((List.range acts.length).map (ycell p (offL T p) x x.X.length)) = (planP p (offL T p) x).X.map cC := by rw [← hxl]; exact ycell_end
            have hS1 : (blocksL T p).length + (T[p]!.S.take i).length + 1 ≤ 4294967295 := by rw [List.length_take]; omega
            have hnc : (List.range acts.length).map (ncell T p i x.X.length) = (List.range acts.length).map (ncell T p (i + 1) 0) := by rw [hxl]; exact ncell_next
            have hrows : (blocksL T p).map rP ++ (T[p]!.S.take (i + 1)).map (fun x => rP (planP p (offL T p) x)) = (blocksL T p).map rP ++ (T[p]!.S.take i).map (fun x => rP (planP p (offL T p) x)) ++ [.agg [cellv .nils 2 (x.A.map fun v => .agg [I v, I (twoP p)]), .own 1 ((planP p (offL T p) x).X.map cC)]] := by
             rw [take_succ_map _ hlt3, hx, List.append_assoc]
             simp only [rP, cC, ← acc_eq]
            simp only [go_sem, ↓reduceIte, ↓gA, ↓gB, ↓gC, ↓gD, ↓cA, ↓cB, Int.ofNat_lt, hlt5, hrow, hnc, wrap_succ hlt3 (show T[p]!.S.length ≤ 1000000000 by omega)]
            refine ⟨⟨by omega, rfl⟩, hN3 (i + 1) _ (by omega) ⟨by omega, ?_⟩⟩
            simp only [go_sem, ↓reduceIte, ↓gA, ↓gB, ↓gC, ↓gD, ↓cA, ↓cB, hrows]
            repeat apply Exists.intro
            rfl
          ·refine ⟨Nat.zero_le _, ?_⟩
           simp only [go_sem, ↓reduceIte, ↓gA, ↓gB, ↓gC, ↓gD, ↓cA, ↓cB]
           exact ⟨_, _, _, _, _, _, _, _, _, _, rfl⟩
        ·refine ⟨Nat.zero_le _, ?_⟩
         simp only [go_sem, ↓reduceIte, ↓gA, ↓gB, ↓gC, ↓gD, ↓cA, ↓cB, List.take_zero, ycell_zero (p := p) (off := offL T p) (x := x)]
         exact ⟨_, _, _, _, _, rfl⟩
       ·have hil : i = T[p]!.S.length := by omega
        subst hil hQ3
        have hrows : (blocksL T p).map rP ++ (T[p]!.S.take T[p]!.S.length).map (fun x => rP (planP p (offL T p) x)) = (blocksL T (p + 1)).map rP := by
         rw [List.take_length, blocksL, List.map_append, List.map_map]; rfl
        have hnc := ncell_end (T := T) (p := p) (k := acts.length) hto1
        simp only [go_sem, ↓reduceIte, ↓gA, ↓gB, ↓gC, ↓gD, ↓cA, ↓cB, Int.ofNat_lt, hlt3, hrows, hnc]
        refine hN (p + 1) _ (by omega) ⟨by omega, by omega, ?_⟩
        simp only [go_sem, ↓reduceIte, ↓gA, ↓gB, ↓gC, ↓gD, ↓cA, ↓cB, wrap_succ hlt (show L.length ≤ 1000000000 by omega)]
        repeat apply Exists.intro
        rfl
      ·refine ⟨Nat.zero_le _, ?_⟩
       simp only [go_sem, ↓reduceIte, ↓gA, ↓gB, ↓gC, ↓gD, ↓cA, ↓cB, List.take_zero]
       repeat apply Exists.intro
       rfl
    ·refine ⟨Nat.zero_le _, ?_⟩
     simp only [go_sem, ↓reduceIte, ↓gA, ↓gB, ↓gC, ↓gD, ↓cA, ↓cB]
     exact ⟨_, rfl⟩
  ·have hpl : p = L.length := by omega
   subst hpl hQ
   have hl256 : ∀ (r st : Nat) (p : Path) (ss i j : Nat) (q : List AV → Prop), outLK r st p ss i j (r256.map (scell T L.length 0)) q = q (r256.map (scell T L.length 0)) := fun _ _ _ _ _ _ _ => outLK_ints (f := fun v => (setN T L.length 0 v : Nat)) (l := r256)
   have hr : (r256.map (scell T L.length 0)).take 256 = r256.map (scell T L.length 0) := List.take_of_length_le (by rw [List.length_map, r256_len]; exact Nat.le_refl _)
   simp only [go_sem, ↓reduceIte, ↓gA, ↓gB, ↓gC, ↓gD, ↓cA, ↓cB, Int.ofNat_lt, hlt, r256_len, hr, hl256]
   refine wp_loopQ (fun (v : Nat) σ => v ≤ 256 ∧ ∃ u a19 c19 a20 c20, σ = ⟨aT .undef 202 [(4, .ptr 1 1 [] 0 0 0), (6, .ptr 4 1 [] 0 0 0), (179, .agg (r256.map (scell T L.length 0))), (180, I v)], [⟨1, 0, .own 1 [.lst (acts.map .str)]⟩, ⟨1, 0, .own 3 [.agg [.nils, I 0, .nils]]⟩, ⟨1, 0, .gone⟩, ⟨1, 0, .gone⟩, ⟨1, u, .own 3 [.agg [.lst (acts.map .str), I L.length, .own 2 (.agg [cellv .nils 2 ((accJ T L.length v).map eC), .own 1 ((List.range acts.length).map (ncell T L.length 0 0))] :: (blocksL T L.length).map rP)]]⟩, ⟨1, z5, .own 256 [.agg (r256.map (scell T L.length 0))]⟩, ⟨a6, c6, .gone⟩, ⟨a7, c7, .gone⟩, ⟨a8, c8, .gone⟩, ⟨a9, c9, .gone⟩, ⟨a10, c10, .gone⟩, ⟨a11, c11, .gone⟩, ⟨a12, c12, .gone⟩, ⟨a13, c13, .gone⟩, ⟨a14, c14, .gone⟩, ⟨a15, c15, .gone⟩, ⟨a16, c16, .gone⟩, ⟨a17, c17, .gone⟩, ⟨a18, c18, .gone⟩, ⟨a19, c19, .gone⟩, ⟨a20, c20, .gone⟩], []⟩) (fun v => 256 - v) ?_ 0 ?_
   ·rintro v σ ⟨hv, u, a19, c19, a20, c20, rfl⟩ N6 Q6 hQ6 hN6
    by_cases hlt6 : v < 256
    ·have hvI : (v : Int) < 256 := by omega
     have hal := accJ_len (T := T) (n := L.length) v
     have hw6 : IntKind.i64.wrap ((v : Int) + 1) = ((v + 1 : Nat) : Int) := by rw [wrapI] <;> omega
     have hbv : (((bitsN (hasS T v) L.length : Nat) : Int) != 0) = true → ¬ bitsN (hasS T v) L.length = 0 := fun h e => by rw [e] at h; simp at h
     have hbf : (((bitsN (hasS T v) L.length : Nat) : Int) != 0) = false → bitsN (hasS T v) L.length = 0 := fun h => by rw [bne_eq_false_iff_eq] at h; omega
     have him : ∀ A : Prop, ¬ (¬ A → False) → ¬ A := fun A h1 h2 => h1 (fun h3 => h3 h2)
     simp only [go_sem, ↓reduceIte, ↓gA, ↓gB, ↓gC, ↓gD, ↓cA, ↓cB, hvI, hlt6, r256_len, Nat.mul_one, r256_get hlt6, scell, setN_zero, hw6, Int.natCast_nonneg]
     refine ⟨by omega, fun hb => ⟨by omega, by omega, by omega, him _, hN6 (v + 1) _ (by omega) ⟨by omega, ?_⟩⟩, fun hb => hN6 (v + 1) _ (by omega) ⟨by omega, ?_⟩⟩
     ·have hac : cellv .nils 2 ((accJ T L.length (v + 1)).map eC) = .own 2 ((accJ T L.length v).map eC ++ [.agg [I v, I (bitsN (hasS T v) L.length : Nat)]]) := by
       rw [accJ_next (hbv hb), List.map_append, cellv, if_neg (by simp)]; rfl
      simp only [go_sem, ↓reduceIte, ↓gA, ↓gB, ↓gC, ↓gD, ↓cA, ↓cB, hac]
      repeat apply Exists.intro
      rfl
     ·simp only [go_sem, ↓reduceIte, ↓gA, ↓gB, ↓gC, ↓gD, ↓cA, ↓cB, accJ_skip (hbf hb)]
      repeat apply Exists.intro
      rfl
    ·have hv2 : v = 256 := by omega
     subst hv2 hQ6
     have hvI : ¬ ((256 : Nat) : Int) < 256 := by omega
     simp only [go_sem, ↓reduceIte, ↓gA, ↓gB, ↓gC, ↓gD, ↓cA, ↓cB, hvI, hlt6]
     have hA2 : ofA acts L = (ofFam acts T, 0) := by
      unfold ofA
      rw [hTe, if_pos hE, if_pos hoff]
     have hC : ∀ l : List Ch, (l.map eC).map frz = l.map eC := fun l => by rw [List.map_map]; rfl
     have hn3 : ((List.range acts.length).map (ncell T L.length 0 0)).map frz = ((List.range acts.length).map fun a => nxtL T a L.length).map eCs := by
      rw [List.map_map, List.map_map]
      refine List.map_congr_left fun a _ => ?_
      simp only [Function.comp]
      unfold ncell
      rw [if_pos ⟨rfl, Nat.zero_le _⟩]
      simp only [go_sem, ↓reduceIte, ↓gA, ↓gB, ↓gC, ↓gD, ↓cA, ↓cB, hC, eCs]
     have hP : ((blocksL T L.length).map rP).map frz = (blocksL T L.length).map eP := by
      rw [List.map_map]
      refine List.map_congr_left fun x _ => ?_
      simp only [Function.comp, rP, cC, go_sem, hC, eP]
      have : (x.X.map cC).map frz = x.X.map eCs := by
       rw [List.map_map]
       refine List.map_congr_left fun l _ => ?_
       simp only [Function.comp, cC, go_sem, hC, eCs]
      rw [this]
     rw [hA2, hC, hn3, hP, accJ_end, ← hTl]
     rfl
   ·refine ⟨by omega, ?_⟩
    have ha0 : (accJ T L.length 0).map eC = [] := (rfl)
    simp only [go_sem, ↓reduceIte, ↓gA, ↓gB, ↓gC, ↓gD, ↓cA, ↓cB, ha0]
    repeat apply Exists.intro
    rfl
 ·refine ⟨by omega, by simp [offL], ?_⟩
  have hn0 : List.replicate acts.length AV.nils = (List.range acts.length).map (ncell T 0 0 0) := by
   apply List.ext_getElem (by simp)
   intro j g1 g2
   rw [List.getElem_replicate, List.getElem_map, List.getElem_range]
   unfold ncell; rw [if_pos ⟨rfl, Nat.zero_le _⟩]; rfl
  simp only [go_sem, ↓reduceIte, ↓gA, ↓gB, ↓gC, ↓gD, ↓cA, ↓cB, scell_zero (T := T), blocksL, hn0]
  exact ⟨_, _, _, _, _, _, _, _, _, _, _, _, _, _, _, _, _, _, _, _, _, _, _, _, _, _, _, _, rfl⟩
end Go.Mw
/- What family.Of answers. -/
namespace Go.Mw
theorem of_ok (acts : List ByteArray) (L : List Spc) (ha : acts.length ≤ 100) (hl : L.length ≤ 40) (hs : ∀ i < L.length, SpSz L[i]! ∧ SpI L[i]!) : Fn G f_family_Of [.lst (acts.map .str), .lst (L.map eSp)] (.tup [eF (ofA acts L).1, I (ofA acts L).2]) := by
 by_cases hE : ofE acts L = 0
 ·exact of_good acts L hs hE
 ·have e : ofA acts L = (noFam0, ofE acts L) := by unfold ofA; rw [if_neg hE]
  rw [e]
  exact of_bad acts L ha hl hs hE
end Go.Mw
