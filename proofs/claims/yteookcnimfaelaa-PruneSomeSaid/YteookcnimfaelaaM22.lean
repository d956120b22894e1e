/- Trimming, as the program does it. -/
import Derived.Test.YteookcnimfaelaaM21
set_option linter.unusedVariables false
set_option linter.unusedSimpArgs false
namespace Go.Mw
set_option maxRecDepth 100000
theorem left_ok (s : Spc) : Fn G f_prune_Left [eSp s] (.fn f_prune_Left_1 [.pfro [.lst (s.acts.map .str), .lst (s.S.map eSt)]]) := by
 refine FnP.mk' g_prune_Left rfl rfl ?_
 simp only [go_sem, ↓reduceIte, ↓gA, ↓gB, ↓gC, ↓gD, ↓cA, ↓cB, c_prune_Left, eSp]
theorem left_r {s : Spc} {roots : List Nat} {b : Nat} {ss : List Nat} {σ : St} {k : AV → St → Prop} : callT G f_prune_Left [.agg [.lst (s.acts.map .str), .lst (s.S.map eSt)]] true roots b ss σ k = k (.fn f_prune_Left_1 [.pfro [.lst (s.acts.map .str), .lst (s.S.map eSt)]]) σ := (left_ok s).rule
theorem free14 {ks : List Nat} {h : List Ob} : freeSites 14 ks h = freeL (ks.map (14 + ·)) 0 h := by rw [freeSites_b, free_sites]
theorem setPs_nil {t : List AV} : setPs [] [] t = t := (rfl)
theorem setPs_cons {p : Nat} {ps : List Nat} {v : AV} {vs t : List AV} : setPs (p :: ps) (v :: vs) t = setPs ps vs (t.set p v) := (rfl)
def tLp (t : List AV) (pend : Option Ex) (busy : Bool) : Lp := { base := 0, t, ps := [26, 27], kt := rest 104 [1, 2, 3, 4, 5, 6], ks := [6, 7, 8, 9], asg := a_prune_Trimmed_0, body := b_prune_Trimmed_0, pend, busy }
noncomputable def keptS (s : Spc) (x : Nat) : Stt := ⟨keptL s x, []⟩
noncomputable def tHeap (s : Spc) (z2 z3 a4 c4 z5 : Nat) (i : Nat) (o6 o7 o8 o9 : Ob) : List Ob :=
 [⟨1, 0, .own 2 [.agg [.lst (s.acts.map .str), .lst (s.S.map eSt)]]⟩, ⟨1, 0, .own 2 [.agg [.nils, .nils]]⟩, ⟨1, z2, .own 2 [.agg [.lst (s.acts.map .str), cellv .nils 2 ((((ordOf s).take i).map (keptS s)).map rowS)]]⟩,
  ⟨1, z3, .own 1 [cellv .nils 1 (((ordOf s).take i).map eN)]⟩, ⟨a4, c4, .gone⟩, ⟨1, z5, .own 1 [.own 1 ((placeL (ordOf s) s.S.length i).map eN)]⟩, o6, o7, o8, o9, ⟨0, 0, .gone⟩, ⟨0, 0, .gone⟩, ⟨0, 0, .gone⟩, ⟨0, 0, .gone⟩]
theorem trim_loop (s : Spc) (h : SpcOk s) (h0 : (holL s)[0]! = false) (l : List (Nat × AV)) (l25 : look (.tup []) 25 l = .fn f_prune_Left_1 [.pfro [.lst (s.acts.map .str), .lst (s.S.map eSt)]])
 (l1 : look (.tup []) 1 l = .ptr 0 1 [] 0 0 0) (l2 : look (.tup []) 2 l = .ptr 1 1 [] 0 0 0) (l3 : look (.tup []) 3 l = .nils) (l4 : look (.tup []) 4 l = .ptr 2 1 [] 0 0 0) (l5 : look (.tup []) 5 l = .ptr 3 1 [] 0 0 0) (l6 : look (.tup []) 6 l = .ptr 5 1 [] 0 0 0)
 {Q : Ex → St → Prop} (hQ : ∀ z2 z3 a4 c4 z5 o6 o7 o8 o9, Q .nrm ⟨aT (.tup []) 104 l, tHeap s z2 z3 a4 c4 z5 (ordOf s).length o6 o7 o8 o9, []⟩) :
 Wp G (.rngf (.t 25) [26, 27] (rest 104 [1, 2, 3, 4, 5, 6]) [6, 7, 8, 9] a_prune_Trimmed_0 b_prune_Trimmed_0) 0 ⟨aT (.tup []) 104 l, tHeap s 0 0 1 0 1 0 ⟨0, 0, .gone⟩ ⟨0, 0, .gone⟩ ⟨0, 0, .gone⟩ ⟨0, 0, .gone⟩, []⟩ Q := by
 have hz := h.sz
 have hb := h.b hz
 have h1 : 0 < s.S.length := h.s1
 have h8 := actsOk_len h.acts
 have hS := h.s2
 have hol := hol0_lt h1
 have hvi := fun i => bfs_vi (nx := fun x => (solidOf s).S[x]!.X) h1 (sol_xb hb) i
 have hsol := ord_solid h h0
 refine wp_rngf (g := f_prune_Left_1) (cs := [.pfro [.lst (s.acts.map .str), .lst (s.S.map eSt)]]) (by simp only [go_sem, ↓reduceIte, ↓gA, ↓gB, ↓gC, ↓gD, ↓cA, ↓cB, l25]) (wpCall_S g_prune_Left_1 rfl ?_)
 rw [entry_aT (by simp)]
 have hrec : ∀ t pe bu, ({ base := 0, t, ps := [26, 27], kt := rest 104 [1, 2, 3, 4, 5, 6], ks := [6, 7, 8, 9], asg := a_prune_Trimmed_0, body := b_prune_Trimmed_0, pend := pe, busy := bu } : Lp) = tLp t pe bu := fun _ _ _ => rfl
 simp only [hrec]
 simp only [go_sem, ↓reduceIte, ↓gA, ↓gB, ↓gC, ↓gD, ↓cA, ↓cB, c_prune_Left_1, hollows_r hb h.x8, hol, h0, tHeap, rep_setB]
 refine ⟨by omega, by omega, h1, ?_⟩
 have hend : ∀ i, (bfsAt s.S.length (fun x => (solidOf s).S[x]!.X) i).2.length = i → i = (ordOf s).length := fun i hi => by
  have := bfs_end h1 (sol_xb hb) hi
  rw [show ordOf s = (bfsAt s.S.length (fun x => (solidOf s).S[x]!.X) i).2 from this.symm]; exact hi.symm
 have hpre : ∀ i, i ≤ s.S.length → (bfsAt s.S.length (fun x => (solidOf s).S[x]!.X) i).2 <+: ordOf s := fun i hi => by
  have := bfs_mono (n := s.S.length) (nx := fun x => (solidOf s).S[x]!.X) (i := i) (s.S.length - i)
  rw [show i + (s.S.length - i) = s.S.length by omega] at this; exact this
 have hbsucc : ∀ i, bfsAt s.S.length (fun x => (solidOf s).S[x]!.X) (i + 1) = if i < (bfsAt s.S.length (fun x => (solidOf s).S[x]!.X) i).2.length then ((solidOf s).S[(bfsAt s.S.length (fun x => (solidOf s).S[x]!.X) i).2[i]!]!.X).foldl visit (bfsAt s.S.length (fun x => (solidOf s).S[x]!.X) i) else bfsAt s.S.length (fun x => (solidOf s).S[x]!.X) i := fun i => rfl
 have hond := ord_nd hb h1
 have holen := ord_len hb h1
 refine wp_loopQ (fun (i : Nat) σ => i ≤ (bfsAt s.S.length (fun x => (solidOf s).S[x]!.X) i).2.length ∧ ∃ z2 z3 a4 c4 z5 o6 o7 o8 o9 z16 a17 c17 z18 a19 c19 a20 c20 a21 c21 a22 c22 a23 c23 a24 c24, σ = ⟨aT .undef 101 [(0, .yld 0), (1, .pfro [.lst (s.acts.map .str), .lst (s.S.map eSt)]), (3, .ptr 14 1 [] 0 0 0), (4, .ptr 16 1 [] 0 0 0), (5, .ptr 18 1 [] 0 0 0), (6, I i)],
  tHeap s z2 z3 a4 c4 z5 i o6 o7 o8 o9 ++ [⟨1, 0, .own 1 [.lst ((holL s).map Bo)]⟩, ⟨1, 0, .gone⟩, ⟨1, z16, .own 1 [.own 1 ((bfsAt s.S.length (fun x => (solidOf s).S[x]!.X) i).1.map Bo)]⟩, ⟨a17, c17, .gone⟩, ⟨1, z18, .own 1 [cellv .nils 1 ((bfsAt s.S.length (fun x => (solidOf s).S[x]!.X) i).2.map eN)]⟩, ⟨a19, c19, .gone⟩, ⟨a20, c20, .gone⟩, ⟨a21, c21, .gone⟩, ⟨a22, c22, .gone⟩, ⟨a23, c23, .gone⟩, ⟨a24, c24, .gone⟩], [tLp (aT (.tup []) 104 l) none false]⟩) (fun i => s.S.length + 1 - i) ?_ 0 ?_
 ·rintro i σ ⟨hi, z2, z3, a4, c4, z5, o6, o7, o8, o9, z16, a17, c17, z18, a19, c19, a20, c20, a21, c21, a22, c22, a23, c23, a24, c24, rfl⟩ N Qe hQe hN
  have hV := hvi i
  have hVl := hV.len
  have hen := hend i
  have hpr := hpre i (by omega)
  have hbs := hbsucc i
  have hso := hsol i
  generalize hp : bfsAt s.S.length (fun x => (solidOf s).S[x]!.X) i = p at *
  have hne : ¬ p.2.map eN = [] := by intro hc; rw [List.map_eq_nil_iff] at hc; have := hV.pos; rw [hc] at this; simp at this
  by_cases hlt : i < p.2.length
  ·have hx := hV.get hlt
   have hh := (hso _ (getMem hlt)).2
   rw [if_pos hlt] at hbs
   have hxi := pre_get hpr hlt
   simp only [go_sem, ↓reduceIte, ↓gA, ↓gB, ↓gC, ↓gD, ↓cA, ↓cB, tHeap, Int.ofNat_lt, hlt, hne, eN, hx, eSt]
   have hst := h.st _ hx
   have hsb := hb.st _ hx
   have hAl := h.alen hx
   have hkx : keptS s p.2[i]! = ⟨keptL s p.2[i]!, []⟩ := rfl
   have hsx : (solidOf s).S[p.2[i]!]!.X = onlyX s.S[p.2[i]!]! (usedN (keptL s p.2[i]!)) s.S[p.2[i]!]!.X.length := by
    rw [solid_get hx]; simp only [solS, solA]; rw [if_neg (by rw [hh]; simp)]
   have hkne := kept_ne h hx hh
   have hku : ∀ m, usedN (keptP s p.2[i]! m) < 2 ^ 8 := fun m => usedN_lt fun v hv => by
    obtain ⟨j, hj, e⟩ := getAt (keptP_mem hv)
    have := hst.a j hj
    have h28 : 2 ^ s.acts.length ≤ 2 ^ 8 := Nat.pow_le_pow_right (by omega) h8
    rw [e] at this; omega
   have hks := fun m hm => @keptP_succ s p.2[i]! m hm
   have hkl := fun m => @keptP_len s p.2[i]! m
   have hka := @keptP_all s p.2[i]!
   have hsxb := sol_xb hb _ hx
   have hXlen : s.S[p.2[i]!]!.X.length = s.acts.length := hst.len
   generalize hxe : p.2[i]! = x at *
   generalize hye : s.S[x]! = y at *
   refine wp_loopQ (fun (m : Nat) σ => m ≤ y.A.length ∧ ∃ a20 c20 a21 c21 a22 c22, σ = ⟨aT .undef 101 [(0, .yld 0), (1, .pfro [.lst (s.acts.map .str), .lst (s.S.map eSt)]), (3, .ptr 14 1 [] 0 0 0), (4, .ptr 16 1 [] 0 0 0), (5, .ptr 18 1 [] 0 0 0), (6, I i), (7, .ptr 19 (a19 + 1) [] 0 0 0), (8, rowv .nils 1 22 a22 ((keptP s x m).map I)), (9, I (usedN (keptP s x m) : Nat)), (43, .lst (y.A.map I)), (44, I y.A.length), (45, I m)],
    tHeap s z2 z3 a4 c4 z5 i o6 o7 o8 o9 ++ [⟨1, 0, .own 1 [.lst ((holL s).map Bo)]⟩, ⟨1, 0, .gone⟩, ⟨1, z16, .own 1 [.own 1 (p.1.map Bo)]⟩, ⟨a17, c17, .gone⟩, ⟨1, z18, .own 1 [cellv .nils 1 (p.2.map eN)]⟩, ⟨a19 + 1, 0, .own 2 [.agg [.lst (y.A.map I), .lst (y.X.map I)]]⟩, ⟨a20, c20, .gone⟩, ⟨a21, c21, .gone⟩, ⟨a22, c22, rowo 1 ((keptP s x m).map I)⟩, ⟨a23, c23, .gone⟩, ⟨a24, c24, .gone⟩], [tLp (aT (.tup []) 104 l) none false]⟩) (fun m => y.A.length - m) ?_ 0 ?_
   ·rintro m σ ⟨hm, a20, c20, a21, c21, a22, c22, rfl⟩ N2 Q2 hQ2 hN2
    by_cases hlt2 : m < y.A.length
    ·obtain ⟨t, ht, htl⟩ := hsb.nat hlt2
     have hd := dies_iff hst hlt2 (P := inB (holL s))
     have ht8 : t < 2 ^ 8 := by
      have := (hst.a m hlt2).2
      have h28 : 2 ^ s.acts.length ≤ 2 ^ 8 := Nat.pow_le_pow_right (by omega) h8
      omega
     have hmu := hku m
     have hml := hkl m
     have hms := hks m hlt2
     simp only [go_sem, ↓reduceIte, ↓gA, ↓gB, ↓gC, ↓gD, ↓cA, ↓cB, tHeap, Int.ofNat_lt, hlt2, ht, wrap_succ hlt2 (by omega)]
     refine wp_in t htl (by simp only [go_sem, ↓reduceIte, ↓gA, ↓gB, ↓gC, ↓gD, ↓cA, ↓cB]) (fun a hh' => hh' = tHeap s z2 z3 a4 c4 z5 i o6 o7 o8 o9 ++ [⟨1, 0, .own 1 [.lst ((holL s).map Bo)]⟩, ⟨1, 0, .gone⟩, ⟨1, z16, .own 1 [.own 1 (p.1.map Bo)]⟩, ⟨a17, c17, .gone⟩, ⟨1, z18, .own 1 [cellv .nils 1 (p.2.map eN)]⟩, ⟨a19 + 1, 0, .own 2 [.agg [.lst (y.A.map I), .lst (y.X.map I)]]⟩, ⟨a20 + 1, 0, .own 1 [Bo (decide (∀ b < a, t.testBit b = true → (holL s)[y.X[b]!.toNat]! = false))]⟩, ⟨a21, c21, .gone⟩, ⟨a22, c22, rowo 1 ((keptP s x m).map I)⟩, ⟨a23, c23, .gone⟩, ⟨a24, c24, .gone⟩]) ?_ ?_ ?_ ?_ ?_
     ·rintro a hh' rfl; simp only [tHeap, List.length_append, List.length_cons, List.length_nil]
     ·simp only [go_sem, ↓reduceIte, ↓gA, ↓gB, ↓gC, ↓gD, ↓cA, ↓cB, tHeap]; rw [decide_eq_true (fun b hb => absurd hb (by omega))]
     ·rintro a hh' hbit rfl
      rw [show decide (∀ b < a + 1, t.testBit b = true → (holL s)[y.X[b]!.toNat]! = false) = decide (∀ b < a, t.testBit b = true → (holL s)[y.X[b]!.toNat]! = false) from
       decide_eq_decide.2 ⟨fun g b hb => g b (by omega), fun g => forall_lt_succ g (fun g2 => by rw [hbit] at g2; cases g2)⟩]
     ·rintro a hh' hbit ha62 rfl
      have han : a < s.acts.length := testBit_lt (n := t) (by have := hst.a m hlt2; rw [ht] at this; omega) hbit
      have hX0 := hst.has m hlt2 a han (by rw [ht]; simpa [hasA] using hbit)
      have hXn := hst.x a han
      have hhl : (holL s).length = s.S.length := by simp [holL]
      simp only [go_sem, ↓reduceIte, ↓gA, ↓gB, ↓gC, ↓gD, ↓cA, ↓cB, tHeap, a_prune_Left_1_4, b_prune_Left_1_4]
      refine ⟨fun hf => ⟨by omega, hX0, by omega, ?_⟩, fun hf => ?_⟩
      ·have e : decide (∀ b < a + 1, t.testBit b = true → (holL s)[y.X[b]!.toNat]! = false) = !(holL s)[y.X[a]!.toNat]! := by
        cases hv : (holL s)[y.X[a]!.toNat]! with
        | true => exact decide_eq_false (fun g => by have := g a (by omega) hbit; rw [hv] at this; cases this)
        | false => exact decide_eq_true (forall_lt_succ hf (fun _ => hv))
       rw [e]
      ·rw [show decide (∀ b < a + 1, t.testBit b = true → (holL s)[y.X[b]!.toNat]! = false) = false from decide_eq_false (fun g => hf (fun b hb => g b (by omega)))]
     ·rintro a hh' hlta rfl
      have hfd : (∀ b < a, t.testBit b = true → (holL s)[y.X[b]!.toNat]! = false) ↔ ¬ Dies y (inB (holL s)) (t : Int) := by
       rw [ht] at hd
       rw [hd]
       constructor
       ·rintro g ⟨b, hb1, hb2⟩
        have hb3 : t.testBit b = true := by simpa [hasA] using hb1
        have := g b (testBit_lt hlta hb3) hb3
        unfold inB at hb2; rw [hb2] at this; cases this
       ·intro g b hb hb1
        cases hv : (holL s)[y.X[b]!.toNat]! with
        | false => rfl
        | true => exact absurd ⟨b, by simpa [hasA] using hb1, hv⟩ g
      rw [ht] at hms
      simp only [go_sem, ↓reduceIte, ↓gA, ↓gB, ↓gC, ↓gD, ↓cA, ↓cB, tHeap, wrap_succ hlt2 (show y.A.length ≤ 1000000000 by omega)]
      refine ⟨fun hf => ⟨by omega, hN2 (m + 1) _ (by omega) ⟨by omega, ?_⟩⟩, fun hf => hN2 (m + 1) _ (by omega) ⟨by omega, ?_⟩⟩
      ·rw [if_neg (hfd.1 hf)] at hms
       simp only [go_sem, ↓reduceIte, ↓gA, ↓gB, ↓gC, ↓gD, ↓cA, ↓cB, tHeap, hms, usedN_append, Int.toNat_natCast, bor_nat (show usedN (keptP s x m) < 2 ^ 63 by omega) (show t < 2 ^ 63 by omega), List.map_append, List.map_cons, List.map_nil]
       repeat apply Exists.intro
       rfl
      ·rw [if_pos (Classical.not_not.1 (fun g => hf (hfd.2 g)))] at hms
       simp only [go_sem, ↓reduceIte, ↓gA, ↓gB, ↓gC, ↓gD, ↓cA, ↓cB, tHeap, hms]
       repeat apply Exists.intro
       rfl
    ·have hml : m = y.A.length := by omega
     subst hml hQ2
     have hku2 := hku y.A.length
     rw [hka] at hku2 ⊢
     simp only [go_sem, ↓reduceIte, ↓gA, ↓gB, ↓gC, ↓gD, ↓cA, ↓cB, tHeap, Int.ofNat_lt, hlt2]
     have hkm : ¬ (keptL s x).map I = [] := by intro hc; rw [List.map_eq_nil_iff] at hc; exact hkne hc
     have hVa : ∀ a, VI s.S.length ((onlyX y (usedN (keptL s x)) a).foldl visit p) := by
      intro a
      induction a with
      | zero => exact hV
      | succ a ih =>
        rw [onlyX_vis]
        split
        ·rename_i hu
         refine ih.visit ?_
         obtain ⟨v, hv, hbv⟩ := usedN_bit.1 hu
         obtain ⟨j, hj, e⟩ := getAt (List.mem_filter.1 (show v ∈ s.S[x]!.A.filter _ from hv)).1
         rw [hye] at hj e
         have han : a < s.acts.length := testBit_lt (n := v.toNat) (by have := hst.a j hj; rw [e] at this; omega) hbv
         exact (hst.x a han).2
        ·exact ih
     refine wp_in (usedN (keptL s x)) (by omega) (by simp only [go_sem, ↓reduceIte, ↓gA, ↓gB, ↓gC, ↓gD, ↓cA, ↓cB]) (fun a hh' => ∃ z16 z18 o23 a24 c24, hh' = tHeap s z2 z3 a4 c4 z5 i o6 o7 o8 o9 ++ [⟨1, 0, .own 1 [.lst ((holL s).map Bo)]⟩, ⟨1, 0, .gone⟩, ⟨1, z16, .own 1 [.own 1 (((onlyX y (usedN (keptL s x)) a).foldl visit p).1.map Bo)]⟩, ⟨a17, c17, .gone⟩, ⟨1, z18, .own 1 [cellv .nils 1 (((onlyX y (usedN (keptL s x)) a).foldl visit p).2.map eN)]⟩, ⟨a19 + 1, 0, .own 2 [.agg [.lst (y.A.map I), .lst (y.X.map I)]]⟩, ⟨a20, c20, .gone⟩, ⟨a21, c21, .gone⟩, ⟨a22, c22, rowo 1 ((keptL s x).map I)⟩, o23, ⟨a24, c24, .gone⟩]) ?_ ?_ ?_ ?_ ?_
     ·rintro a hh' ⟨_, _, _, _, _, rfl⟩; simp only [tHeap, List.length_append, List.length_cons, List.length_nil]
     ·refine ⟨z16, z18, ⟨a23, c23, .gone⟩, a24, c24, ?_⟩
      simp only [go_sem, ↓reduceIte, ↓gA, ↓gB, ↓gC, ↓gD, ↓cA, ↓cB, tHeap, onlyX, List.range_zero, List.map_nil, List.foldl_nil]
     ·rintro a hh' hbit ⟨z16, z18, o23, a24, c24, rfl⟩
      refine ⟨z16, z18, o23, a24, c24, ?_⟩
      rw [onlyX_vis, if_neg (by rw [hbit]; simp)]
     ·rintro a hh' hbit ha62 ⟨z16, z18, o23, a24, c24, rfl⟩
      have hVx := hVa a
      have hVy := @onlyX_vis y (usedN (keptL s x)) a p
      rw [if_pos hbit] at hVy
      generalize (onlyX y (usedN (keptL s x)) a).foldl visit p = w at *
      obtain ⟨v, hv, hbv⟩ := usedN_bit.1 hbit
      obtain ⟨j, hj, e⟩ := getAt (List.mem_filter.1 (show v ∈ s.S[x]!.A.filter _ from hv)).1
      rw [hye] at hj e
      have han : a < s.acts.length := testBit_lt (n := v.toNat) (by have := hst.a j hj; rw [e] at this; omega) hbv
      have hX0 := hst.has j hj a han (by rw [e]; exact hbv)
      have hXn := hst.x a han
      obtain ⟨k, hk⟩ : ∃ k : Nat, y.X[a]! = k := ⟨y.X[a]!.toNat, by omega⟩
      have hkn : k < s.S.length := by omega
      have hkw : k < w.1.length := by rw [hVx.l]; exact hkn
      have haX : a < y.X.length := by omega
      have hvis : visit w (k : Int) = if w.1[k]! = false then (w.1.set k true, w.2 ++ [k]) else w := by
       unfold visit; rw [Int.toNat_natCast]
       by_cases hf : w.1[k]! = false
       ·rw [if_pos ⟨by omega, hf⟩, if_pos hf]
       ·rw [if_neg (fun g => hf g.2), if_neg hf]
      rw [hk, hvis] at hVy
      have hwl := hVx.len
      simp only [go_sem, ↓reduceIte, ↓gA, ↓gB, ↓gC, ↓gD, ↓cA, ↓cB, tHeap, a_prune_Left_1_6, b_prune_Left_1_6, free14, haX, hk, hkw, map_setB]
      refine ⟨by omega, fun hf => ⟨by omega, by omega, ?_⟩, fun hf => ?_⟩
      ·rw [if_pos hf] at hVy
       simp only [hVy, List.map_append, List.map_cons, List.map_nil, eN, cellv_app]
       repeat apply Exists.intro
       rfl
      ·rw [if_neg (by rw [hf]; simp)] at hVy
       simp only [hVy]
       repeat apply Exists.intro
       rfl
     ·rintro a hh' hlta ⟨z16, z18, o23, a24, c24, rfl⟩
      have hVx := hVa a
      have hpx := visits_pre (onlyX y (usedN (keptL s x)) a) (p := p)
      have hany : (onlyX y (usedN (keptL s x)) a).foldl visit p = ((solidOf s).S[x]!.X).foldl visit p := by
       rw [hsx]
       refine onlyX_any hlta ?_
       rw [hXlen]
       exact usedN_lt fun v hv => by
        obtain ⟨j, hj, e⟩ := getAt (List.mem_filter.1 (show v ∈ s.S[x]!.A.filter _ from hv)).1
        rw [hye] at hj e
        have := hst.a j hj
        rw [e] at this; omega
      rw [← hany] at hbs
      generalize (onlyX y (usedN (keptL s x)) a).foldl visit p = w at *
      have hwl := hVx.len
      have hpl := hpx.length_le
      have hiw : i < w.2.length := by omega
      have hwi : w.2[i]! = x := by rw [pre_get hpx hlt]; exact hxe
      have hnw : ¬ w.2.map eN = [] := by intro hc; rw [List.map_eq_nil_iff] at hc; rw [hc] at hiw; simp at hiw
      simp only [go_sem, ↓reduceIte, ↓gA, ↓gB, ↓gC, ↓gD, ↓cA, ↓cB, tHeap, hnw, hkm, hiw, hwi, eN]
      refine ⟨by omega, ?_⟩
      refine wpY_of (lp := tLp (aT (.tup []) 104 l) none false) rfl rfl rfl rfl ?_
      have hpll := @placeL_len (ordOf s) s.S.length i
      have hio : i < (ordOf s).length := by have := hpr.length_le; omega
      have hps := placeL_set (n := s.S.length) hond hio
      have hoi : (ordOf s)[i]! = x := by rw [hxi]
      rw [hoi] at hps
      have htl : (List.take i (ordOf s)).length = i := by rw [List.length_take]; omega
      simp only [go_sem, ↓reduceIte, ↓gA, ↓gB, ↓gC, ↓gD, ↓cA, ↓cB, setPs_cons, setPs_nil, tLp, a_prune_Trimmed_0, b_prune_Trimmed_0, hpll, hx, map_setN, hps, eN, jumpE, Option.isNone_none, List.length_map, htl, l1, l2, l3, l4, l5, l6]
      have hiw2 : IntKind.i64.wrap ((i : Int) + 1) = ((i + 1 : Nat) : Int) := by rw [wrapI] <;> omega
      refine ⟨by omega, by omega, by omega, hN (i + 1) _ (by omega) ⟨by rw [hbs]; omega, ?_⟩⟩
      have hto : List.take (i + 1) (ordOf s) = List.take i (ordOf s) ++ [x] := by rw [List.take_succ_eq_append_getElem hio, ← hoi, getElem!_pos _ i hio]
      rw [hbs]
      simp only [go_sem, ↓reduceIte, ↓gA, ↓gB, ↓gC, ↓gD, ↓cA, ↓cB, tHeap, hiw2, hto, List.map_append, List.map_cons, List.map_nil, keptS, rowS, eN]
      repeat apply Exists.intro
      rfl
   ·refine ⟨by omega, ?_⟩
    have hk0 : keptP s x 0 = [] := List.eq_nil_of_length_eq_zero (by have := hkl 0; omega)
    simp only [go_sem, ↓reduceIte, ↓gA, ↓gB, ↓gC, ↓gD, ↓cA, ↓cB, tHeap, hk0, usedN, List.foldl_nil, List.map_nil]
    repeat apply Exists.intro
    rfl
  ·have hil : i = p.2.length := by omega
   have hen2 := hen hil.symm
   subst hQe
   simp only [go_sem, ↓reduceIte, ↓gA, ↓gB, ↓gC, ↓gD, ↓cA, ↓cB, tHeap, Int.ofNat_lt, hlt, hne, List.length_map]
   refine ⟨.nrm, rfl, ?_⟩
   have := hQ z2 z3 a4 c4 z5 o6 o7 o8 o9
   rw [← hen2] at this
   exact this
 ·refine ⟨by simp [bfsAt], ?_⟩
  simp only [go_sem, ↓reduceIte, ↓gA, ↓gB, ↓gC, ↓gD, ↓cA, ↓cB, tHeap, bfsAt, List.map_cons, List.map_nil, eN, List.take_zero, placeL_len]
  repeat apply Exists.intro
  rfl
end Go.Mw
/- Trimming, as the program does it: the end. -/
namespace Go.Mw
set_option maxRecDepth 100000
noncomputable def rcell (s : Spc) (i j : Nat) : AV := if j < i then .agg [cellv .nils 1 ((keptL s (ordOf s)[j]!).map I), .own 1 ((trimS s (ordOf s)[j]!).X.map I)] else .agg [cellv .nils 1 ((keptL s (ordOf s)[j]!).map I), .nils]
theorem rcell_self {s : Spc} {i : Nat} : rcell s i i = .agg [cellv .nils 1 ((keptL s (ordOf s)[i]!).map I), .nils] := by simp [rcell]
theorem rcell_set {s : Spc} {n i : Nat} : ((List.range n).map (rcell s i)).set i (.agg [cellv .nils 1 ((keptL s (ordOf s)[i]!).map I), .own 1 ((trimS s (ordOf s)[i]!).X.map I)]) = (List.range n).map (rcell s (i + 1)) := by
 apply List.ext_getElem?
 intro j
 rw [List.getElem?_set]
 by_cases h : i = j
 ·subst h
  by_cases hl : i < n <;> simp [hl, rcell]
 ·by_cases hl : j < n
  ·have e : (j < i) = (j < i + 1) := propext ⟨fun _ => by omega, fun _ => by omega⟩
   simp [h, hl, rcell, e]
  ·simp [h, hl]
theorem rcell_start {s : Spc} : (((ordOf s).take (ordOf s).length).map (keptS s)).map rowS = (List.range (ordOf s).length).map (rcell s 0) := by
 rw [List.take_length]
 apply List.ext_getElem (by simp)
 intro j h1 h2
 simp at h1
 simp [rcell, rowS, keptS, cellv_nil, h1]
theorem rcell_start2 {s : Spc} : ((ordOf s).map (keptS s)).map rowS = (List.range (ordOf s).length).map (rcell s 0) := by
 rw [← rcell_start, List.take_length]
theorem rcell_end {s : Spc} (hA : ∀ x ∈ ordOf s, solA s x = keptL s x) : ((List.range (ordOf s).length).map (rcell s (ordOf s).length)).map frz = (trimOf s).S.map eSt := by
 have h : ∀ l : List Int, (l.map I).map frz = l.map I := fun l => by rw [List.map_map]; rfl
 apply List.ext_getElem (by simp [trimOf])
 intro j h1 h2
 simp at h1
 have e := hA (ordOf s)[j]! (getMem h1)
 rw [List.getElem_map, List.getElem_map, List.getElem_range, rcell, if_pos h1]
 simp only [trimOf, List.getElem_map]
 rw [← getElem!_pos (ordOf s) j h1]
 simp only [go_sem, ↓reduceIte, ↓gA, ↓gB, ↓gC, ↓gD, ↓cA, ↓cB, h, eSt, trimS, solS, e]
def nextP (l : List Nat) (y : Stt) (u n a : Nat) : List Int := (List.range n).map fun b => if b < a ∧ u.testBit b = true then placeX l y.X[b]! else -1
theorem nextP_len {l : List Nat} {y : Stt} {u n a : Nat} : (nextP l y u n a).length = n := by simp [nextP]
theorem nextP_zero {l : List Nat} {y : Stt} {u n : Nat} : nextP l y u n 0 = List.replicate n (-1) := by
 apply List.ext_getElem (by simp [nextP]); intro j h1 h2; simp [nextP]
theorem nextP_skip {l : List Nat} {y : Stt} {u n a : Nat} (h : u.testBit a = false) : nextP l y u n (a + 1) = nextP l y u n a := by
 unfold nextP
 refine List.map_congr_left (fun b _ => ?_)
 by_cases hb : b < a
 ·have : b < a + 1 := by omega
  simp [hb, this]
 ·by_cases e : b = a
  ·subst e; simp [h]
  ·have : ¬ b < a + 1 := by omega
   simp [hb, this]
theorem nextP_set {l : List Nat} {y : Stt} {u n a : Nat} (h : u.testBit a = true) : (nextP l y u n a).set a (placeX l y.X[a]!) = nextP l y u n (a + 1) := by
 apply List.ext_getElem?
 intro b
 rw [List.getElem?_set, nextP_len]
 have e : ∀ {c}, (nextP l y u n c)[b]? = if b < n then some (if b < c ∧ u.testBit b = true then placeX l y.X[b]! else -1) else none := fun {c} => by
  by_cases hb : b < n <;> simp [nextP, hb]
 rw [e, e]
 by_cases hab : a = b
 ·subst hab
  by_cases hn : a < n <;> simp [hn, h]
 ·have : (b < a) = (b < a + 1) := propext ⟨fun _ => by omega, fun _ => by omega⟩
  simp [hab, this]
theorem nextP_end {l : List Nat} {y : Stt} {u n a : Nat} (h : u < 2 ^ a) (hX : y.X.length = n) : nextP l y u n a = (onlyX y u y.X.length).map (placeX l) := by
 rw [hX]
 unfold nextP onlyX
 rw [List.map_map]
 refine List.map_congr_left (fun b hb => ?_)
 simp only [Function.comp]
 by_cases hu : u.testBit b = true
 ·rw [if_pos ⟨testBit_lt h hu, hu⟩, if_pos hu]
 ·rw [if_neg (fun g => hu g.2), if_neg hu]; simp [placeX]
theorem trimmed_ok (s : Spc) (h : SpcOk s) : Fn G f_prune_Trimmed [eSp s] (.tup [eSp (trimA s).1, .lst ((trimA s).2.map eN)]) := by
 have hz := h.sz
 have hb := h.b hz
 have h1 : 0 < s.S.length := h.s1
 have h8 := actsOk_len h.acts
 have hS := h.s2
 have hol := hol0_lt h1
 cases h0 : (holL s)[0]! with
 | true =>
   have e : trimA s = (noSpc s.acts, []) := by unfold trimA; rw [if_pos h0]
   rw [e]
   refine FnP.mk' g_prune_Trimmed rfl rfl ?_
   simp only [go_sem, ↓reduceIte, ↓gA, ↓gB, ↓gC, ↓gD, ↓cA, ↓cB, c_prune_Trimmed, eSp, clone_r (show s.acts.length ≤ 1048576 by omega), left_r]
   refine ⟨by omega, ?_⟩
   refine wp_rngf (g := f_prune_Left_1) (cs := [.pfro [.lst (s.acts.map .str), .lst (s.S.map eSt)]]) (by simp only [go_sem, ↓reduceIte, ↓gA, ↓gB, ↓gC, ↓gD, ↓cA, ↓cB]) (wpCall_S g_prune_Left_1 rfl ?_)
   rw [entry_aT (by simp)]
   simp only [go_sem, ↓reduceIte, ↓gA, ↓gB, ↓gC, ↓gD, ↓cA, ↓cB, c_prune_Left_1, hollows_r hb h.x8, hol, h0]
   refine ⟨.nrm, rfl, ?_⟩
   simp only [go_sem, ↓reduceIte, ↓gA, ↓gB, ↓gC, ↓gD, ↓cA, ↓cB, nothing_r h8, eSp]
 | false =>
   have e : trimA s = (trimOf s, ordOf s) := by unfold trimA; rw [if_neg (by rw [h0]; simp)]
   rw [e]
   refine FnP.mk' g_prune_Trimmed rfl rfl ?_
   simp only [go_sem, ↓reduceIte, ↓gA, ↓gB, ↓gC, ↓gD, ↓cA, ↓cB, c_prune_Trimmed, eSp, clone_r (show s.acts.length ≤ 1048576 by omega), left_r]
   refine ⟨by omega, ?_⟩
   have hpl0 : (placeL (ordOf s) s.S.length 0).map eN = List.replicate s.S.length (AV.int .i64 0) := by
    apply List.ext_getElem (by simp [placeL]); intro j h1 h2; simp [placeL, eN]
   have hloop := trim_loop s h h0
   simp only [tHeap, hpl0, List.take_zero, List.map_nil, cellv_nil] at hloop
   refine hloop _ rfl rfl rfl rfl rfl rfl rfl (fun z2 z3 a4 c4 z5 o6 o7 o8 o9 => ?_)
   have hop := ord_pos hb h1
   have holen := ord_len hb h1
   have hond := ord_nd hb h1
   have hne : ¬ (ordOf s).map eN = [] := by intro hc; rw [List.map_eq_nil_iff] at hc; rw [hc] at hop; simp at hop
   have hlenz : ¬ ((((ordOf s).length : Nat) : Int) = 0) := by omega
   have holt : ∀ x ∈ ordOf s, x < s.S.length ∧ (holL s)[x]! = false := ord_solid h h0 s.S.length
   have hcl := ord_closed hb h1
   have hsA : ∀ x ∈ ordOf s, solA s x = keptL s x := fun x hx => by unfold solA; rw [if_neg (by rw [(holt x hx).2]; simp)]
   have hrow0 : cellv .nils 2 ((List.range (ordOf s).length).map (rcell s 0)) = .own 2 ((List.range (ordOf s).length).map (rcell s 0)) := by
    obtain ⟨n, hn⟩ : ∃ n, (ordOf s).length = n + 1 := ⟨(ordOf s).length - 1, by omega⟩
    rw [hn, List.range_succ, List.map_append, List.map_cons, List.map_nil, cellv_app]
   have hcel : ∀ v : List AV, ¬ v = [] → cellv .nils 1 v = .own 1 v := fun v hv => by
    cases v with
    | nil => exact absurd rfl hv
    | cons a r => rfl
   have hbeq : ((((ordOf s).length : Nat) : Int) == 0) = false := by simp only [beq_eq_false_iff_ne]; exact hlenz
   simp only [go_sem, ↓reduceIte, ↓gA, ↓gB, ↓gC, ↓gD, ↓cA, ↓cB, rcell_start, rcell_start2, List.take_length, hne, hrow0, List.length_map, hbeq]
   refine wp_loopQ (fun (i : Nat) σ => i ≤ (ordOf s).length ∧ ∃ z2 z5 a10 c10 a11 c11 a12 c12 a13 c13, σ = ⟨aT .undef 104 [(1, .ptr 0 1 [] 0 0 0), (2, .ptr 1 1 [] 0 0 0), (3, .nils), (4, .ptr 2 1 [] 0 0 0), (5, .ptr 3 1 [] 0 0 0), (6, .ptr 5 1 [] 0 0 0), (50, rowc .nils 1 3 1 [(0, 0)] z3 ((ordOf s).map eN)), (51, I (ordOf s).length), (52, I i)],
    [⟨1, 0, .own 2 [.agg [.lst (s.acts.map .str), .lst (s.S.map eSt)]]⟩, ⟨1, 0, .own 2 [.agg [.nils, .nils]]⟩, ⟨1, z2, .own 2 [.agg [.lst (s.acts.map .str), .own 2 ((List.range (ordOf s).length).map (rcell s i))]]⟩,
     ⟨1, z3, .own 1 [cellv .nils 1 ((ordOf s).map eN)]⟩, ⟨a4, c4, .gone⟩, ⟨1, z5, .own 1 [.own 1 ((placeL (ordOf s) s.S.length (ordOf s).length).map eN)]⟩, o6, o7, o8, o9, ⟨a10, c10, .gone⟩, ⟨a11, c11, .gone⟩, ⟨a12, c12, .gone⟩, ⟨a13, c13, .gone⟩], []⟩) (fun i => (ordOf s).length - i) ?_ 0 ?_
   ·rintro i σ ⟨hi, z2, z5, a10, c10, a11, c11, a12, c12, a13, c13, rfl⟩ N Q hQ hN
    by_cases hlt : i < (ordOf s).length
    ·have hmem := getMem hlt
     obtain ⟨hx, hh⟩ := holt _ hmem
     have hst := h.st _ hx
     have hAl := h.alen hx
     have hkne := kept_ne h hx hh
     have hkm : ¬ (keptL s (ordOf s)[i]!).map I = [] := by intro hc; rw [List.map_eq_nil_iff] at hc; exact hkne hc
     have hkl : (keptL s (ordOf s)[i]!).length ≤ 256 := Nat.le_trans (List.length_filter_le _ _) hAl
     have hrs := @rcell_self s i
     have hrset := @rcell_set s (ordOf s).length i
     simp only [go_sem, ↓reduceIte, ↓gA, ↓gB, ↓gC, ↓gD, ↓cA, ↓cB, Int.ofNat_lt, hlt, hne, eN, List.length_range, rng_get hlt, hrs, hkm]
     have hxX := hst.len
     have hclx := hcl _ hmem
     rw [solid_get hx] at hclx
     have htS : (trimS s (ordOf s)[i]!).X = (onlyX s.S[(ordOf s)[i]!]! (usedN (keptL s (ordOf s)[i]!)) s.S[(ordOf s)[i]!]!.X.length).map (placeX (ordOf s)) := by
      simp only [trimS, solS]; rw [hsA _ hmem]
     have hsolX : (solS s (ordOf s)[i]!).X = onlyX s.S[(ordOf s)[i]!]! (usedN (keptL s (ordOf s)[i]!)) s.S[(ordOf s)[i]!]!.X.length := by
      simp only [solS]; rw [hsA _ hmem]
     have hkm2 : ∀ v ∈ keptL s (ordOf s)[i]!, v ∈ s.S[(ordOf s)[i]!]!.A := fun v hv => (List.mem_filter.1 hv).1
     generalize hxe : (ordOf s)[i]! = x at *
     generalize hye : s.S[x]! = y at *
     have h28 : 2 ^ s.acts.length ≤ 2 ^ 8 := Nat.pow_le_pow_right (by omega) h8
     have hkb : ∀ v ∈ keptL s x, 0 ≤ v ∧ v.toNat < 2 ^ 8 := fun v hv => by
      obtain ⟨j, hj, e⟩ := getAt (hkm2 v hv)
      have := hst.a j hj
      rw [e] at this; omega
     have hul : ∀ m, usedN ((keptL s x).take m) < 2 ^ 8 := fun m => usedN_lt fun v hv => (hkb v (List.mem_of_mem_take hv)).2
     refine wp_loopQ (fun (m : Nat) σ => m ≤ (keptL s x).length ∧ σ = ⟨aT .undef 104 [(1, .ptr 0 1 [] 0 0 0), (2, .ptr 1 1 [] 0 0 0), (3, .nils), (4, .ptr 2 1 [] 0 0 0), (5, .ptr 3 1 [] 0 0 0), (6, .ptr 5 1 [] 0 0 0), (9, I i), (10, .ptr 10 (a10 + 1) [] 0 0 0), (11, I (usedN ((keptL s x).take m) : Nat)), (50, rowc .nils 1 3 1 [(0, 0)] z3 ((ordOf s).map eN)), (51, I (ordOf s).length), (52, I i), (62, rowc .nils 1 2 1 [(0, 1), (i, 0)] z2 ((keptL s x).map I)), (63, I (keptL s x).length), (64, I m)],
      [⟨1, 0, .own 2 [.agg [.lst (s.acts.map .str), .lst (s.S.map eSt)]]⟩, ⟨1, 0, .own 2 [.agg [.nils, .nils]]⟩, ⟨1, z2, .own 2 [.agg [.lst (s.acts.map .str), .own 2 ((List.range (ordOf s).length).map (rcell s i))]]⟩,
      ⟨1, z3, .own 1 [cellv .nils 1 ((ordOf s).map eN)]⟩, ⟨a4, c4, .gone⟩, ⟨1, z5, .own 1 [.own 1 ((placeL (ordOf s) s.S.length (ordOf s).length).map eN)]⟩, o6, o7, o8, o9, ⟨a10 + 1, 0, .own 1 [I x]⟩, ⟨a11, c11, .gone⟩, ⟨a12, c12, .gone⟩, ⟨a13, c13, .gone⟩], []⟩) (fun m => (keptL s x).length - m) ?_ 0 ?_
     ·rintro m σ ⟨hm, rfl⟩ N2 Q2 hQ2 hN2
      by_cases hlt2 : m < (keptL s x).length
      ·have hv := hkb _ (getMem hlt2)
       obtain ⟨t, ht⟩ : ∃ t : Nat, (keptL s x)[m]! = t := ⟨(keptL s x)[m]!.toNat, by omega⟩
       have hu1 := hul m
       rw [ht, Int.toNat_natCast] at hv
       simp only [go_sem, ↓reduceIte, ↓gA, ↓gB, ↓gC, ↓gD, ↓cA, ↓cB, Int.ofNat_lt, hlt2, hrs, hkm, List.length_range, rng_get hlt, hlt, ht, wrap_succ hlt2 (by omega), bor_nat (show usedN ((keptL s x).take m) < 2 ^ 63 by omega) (show t < 2 ^ 63 by omega)]
       refine hN2 (m + 1) _ (by omega) ⟨by omega, ?_⟩
       rw [List.take_succ_eq_append_getElem hlt2, usedN_append, ← getElem!_pos (keptL s x) m hlt2, ht, Int.toNat_natCast]
       simp only [go_sem, ↓reduceIte, ↓gA, ↓gB, ↓gC, ↓gD, ↓cA, ↓cB]
      ·have hml : m = (keptL s x).length := by omega
       subst hml hQ2
       have hu1 := hul (keptL s x).length
       rw [List.take_length] at hu1 ⊢
       simp only [go_sem, ↓reduceIte, ↓gA, ↓gB, ↓gC, ↓gD, ↓cA, ↓cB, Int.ofNat_lt, hlt2, hkm, rep_r h8]
       have hub : ∀ a, (usedN (keptL s x)).testBit a = true → a < s.acts.length ∧ 0 ≤ y.X[a]! ∧ y.X[a]! < (s.S.length : Int) ∧ y.X[a]!.toNat ∈ ordOf s := fun a ha => by
        obtain ⟨v, hv, hbv⟩ := usedN_bit.1 ha
        obtain ⟨j, hj, e⟩ := getAt (hkm2 v hv)
        have han : a < s.acts.length := testBit_lt (n := v.toNat) (by have := hst.a j hj; rw [e] at this; omega) hbv
        have hX0 := hst.has j hj a han (by rw [e]; exact hbv)
        refine ⟨han, hX0, (hst.x a han).2, hclx _ ?_ hX0⟩
        rw [hsolX]
        have : (onlyX y (usedN (keptL s x)) y.X.length)[a]! ∈ onlyX y (usedN (keptL s x)) y.X.length := getMem (by rw [onlyX_len]; omega)
        rw [onlyX_get (by omega), if_pos ha] at this
        exact this
       have hr0 : List.replicate s.acts.length (AV.int .i64 (-1)) = (nextP (ordOf s) y (usedN (keptL s x)) s.acts.length 0).map I := by rw [nextP_zero, List.map_replicate]
       rw [hr0]
       refine wp_in (usedN (keptL s x)) (by omega) (by simp only [go_sem, ↓reduceIte, ↓gA, ↓gB, ↓gC, ↓gD, ↓cA, ↓cB]) (fun a hh' => hh' = [⟨1, 0, .own 2 [.agg [.lst (s.acts.map .str), .lst (s.S.map eSt)]]⟩, ⟨1, 0, .own 2 [.agg [.nils, .nils]]⟩, ⟨1, z2, .own 2 [.agg [.lst (s.acts.map .str), .own 2 ((List.range (ordOf s).length).map (rcell s i))]]⟩,
      ⟨1, z3, .own 1 [cellv .nils 1 ((ordOf s).map eN)]⟩, ⟨a4, c4, .gone⟩, ⟨1, z5, .own 1 [.own 1 ((placeL (ordOf s) s.S.length (ordOf s).length).map eN)]⟩, o6, o7, o8, o9, ⟨a10 + 1, 0, .own 1 [I x]⟩, ⟨a11 + 1, 0, .gone⟩, ⟨a12 + 1, 0, .gone⟩, ⟨a13 + 1, 1, .own 1 [.own 1 ((nextP (ordOf s) y (usedN (keptL s x)) s.acts.length a).map I)]⟩]) ?_ ?_ ?_ ?_ ?_
       ·rintro a hh' rfl; rfl
       ·simp only [go_sem, ↓reduceIte, ↓gA, ↓gB, ↓gC, ↓gD, ↓cA, ↓cB]
       ·rintro a hh' hbit rfl
        rw [nextP_skip hbit]
       ·rintro a hh' hbit ha62 rfl
        obtain ⟨han, hX0, hXn, hmo⟩ := hub a hbit
        obtain ⟨k, hk⟩ : ∃ k : Nat, y.X[a]! = k := ⟨y.X[a]!.toNat, by omega⟩
        have hps := nextP_set (l := ordOf s) (y := y) (n := s.acts.length) hbit
        have hpx : placeX (ordOf s) y.X[a]! = ((ordOf s).idxOf k : Int) := by unfold placeX; rw [if_pos hX0, hk, Int.toNat_natCast]
        rw [hpx] at hps
        have hkn : k < s.S.length := by omega
        have hkp : k < (placeL (ordOf s) s.S.length (ordOf s).length).length := by rw [placeL_len]; exact hkn
        have hpg : (placeL (ordOf s) s.S.length (ordOf s).length)[k]! = (ordOf s).idxOf k := by rw [placeL_get hkn, List.take_length, if_pos (by rw [hk, Int.toNat_natCast] at hmo; exact hmo)]
        have haX : a < y.X.length := by omega
        have hmapI : ∀ (q : List Int) (j v : Nat), (q.map I).set j (.int .i64 (v : Nat)) = (q.set j (v : Nat)).map I := fun q j v => by rw [List.map_set]
        simp only [go_sem, ↓reduceIte, ↓gA, ↓gB, ↓gC, ↓gD, ↓cA, ↓cB, a_prune_Trimmed_6, b_prune_Trimmed_6, hx, hye, eSt, haX, hk, hkn, hkp, eN, hpg, nextP_len, han, hmapI, hps]
        exact ⟨by omega, by omega⟩
       ·rintro a hh' hlta rfl
        have hne2 := nextP_end (l := ordOf s) hlta hxX
        rw [hne2, ← htS]
        simp only [go_sem, ↓reduceIte, ↓gA, ↓gB, ↓gC, ↓gD, ↓cA, ↓cB, List.length_range, rng_get hlt, hrs, hlt, hrset, wrap_succ hlt (show (ordOf s).length ≤ 1000000000 by omega)]
        refine ⟨by omega, hN (i + 1) _ (by omega) ⟨by omega, ?_⟩⟩
        simp only [go_sem, ↓reduceIte, ↓gA, ↓gB, ↓gC, ↓gD, ↓cA, ↓cB]
        repeat apply Exists.intro
        rfl
     ·refine ⟨by omega, ?_⟩
      simp only [go_sem, ↓reduceIte, ↓gA, ↓gB, ↓gC, ↓gD, ↓cA, ↓cB, List.take_zero, usedN, List.foldl_nil]
    ·have hil : i = (ordOf s).length := by omega
     subst hil hQ
     have hre := rcell_end hsA
     simp only [go_sem, ↓reduceIte, ↓gA, ↓gB, ↓gC, ↓gD, ↓cA, ↓cB, Int.ofNat_lt, hlt, hne]
     have he : ((ordOf s).map eN).map frz = (ordOf s).map eN := by rw [List.map_map]; rfl
     rw [hre, he]; rfl
   ·refine ⟨by omega, ?_⟩
    simp only [go_sem, ↓reduceIte, ↓gA, ↓gB, ↓gC, ↓gD, ↓cA, ↓cB]
    repeat apply Exists.intro
    rfl
theorem trimmed_r {s : Spc} (h : SpcOk s) {roots : List Nat} {b : Nat} {ss : List Nat} {σ : St} {k : AV → St → Prop} :
 callT G f_prune_Trimmed [.agg [.lst (s.acts.map .str), .lst (s.S.map eSt)]] true roots b ss σ k = k (.tup [eSp (trimA s).1, .lst ((trimA s).2.map eN)]) σ := (trimmed_ok s h).rule
end Go.Mw
/- Small or not, for families of any size: a family that is small has small parts. -/
namespace Go.Mw
set_option maxRecDepth 100000
structure PBig (p : Plan) : Prop where
 a : p.A.length ≤ 140737488355328
 x : p.X.length ≤ 140737488355328
 y : ∀ i < p.X.length, p.X[i]!.length ≤ 140737488355328
structure FBig (f : Fam) : Prop where
 a : f.acts.length ≤ 140737488355328
 s : f.S.length ≤ 140737488355328
 p : ∀ i < f.S.length, PBig f.S[i]!
theorem FnP.flatB {f : FuncId} {xs : List AV} {P : Prop} (h : FnP G f xs fun rs h => ∃ v, packV (treeBL 0 h rs) = Bo v ∧ (v = true → P) ∧ rs.all AV.flats = true) : ∃ v, FnT G f xs (Bo v) ∧ (v = true → P) := by
 obtain ⟨F, n, rs, σ1, hf, h1, h2, h3, h4, hr, v, hR, hP, hfl⟩ := h
 exact ⟨v, ⟨F, n, rs, σ1, hf, h1, h2, h3, h4, hr, hR, hfl⟩, hP⟩
theorem bo_exB {b : Bool} {P : Prop} : (∃ v, AV.bool b = Bo v ∧ (v = true → P)) = (b = true → P) := by
 apply propext; constructor
 ·rintro ⟨v, hv, h⟩; cases hv; exact h
 ·intro h; exact ⟨b, rfl, h⟩
def Counted (f : Fam) (i : Nat) (c : Int) : Prop := (f.acts.length : Int) ≤ c ∧ (f.S.length : Int) ≤ c ∧ ∀ j < i, (f.S[j]!.A.length : Int) ≤ c ∧ (f.S[j]!.X.length : Int) ≤ c ∧ ∀ m < f.S[j]!.X.length, (f.S[j]!.X[m]!.length : Int) ≤ c
theorem Counted.mono {f : Fam} {i : Nat} {c d : Int} (h : Counted f i c) (hd : c ≤ d) : Counted f i d :=
 ⟨by have := h.1; omega, by have := h.2.1; omega, fun j hj => ⟨by have := (h.2.2 j hj).1; omega, by have := (h.2.2 j hj).2.1; omega, fun m hm => by have := (h.2.2 j hj).2.2 m hm; omega⟩⟩
theorem Counted.sz {f : Fam} {c : Int} (h : Counted f f.S.length c) (hc : c ≤ 1000) : FSz f :=
 ⟨by have := h.1; omega, by have := h.2.1; omega, fun j hj => ⟨by have := (h.2.2 j hj).1; omega, by have := (h.2.2 j hj).2.1; omega, fun m hm => by have := (h.2.2 j hj).2.2 m hm; omega⟩⟩
end Go.Mw
/- Small or not: specifications of any size. -/
namespace Go.Mw
set_option maxRecDepth 100000
structure SpBig (s : Spc) : Prop where
 fa : s.acts.length ≤ 140737488355328
 fs : s.S.length ≤ 140737488355328
 fx : ∀ i < s.S.length, s.S[i]!.A.length ≤ 140737488355328 ∧ s.S[i]!.X.length ≤ 140737488355328
 fi : SpI s
def CountP (s : Spc) (i : Nat) (c : Int) : Prop := (s.acts.length : Int) ≤ c ∧ (s.S.length : Int) ≤ c ∧ ∀ j < i, (s.S[j]!.A.length : Int) ≤ c ∧ (s.S[j]!.X.length : Int) ≤ c
theorem few3_big (s : Spc) (hs : SpBig s) (K : Int) (h0 : 0 ≤ K) (hK : K ≤ 1000000) : ∃ v, FnT G f_r03_Few [eSp s, I K] (Bo v) ∧ (v = true → SpSz s) := by
 refine FnP.flatB (FnP.mk' g_r03_Few rfl rfl ?_)
 have ha := hs.fa
 have hS := hs.fs
 have w0 : IntKind.i64.wrap ((s.acts.length : Int) + s.S.length) = (s.acts.length : Int) + s.S.length := by rw [wrapI] <;> omega
 simp only [go_sem, ↓reduceIte, ↓gA, ↓gB, ↓gC, ↓gD, ↓cA, ↓cB, c_r03_Few, eSp, w0]
 refine wp_loopQ (fun (i : Nat) σ => i ≤ s.S.length ∧ ∃ c : Int, 0 ≤ c ∧ c ≤ 562949953421312 ∧ (c ≤ K → CountP s i c) ∧ σ = ⟨aT .undef 46 [(1, I K), (2, .ptr 0 1 [] 0 0 0), (5, I c), (6, I i)], [⟨1, 0, .own 2 [.agg [.lst (s.acts.map .str), .lst (s.S.map eSt)]]⟩], []⟩) (fun i => s.S.length - i) ?_ 0 ?_
 ·rintro i σ ⟨hi, c, hc0, hc1, hc2, rfl⟩ N Q hQ hN
  by_cases hlt : i < s.S.length
  ·obtain ⟨hl1, hl2⟩ := hs.fx i hlt
   simp only [go_sem, ↓reduceIte, ↓gA, ↓gB, ↓gC, ↓gD, ↓cA, ↓cB, eSt, Int.ofNat_lt, hlt]
   by_cases hc : c ≤ K
   ·have w1 : IntKind.i64.wrap ((s.S[i]!.A.length : Int) + (s.S[i]!.X.length : Int)) = (s.S[i]!.A.length : Int) + (s.S[i]!.X.length : Int) := by rw [wrapI] <;> omega
    have w2 : IntKind.i64.wrap (c + ((s.S[i]!.A.length : Int) + (s.S[i]!.X.length : Int))) = c + ((s.S[i]!.A.length : Int) + (s.S[i]!.X.length : Int)) := by rw [wrapI] <;> omega
    have w3 : IntKind.i64.wrap ((i : Int) + 1) = ((i + 1 : Nat) : Int) := by rw [wrapI] <;> omega
    simp only [go_sem, ↓reduceIte, ↓gA, ↓gB, ↓gC, ↓gD, ↓cA, ↓cB, hc, w1, w2, w3]
    refine hN (i + 1) _ (by omega) ⟨by omega, c + ((s.S[i]!.A.length : Int) + s.S[i]!.X.length), by omega, by omega, fun h => ?_, ?_⟩
    ·obtain ⟨g1, g2, g3⟩ := hc2 hc
     exact ⟨by omega, by omega, forall_lt_succ (fun j hj => by have := g3 j hj; omega) (by omega)⟩
    ·simp only [go_sem, ↓reduceIte, ↓gA, ↓gB, ↓gC, ↓gD, ↓cA, ↓cB]
   ·simp only [go_sem, ↓reduceIte, ↓gA, ↓gB, ↓gC, ↓gD, ↓cA, ↓cB, hc]
    subst hQ
    simp only [go_sem, ↓reduceIte, ↓gA, ↓gB, ↓gC, ↓gD, ↓cA, ↓cB, bo_exB, hc]
  ·subst hQ
   have hil : i = s.S.length := by omega
   subst hil
   simp only [go_sem, ↓reduceIte, ↓gA, ↓gB, ↓gC, ↓gD, ↓cA, ↓cB, Int.ofNat_lt, hlt, bo_exB, decide_eq_true_eq]
   intro h
   obtain ⟨g1, g2, g3⟩ := hc2 h
   exact ⟨by omega, by omega, fun j hj => by have := g3 j hj; omega⟩
 ·refine ⟨by omega, s.acts.length + s.S.length, by omega, by omega, fun _ => ⟨by omega, by omega, fun j hj => absurd hj (by omega)⟩, ?_⟩
  simp only [go_sem, ↓reduceIte, ↓gA, ↓gB, ↓gC, ↓gD, ↓cA, ↓cB]
end Go.Mw
/- Calls whose answers the kernel works out. -/
namespace Go.Mw
set_option maxRecDepth 100000
mutual
def eqv : AV → AV → Bool
 | .int a n, .int b m => a == b && n == m
 | .bool a, .bool b => a == b
 | .str a, .str b => a.data.toList == b.data.toList
 | .lst xs, .lst ys => eqvL xs ys
 | .agg xs, .agg ys => eqvL xs ys
 | .tup xs, .tup ys => eqvL xs ys
 | _, _ => false
def eqvL : List AV → List AV → Bool
 | [], [] => true
 | x :: xs, y :: ys => eqv x y && eqvL xs ys
 | _, _ => false
end
mutual
theorem eqv_eq : ∀ (x y : AV), eqv x y = true → x = y
 | .int a n, .int b m, h => by simp only [eqv, Bool.and_eq_true, beq_iff_eq] at h; rw [h.1, h.2]
 | .bool a, .bool b, h => by simp only [eqv, beq_iff_eq] at h; rw [h]
 | .str ⟨a⟩, .str ⟨b⟩, h => by
   simp only [eqv, beq_iff_eq] at h
   have := Array.toList_inj.1 h
   subst this; rfl
 | .lst xs, .lst ys, h => by simp only [eqv] at h; rw [eqvL_eq xs ys h]
 | .agg xs, .agg ys, h => by simp only [eqv] at h; rw [eqvL_eq xs ys h]
 | .tup xs, .tup ys, h => by simp only [eqv] at h; rw [eqvL_eq xs ys h]
theorem eqvL_eq : ∀ (xs ys : List AV), eqvL xs ys = true → xs = ys
 | [], [], _ => rfl
 | x :: xs, y :: ys, h => by simp only [eqvL, Bool.and_eq_true] at h; rw [eqv_eq x y h.1, eqvL_eq xs ys h.2]
 | [], _ :: _, h => by simp [eqvL] at h
 | _ :: _, [], h => by simp [eqvL] at h
end
def retIs (v : AV) : Option (List AV × St) → Bool
 | some (rs, σ) => eqv (packV (treeBL 0 σ.h rs)) v
 | none => false
theorem Fn.kernel {G : Prg} {f : FuncId} {F : IF} {xs : List AV} {v : AV} (n : Nat) (hf : G f = some F) (h1 : xs.length = F.np) (h2 : F.pure = true) (h3 : F.fo = false) (h4 : splits F xs = false) (h : retIs v (runF G n F xs [] []) = true) : Fn G f xs v := by
 unfold retIs at h
 split at h
 ·rename_i rs σ hr
  exact ⟨F, n, rs, σ, hf, h1, h2, h3, h4, hr, eqv_eq _ _ h⟩
 ·cases h
end Go.Mw
/- The check that the eyes of the laws of chapter 4 are open. -/
namespace Go.Mw
set_option maxRecDepth 100000
abbrev twigs : AV := .agg [.lst [.str ⟨#[97]⟩, .str ⟨#[98]⟩], .lst [.agg [.lst [I 1, I 2], .lst [I 1, I 0]], .agg [.lst [], .lst [I (-1), I (-1)]]]]
theorem twigs_ok : Fn G f_w04_twigs [] twigs := by
 refine FnP.mk' g_w04_twigs rfl rfl ?_
 simp only [go_sem, ↓reduceIte, ↓gA, ↓gB, ↓gC, ↓gD, ↓cA, ↓cB, c_w04_twigs]
theorem twHollow_ok : Fn G f_prune_Hollow [twigs] (.tup [.lst [I 1], I 0]) := Fn.kernel 90 g_prune_Hollow rfl rfl rfl rfl (by decide +kernel)
theorem twTrim_ok : Fn G f_prune_Trim [twigs] (.tup [.agg [.lst [.str ⟨#[97]⟩, .str ⟨#[98]⟩], .lst [.agg [.lst [I 2], .lst [I (-1), I 0]]]], .lst [I 0], I 0]) := Fn.kernel 90 g_prune_Trim rfl rfl rfl rfl (by decide +kernel)
theorem twSome_ok : Fn G f_prune_Some [twigs] (.tup [.agg [.lst [.str ⟨#[97]⟩, .str ⟨#[98]⟩], .lst [.lst [.agg [I 1, I 0]]]], I 0]) := Fn.kernel 90 g_prune_Some rfl rfl rfl rfl (by decide +kernel)
section
variable {roots : List Nat} {b : Nat} {ss : List Nat} {σ : St} {k : AV → St → Prop}
theorem twigs_r : callT G f_w04_twigs [] true roots b ss σ k = k twigs σ := twigs_ok.rule
theorem twHollow_r : callT G f_prune_Hollow [twigs] true roots b ss σ k = k (.tup [.lst [I 1], I 0]) σ := twHollow_ok.rule
theorem twTrim_r : callT G f_prune_Trim [twigs] true roots b ss σ k = k (.tup [.agg [.lst [.str ⟨#[97]⟩, .str ⟨#[98]⟩], .lst [.agg [.lst [I 2], .lst [I (-1), I 0]]]], .lst [I 0], I 0]) σ := twTrim_ok.rule
theorem twSome_r : callT G f_prune_Some [twigs] true roots b ss σ k = k (.tup [.agg [.lst [.str ⟨#[97]⟩, .str ⟨#[98]⟩], .lst [.lst [.agg [I 1, I 0]]]], I 0]) σ := twSome_ok.rule
theorem sameOne_r {n : Int} {fr : Bool} : callT G f_r01_SameInts [.lst [I n], .lst [I n]] fr roots b ss σ k = k (Bo true) σ := sameI_r (l := [n]) (by simp)
end
theorem awake04_ok : FnT G f_w04_awake [] (Bo true) := by
 refine FnP.mk' g_w04_awake rfl rfl ?_
 simp only [go_sem, ↓reduceIte, ↓gA, ↓gB, ↓gC, ↓gD, ↓cA, ↓cB, c_w04_awake, twigs_r, twHollow_r, twTrim_r, twSome_r, sameOne_r]
theorem awake04_r {roots : List Nat} {b : Nat} {ss : List Nat} {σ : St} {k : AV → St → Prop} {fr : Bool} : callT G f_w04_awake [] fr roots b ss σ k = k (Bo true) σ := awake04_ok.rule
end Go.Mw
/- The law of trimming. -/
namespace Go.Mw
set_option maxRecDepth 100000
theorem light04_big (s : Spc) (hs : SpBig s) : ∃ v, FnT G f_w04_light [eSp s] (Bo v) ∧ (v = true → SpSz s ∧ s.S.length ≤ 60) := by
 obtain ⟨v, hv, hP⟩ := few3_big s hs 1500 (by omega) (by omega)
 have hcall : ∀ {fr : Bool} {roots : List Nat} {b : Nat} {ss : List Nat} {σ : St} {k : AV → St → Prop}, callT G f_r03_Few [.agg [.lst (s.acts.map .str), .lst (s.S.map eSt)], .int .i64 1500] fr roots b ss σ k = k (Bo v) σ := hv.rule
 refine FnP.flatB (FnP.mk' g_w04_light rfl rfl ?_)
 have hS := hs.fs
 simp only [go_sem, ↓reduceIte, ↓gA, ↓gB, ↓gC, ↓gD, ↓cA, ↓cB, c_w04_light, eSp]
 by_cases h : (s.S.length : Int) ≤ 60
 ·simp only [go_sem, ↓reduceIte, ↓gA, ↓gB, ↓gC, ↓gD, ↓cA, ↓cB, h, hcall, bo_exB]; exact fun hv => ⟨hP hv, by omega⟩
 ·simp only [go_sem, ↓reduceIte, ↓gA, ↓gB, ↓gC, ↓gD, ↓cA, ↓cB, h, bo_exB]
section
variable {roots : List Nat} {b : Nat} {ss : List Nat} {σ : St} {k : AV → St → Prop}
end
end Go.Mw
/- Which products a system satisfies, as the program finds them: the walk. -/
namespace Go.Mw
set_option maxRecDepth 100000
theorem mupE_nil {a c : Int} {v : AV} {h : List Ob} {r st ss : Nat} {q : List Ob → Prop} : mupE a c v h r st ss [] q = q (h.set r ⟨st, ss, .ownm (entsE (putM [] (a, c) v))⟩) := @mupE_E a c v h r st ss [] q
attribute [go_sem] mupE_nil
end Go.Mw
/- Maps in cells. -/
namespace Go.Mw
set_option maxRecDepth 100000
theorem takeCellK_mp {h : List Ob} {r st ss : Nat} {p : Path} {q : AV → List Ob → Prop} : takeCellK h (.mp r st p ss) q = nodeK h r st p ss (fun nd => ownmK nd (fun es => setObK h r p .gone false (fun h' => q (.ownm es) h'))) := by
 simp only [takeCellK, takeCell, nodeK, ownmK, setObK]
 cases node h r st p ss with
 | none => rfl
 | some nd =>
   cases nd <;> first | rfl | skip
   simp only
   cases setOb h r p .gone false <;> rfl
theorem one_mp {h : List Ob} {r st ss : Nat} {p : Path} : oneK h (.mp r st p ss) = nodeK h r st p ss (fun nd => ownmK nd (fun _ => True)) := by
 simp only [oneK, okOne, nodeK, ownmK]
 cases node h r st p ss with
 | none => simp
 | some nd => cases nd <;> simp
theorem cells_mp {r st ss : Nat} {p : Path} : (AV.mp r st p ss).cells = [.mp r st p ss] := (rfl)
theorem isNode_ownm {es : List (AV × AV)} : isNode (.ownm es) = true := (rfl)
theorem lokK_mpP {kk : KK} {z : AV} {ok : Bool} {x : AV} {h : List Ob} {r st ss : Nat} {p : Path} {q : AV → Prop} : lokK kk z ok (.mp r st p ss) x h q = nodeK h r st p ss (fun nd => ownmK nd (fun es => lokE kk z ok x es q)) := by
 simp only [lokK, nodeK, ownmK, lokE]
 cases node h r st p ss with
 | none => rfl
 | some nd => cases nd <;> rfl
def mupF (kk : KK) (x v : AV) (es : List (AV × AV)) (k : List (AV × AV) → Prop) (u : Tg k := tg) : Prop :=
 match findK kk x es with
 | some (some i) => (match es[i]? with | some (k', _) => k (es.set i (k', v)) | none => False)
 | some none => k (es ++ [(x, v)])
 | none => False
theorem mupF_congr {kk : KK} {x x' v v' : AV} {es es' : List (AV × AV)} {k : List (AV × AV) → Prop} (h0 : x = x') (h1 : v = v') (h2 : es = es') : mupF kk x v es k = mupF kk x' v' es' k := by cases h0; cases h1; cases h2; rfl
attribute [congr] mupF_congr
theorem mupK_mpP {kk : KK} {x v : AV} {h : List Ob} {r st ss : Nat} {p : Path} {q : List Ob → Prop} : mupK kk (.mp r st p ss) x v h q =
 nodeK h r st p ss (fun nd => ownmK nd (fun es => (v.free = true ∧ x.free = true) ∧ mupF kk x v es (fun es' => setObK h r p (.ownm es') false q))) := by
 simp only [mupK, nodeK, ownmK, mupF, setObK]
 cases node h r st p ss with
 | none => rfl
 | some nd =>
   cases nd <;> first | rfl | skip
   rename_i es
   simp only
   by_cases hc : v.free = true ∧ x.free = true
   ·simp only [hc, and_self, if_true, true_and]
    cases findK kk x es with
    | none => rfl
    | some o =>
      cases o with
      | none => rfl
      | some i =>
        simp only
        cases es[i]? with
        | none => rfl
        | some e => rfl
   ·rw [if_neg hc]; simp only [hc, false_and]
theorem mupF_E {a c : Int} {v : AV} {l : List KV} {q : List (AV × AV) → Prop} : mupF (true, [1, 1]) (.agg [I a, I c]) v (entsE l) q = q (entsE (putM l (a, c) v)) := by
 have h := @mupE_E a c v [] 0 0 0 l (fun h => True)
 simp only [mupF, findK_E]
 cases hf : l.findIdx? fun e => e.1 == (a, c) with
 | none =>
   have := @ens_none l (a, c) v v hf
   simp only [putM, this]
   simp [entsE, eKV]
 | some i =>
   obtain ⟨hi, _⟩ := idx_lt hf
   have hs : hasM l (a, c) = true := by rw [has_idx, hf]; rfl
   have hg : (entsE l)[i]? = some (eKV l[i]) := by simp [entsE, hi]
   simp only [hg]
   simp only [putM, ensM, hs, if_true, idxM, hf, Option.getD_some]
   rw [← setIM_E hg]
end Go.Mw
/- A system that satisfies a trimmed specification: plain facts. -/
namespace Go.Mw
set_option maxRecDepth 100000
structure WSp (t : Spc) : Prop where
 ok : SpcOk t
 ne : ∀ x < t.S.length, 0 < t.S[x]!.A.length
def fsN (t : Spc) (x : Nat) : Nat := t.S[x]!.A[0]!.toNat
def tgW (t : Spc) (x k : Nat) : List Int := ((List.range k).filter fun a => (fsN t x).testBit a).map fun a => t.S[x]!.X[a]!
def nxW (t : Spc) (x : Nat) : List Int := tgW t x t.acts.length
def ordW (t : Spc) : List Nat := orderL t.S.length (nxW t)
def edW (t : Spc) (x k : Nat) : List Ed := ((List.range k).filter fun a => (fsN t x).testBit a).map fun a => ⟨(a : Nat), ((ordW t).idxOf t.S[x]!.X[a]!.toNat : Nat)⟩
def witOf (t : Spc) : Sys := ⟨t.acts, (ordW t).map fun x => edW t x t.acts.length⟩
theorem tgW_next {t : Spc} {x k : Nat} (h : (fsN t x).testBit k = true) : tgW t x (k + 1) = tgW t x k ++ [t.S[x]!.X[k]!] := by
 unfold tgW; rw [List.range_succ, List.filter_append]; simp [h]
theorem tgW_skip {t : Spc} {x k : Nat} (h : (fsN t x).testBit k = false) : tgW t x (k + 1) = tgW t x k := by
 unfold tgW; rw [List.range_succ, List.filter_append]; simp [h]
theorem edW_next {t : Spc} {x k : Nat} (h : (fsN t x).testBit k = true) : edW t x (k + 1) = edW t x k ++ [⟨(k : Nat), ((ordW t).idxOf t.S[x]!.X[k]!.toNat : Nat)⟩] := by
 unfold edW; rw [List.range_succ, List.filter_append]; simp [h]
theorem edW_skip {t : Spc} {x k : Nat} (h : (fsN t x).testBit k = false) : edW t x (k + 1) = edW t x k := by
 unfold edW; rw [List.range_succ, List.filter_append]; simp [h]
theorem edW_len {t : Spc} {x k : Nat} : (edW t x k).length ≤ k := by
 unfold edW; rw [List.length_map]; exact Nat.le_trans (List.length_filter_le _ _) (by simp)
section
variable {t : Spc} (h : WSp t)
include h
theorem WSp.fs_mem {x : Nat} (hx : x < t.S.length) : ((fsN t x : Nat) : Int) ∈ t.S[x]!.A := by
 have h0 := h.ne x hx
 have := (h.ok.st x hx).a 0 h0
 unfold fsN
 rw [Int.toNat_of_nonneg this.1]
 exact getMem h0
theorem WSp.fs_lt {x : Nat} (hx : x < t.S.length) : fsN t x < 2 ^ t.acts.length := by
 have h0 := h.ne x hx
 have := (h.ok.st x hx).a 0 h0
 unfold fsN; omega
theorem WSp.fs_bit {x a : Nat} (hx : x < t.S.length) (hb : (fsN t x).testBit a = true) : a < t.acts.length ∧ 0 ≤ t.S[x]!.X[a]! ∧ t.S[x]!.X[a]! < (t.S.length : Int) := by
 have h0 := h.ne x hx
 have hst := h.ok.st x hx
 have ha : a < t.acts.length := testBit_lt (h.fs_lt hx) hb
 exact ⟨ha, hst.has 0 h0 a ha hb, (hst.x a ha).2⟩
theorem WSp.nx {x : Nat} (hx : x < t.S.length) : ∀ k ∈ nxW t x, k < (t.S.length : Int) := by
 intro k hk
 unfold nxW tgW at hk
 obtain ⟨a, ha, rfl⟩ := List.mem_map.1 hk
 exact (h.fs_bit hx (List.mem_filter.1 ha).2).2.2
theorem WSp.vi (i : Nat) : VI t.S.length (bfsAt t.S.length (nxW t) i) := bfs_vi h.ok.s1 (fun x hx => h.nx hx) i
theorem WSp.lt {x : Nat} (hx : x ∈ ordW t) : x < t.S.length := (((h.vi t.S.length).m x).1 hx).1
theorem WSp.len : (ordW t).length ≤ t.S.length := (h.vi t.S.length).len
theorem WSp.pos : 0 < (ordW t).length := (h.vi t.S.length).pos
theorem WSp.zero : (ordW t)[0]! = 0 := by
 rw [List.getElem!_eq_getElem?_getD, show (ordW t)[0]? = some 0 from (h.vi t.S.length).z]; rfl
theorem WSp.nd : (ordW t).Nodup := (h.vi t.S.length).nd
theorem WSp.closed {x a : Nat} (hx : x ∈ ordW t) (hb : (fsN t x).testBit a = true) : t.S[x]!.X[a]!.toNat ∈ ordW t := by
 obtain ⟨h1, h2, h3⟩ := h.fs_bit (h.lt hx) hb
 refine bfs_closed h.ok.s1 (fun x hx => h.nx hx) x hx _ ?_ h2
 unfold nxW tgW
 exact List.mem_map.2 ⟨a, List.mem_filter.2 ⟨List.mem_range.2 h1, hb⟩, rfl⟩
omit h in
theorem wit_get {i : Nat} (hi : i < (ordW t).length) : (witOf t).S[i]! = edW t (ordW t)[i]! t.acts.length := by
 simp only [witOf]
 rw [getElem!_pos _ i (by simpa using hi), List.getElem_map, getElem!_pos (ordW t) i hi]
omit h in
theorem edW_mem {x : Nat} {e : Ed} (he : e ∈ edW t x t.acts.length) : ∃ a : Nat, (fsN t x).testBit a = true ∧ a < t.acts.length ∧ e = ⟨(a : Nat), ((ordW t).idxOf t.S[x]!.X[a]!.toNat : Nat)⟩ := by
 unfold edW at he
 obtain ⟨a, ha, rfl⟩ := List.mem_map.1 he
 obtain ⟨h1, h2⟩ := List.mem_filter.1 ha
 exact ⟨a, h2, List.mem_range.1 h1, rfl⟩
omit h in
theorem edW_pw {x k : Nat} : (edW t x k).Pairwise fun d e => d.a < e.a := by
 unfold edW
 rw [List.pairwise_map]
 refine List.Pairwise.imp (R := fun a b : Nat => a < b) (fun {a b} hab => by simp only; omega) ?_
 exact List.Pairwise.filter _ List.pairwise_lt_range
theorem wit_ok : SysOk (witOf t) := by
 have hlen : (witOf t).S.length = (ordW t).length := by simp [witOf]
 have h8 := actsOk_len h.ok.acts
 have hl := h.len
 have hs2 := h.ok.s2
 have hel : ∀ i, (hi : i < (witOf t).S.length) → (witOf t).S[i]!.length ≤ 8 := fun i hi => by
  rw [wit_get (by omega)]; exact Nat.le_trans edW_len h8
 have hsum : ∀ i, i ≤ (witOf t).S.length → sumE (witOf t) i ≤ i * 8 := by
  intro i
  induction i with
  | zero => intro _; simp [sumE]
  | succ i ih => intro hi; rw [sumE_succ (by omega)]; have := ih (by omega); have := hel i (by omega); omega
 refine ⟨h.ok.acts, by rw [hlen]; exact h.pos, by rw [hlen]; omega, fun i hi => ?_, ?_⟩
 ·rw [hlen] at hi
  rw [wit_get hi, hlen]
  have hx : (ordW t)[i]! ∈ ordW t := getMem hi
  intro j hj
  obtain ⟨a, hb, ha, he⟩ := edW_mem (getMem hj)
  have hlt := List.idxOf_lt_length_of_mem (h.closed hx hb)
  refine ⟨by rw [he]; simp only; omega, by rw [he]; simp only [witOf]; omega, by rw [he]; simp only; omega, by rw [he]; simp only; omega, fun h0 => ?_⟩
  have hpw := @edW_pw t (ordW t)[i]! t.acts.length
  have := List.pairwise_iff_getElem.1 hpw (j - 1) j (by omega) hj (by omega)
  rw [← getElem!_pos _ (j - 1) (by omega), ← getElem!_pos _ j hj] at this
  unfold befE
  have hlt2 : (edW t (ordW t)[i]! t.acts.length)[j - 1]!.a < (edW t (ordW t)[i]! t.acts.length)[j]!.a := this
  exact decide_eq_true (.inl hlt2)
 ·have := hsum _ (Nat.le_refl _); omega
theorem wit_sz : SySz (witOf t) := by
 have hlen : (witOf t).S.length = (ordW t).length := by simp [witOf]
 have h8 := actsOk_len h.ok.acts
 have hl := h.len
 have hs2 := h.ok.s2
 refine ⟨by simp only [witOf]; omega, by omega, fun i hi => ?_⟩
 rw [wit_get (by omega)]
 have := @edW_len t (ordW t)[i]! t.acts.length
 omega
omit h in
theorem offN_fold {l : List Ed} {u a : Nat} : (l.foldl (fun s e => s ||| 2 ^ e.a.toNat) u).testBit a = (u.testBit a || l.any fun e => e.a.toNat == a) := by
 induction l generalizing u with
 | nil => simp
 | cons e l ih =>
   rw [List.foldl_cons, ih, Nat.testBit_or, Nat.testBit_two_pow, List.any_cons, Bool.or_assoc]
   rfl
theorem wit_off {x : Nat} (hx : x < t.S.length) : offN (edW t x t.acts.length) = fsN t x := by
 apply Nat.eq_of_testBit_eq
 intro a
 unfold offN
 rw [offN_fold]
 simp only [Nat.zero_testBit, Bool.false_or]
 by_cases hb : (fsN t x).testBit a = true
 ·rw [hb]
  refine List.any_eq_true.2 ⟨⟨(a : Nat), ((ordW t).idxOf t.S[x]!.X[a]!.toNat : Nat)⟩, ?_, by simp⟩
  unfold edW
  exact List.mem_map.2 ⟨a, List.mem_filter.2 ⟨List.mem_range.2 (h.fs_bit hx hb).1, hb⟩, rfl⟩
 ·rw [Bool.not_eq_true] at hb
  rw [hb]
  refine List.any_eq_false.2 fun e he => ?_
  obtain ⟨b, hb2, _, rfl⟩ := edW_mem he
  simp only [Int.toNat_natCast, beq_iff_eq]
  intro e
  rw [e] at hb2; rw [hb2] at hb; cases hb
end
theorem trim_wsp {s : Spc} (h : SpcOk s) (h0 : (holL s)[0]! = false) : WSp (trimOf s) := by
 have hb := h.b h.sz
 refine ⟨(trim_ok h).ok, fun x hx => ?_⟩
 have hl : x < (ordOf s).length := by simpa [trimOf] using hx
 rw [trim_get hl]
 obtain ⟨g1, g2⟩ := ord_solid h h0 s.S.length _ (getMem hl : (ordOf s)[x]! ∈ ordOf s)
 have hne := kept_ne h g1 g2
 have : (trimS s (ordOf s)[x]!).A = keptL s (ordOf s)[x]! := by
  simp only [trimS, solS, solA]; rw [if_neg (by rw [g2]; simp)]
 rw [this]
 exact List.length_pos_iff.2 hne
theorem wit_sat {s : Spc} (h : SpcOk s) (h0 : (holL s)[0]! = false) : Sat (witOf (trimOf s)) s := by
 have hb := h.b h.sz
 have h1 : 0 < s.S.length := h.s1
 have hw := trim_wsp h h0
 have hacts : (trimOf s).acts = s.acts := rfl
 have htl : (trimOf s).S.length = (ordOf s).length := by simp [trimOf]
 refine sat_of (P := fun i y => i < (ordW (trimOf s)).length ∧ y = (ordOf s)[(ordW (trimOf s))[i]!]!) ⟨⟨hw.pos, by rw [hw.zero, ord_zero hb h1]⟩, ?_⟩ ?_
 ·rintro i y ⟨hi, rfl⟩ hg j hj
  rw [wit_get hi] at hj ⊢
  have hx := getMem hi
  generalize (ordW (trimOf s))[i]! = x at *
  have hxl : x < (ordOf s).length := by rw [← htl]; exact hw.lt hx
  obtain ⟨a, hbit, ha, he⟩ := edW_mem (getMem hj)
  rw [he]
  simp only [Int.toNat_natCast]
  have hcl := hw.closed hx hbit
  have hX0 := (hw.fs_bit (hw.lt hx) hbit).2.1
  have hil := List.idxOf_lt_length_of_mem hcl
  refine ⟨hil, ?_⟩
  rw [getElem!_pos (ordW (trimOf s)) _ hil, List.getElem_idxOf hil]
  -- where the action goes
  obtain ⟨g1, g2⟩ := ord_solid h h0 s.S.length _ (getMem hxl : (ordOf s)[x]! ∈ ordOf s)
  have haX : a < s.S[(ordOf s)[x]!]!.X.length := by rw [(h.st _ g1).len]; exact ha
  rw [trim_get hxl] at hX0 ⊢
  rw [trimS_X haX] at hX0 ⊢
  by_cases hu : (usedN (solA s (ordOf s)[x]!)).testBit a = true
  ·rw [if_pos hu] at hX0 ⊢
   have hs0 := solX_used h g1 haX hu
   have hmo : s.S[(ordOf s)[x]!]!.X[a]!.toNat ∈ ordOf s := by
    have hc := ord_closed hb h1 _ (getMem hxl : (ordOf s)[x]! ∈ ordOf s)
    rw [solid_get g1] at hc
    have hm : (solS s (ordOf s)[x]!).X[a]! ∈ (solS s (ordOf s)[x]!).X := getMem (by simp only [solS, onlyX_len]; exact haX)
    have hq := hc _ hm
    rw [solX_get haX, if_pos hu] at hq
    exact hq hs0
   have hil2 := List.idxOf_lt_length_of_mem hmo
   unfold placeX
   have hgv : (ordOf s)[(ordOf s).idxOf s.S[(ordOf s)[x]!]!.X[a]!.toNat]! = s.S[(ordOf s)[x]!]!.X[a]!.toNat := by rw [getElem!_pos (ordOf s) _ hil2, List.getElem_idxOf hil2]
   rw [if_pos hs0, Int.toNat_natCast, hgv]
   rfl
  ·rw [if_neg hu] at hX0
   unfold placeX at hX0; simp at hX0
 ·rintro i y ⟨hi, rfl⟩
  unfold goodP
  rw [wit_get hi]
  have hx := getMem hi
  generalize (ordW (trimOf s))[i]! = x at *
  have hxt := hw.lt hx
  have hxl : x < (ordOf s).length := by rw [← htl]; exact hxt
  rw [wit_off hw hxt]
  have hm := hw.fs_mem hxt
  rw [trim_get hxl] at hm
  exact solA_mem hm
end Go.Mw
/- Sorting a short row of edges that is sorted. -/
namespace Go.Mw
set_option maxRecDepth 100000
theorem wit1_ok (d e : Ed) (h1 : -1099511627776 ≤ d.a ∧ d.a ≤ 1099511627776) (h2 : -1099511627776 ≤ e.a ∧ e.a ≤ 1099511627776) (h3 : -1099511627776 ≤ d.t ∧ d.t ≤ 1099511627776) (h4 : -1099511627776 ≤ e.t ∧ e.t ≤ 1099511627776) : FnT G f_prune_Witness_1 [eE d, eE e] (I (ordE d e)) := by
 refine FnP.mk' g_prune_Witness_1 rfl rfl ?_
 have w1 : IntKind.i64.wrap (d.a - e.a) = d.a - e.a := by rw [wrapI] <;> omega
 have w2 : IntKind.i64.wrap (d.t - e.t) = d.t - e.t := by rw [wrapI] <;> omega
 simp only [go_sem, ↓reduceIte, ↓gA, ↓gB, ↓gC, ↓gD, ↓cA, ↓cB, c_prune_Witness_1, eE, w1, w2]
 unfold ordE
 refine ⟨fun h => ?_, fun h => ?_⟩
 ·rw [if_pos (by simpa using h)]
 ·rw [if_neg (by simpa using h)]
def isI : Option (List AV × St) → Bool
 | some ([.int .i64 _], _) => true
 | _ => false
theorem isI_at {x : Option (List AV × St)} (h : isI x = true) : ∃ v σ, x = some ([I v], σ) := by
 unfold isI at h
 split at h
 ·rename_i v σ; exact ⟨v, σ, rfl⟩
 ·cases h
theorem len_run : ∀ n < 9, isI (runF G 60 F_math_bits_Len [.int .u64 (n : Nat)] [] []) = true := by decide +kernel
theorem len_ok (n : Nat) (hn : n ≤ 8) : ∃ v, FnT G f_math_bits_Len [.int .u64 n] (I v) := by
 obtain ⟨v, σ, h⟩ := isI_at (len_run n (by omega))
 exact ⟨v, F_math_bits_Len, 60, _, σ, g_math_bits_Len, rfl, rfl, rfl, rfl, h, rfl, rfl⟩
structure RisE (l : List Ed) : Prop where
 len : l.length ≤ 8
 sm : ∀ i < l.length, (0 ≤ l[i]!.a ∧ l[i]!.a ≤ 1099511627776) ∧ (0 ≤ l[i]!.t ∧ l[i]!.t ≤ 1099511627776)
 ris : ∀ i < l.length, 0 < i → l[i-1]!.a < l[i]!.a
theorem insE_ok (l : List Ed) (h : RisE l) : FnT G f_slices_insertionSortCmpFunc_api_Edge_ [.lst (l.map eE), I 0, I l.length, .fn f_prune_Witness_1 []] (.tup []) := by
 refine FnP.mk' g_slices_insertionSortCmpFunc_api_Edge_ rfl rfl ?_
 have hl := h.len
 simp only [go_sem, ↓reduceIte, ↓gA, ↓gB, ↓gC, ↓gD, ↓cA, ↓cB, c_slices_insertionSortCmpFunc_api_Edge_, wrapI (show (-9223372036854775808 : Int) ≤ 0 + 1 by omega) (by omega)]
 refine wp_loopQ (fun (i : Nat) σ => 1 ≤ i ∧ σ = ⟨aT .undef 53 [(0, .lst (l.map eE)), (1, I 0), (2, I l.length), (3, .fn f_prune_Witness_1 []), (8, I i)], [], []⟩) (fun i => l.length - i) ?_ 1 ?_
 ·rintro i σ ⟨hi, rfl⟩ N Q hQ hN
  by_cases hlt : i < l.length
  ·have hi1 : i - 1 < l.length := by omega
   have w1 : IntKind.i64.wrap ((i : Int) - 1) = ((i - 1 : Nat) : Int) := by rw [wrapI] <;> omega
   obtain ⟨s1, s2⟩ := h.sm i hlt
   obtain ⟨s3, s4⟩ := h.sm (i - 1) hi1
   have hr := h.ris i hlt (by omega)
   have hcall : ∀ {fr : Bool} {roots : List Nat} {b : Nat} {ss : List Nat} {σ : St} {k : AV → St → Prop}, callT G f_prune_Witness_1 [.agg [I l[i]!.a, I l[i]!.t], .agg [I l[i-1]!.a, I l[i-1]!.t]] fr roots b ss σ k = k (I (ordE l[i]! l[i-1]!)) σ := (wit1_ok _ _ (by omega) (by omega) (by omega) (by omega)).rule
   have ho : ¬ ordE l[i]! l[i-1]! < 0 := by unfold ordE; rw [if_pos (by omega)]; omega
   have hgt : (0 : Int) < (i : Int) := by omega
   simp only [go_sem, ↓reduceIte, ↓gA, ↓gB, ↓gC, ↓gD, ↓cA, ↓cB, Int.ofNat_lt, hlt]
   refine wp_loopQ (fun (_ : Unit) σ => σ = ⟨aT .undef 53 [(0, .lst (l.map eE)), (1, I 0), (2, I l.length), (3, .fn f_prune_Witness_1 []), (8, I i), (9, I i)], [], []⟩) (fun _ => 0) ?_ () ?_
   ·rintro _ σ rfl N2 Q2 hQ2 hN2
    subst hQ2
    simp only [go_sem, ↓reduceIte, ↓gA, ↓gB, ↓gC, ↓gD, ↓cA, ↓cB, hgt, hlt, hi1, w1, eE, hcall, ho, Int.ofNat_lt, wrap_succ hlt (show l.length ≤ 1000000000 by omega)]
    refine hN (i + 1) _ (by omega) ⟨by omega, ?_⟩
    simp only [go_sem, ↓reduceIte, ↓gA, ↓gB, ↓gC, ↓gD, ↓cA, ↓cB]
   ·simp only [go_sem, ↓reduceIte, ↓gA, ↓gB, ↓gC, ↓gD, ↓cA, ↓cB]
  ·subst hQ
   simp only [go_sem, ↓reduceIte, ↓gA, ↓gB, ↓gC, ↓gD, ↓cA, ↓cB, Int.ofNat_lt, hlt]
 ·refine ⟨Nat.le_refl _, ?_⟩
  simp only [go_sem, ↓reduceIte, ↓gA, ↓gB, ↓gC, ↓gD, ↓cA, ↓cB]
  rfl
theorem pdqE_ok (l : List Ed) (h : RisE l) (v : Int) : FnT G f_slices_pdqsortCmpFunc_api_Edge_ [.lst (l.map eE), I 0, I l.length, I v, .fn f_prune_Witness_1 []] (.tup []) := by
 have hins : ∀ {fr : Bool} {roots : List Nat} {b : Nat} {ss : List Nat} {σ : St} {k : AV → St → Prop}, callT G f_slices_insertionSortCmpFunc_api_Edge_ [.lst (l.map eE), I 0, I l.length, .fn f_prune_Witness_1 []] fr roots b ss σ k = k (.tup []) σ := (insE_ok l h).rule
 refine FnP.mk' g_slices_pdqsortCmpFunc_api_Edge_ rfl rfl ?_
 have hl := h.len
 simp only [go_sem, ↓reduceIte, ↓gA, ↓gB, ↓gC, ↓gD, ↓cA, ↓cB, c_slices_pdqsortCmpFunc_api_Edge_]
 refine wp_loopQ (fun (_ : Unit) σ => σ = ⟨aT .undef 148 [(0, .lst (l.map eE)), (1, I 0), (2, I l.length), (3, I v), (4, .fn f_prune_Witness_1 []), (10, Bo true), (11, Bo true)], [], []⟩) (fun _ => 0) ?_ () ?_
 ·rintro _ σ rfl N Q hQ hN
  have w1 : IntKind.i64.wrap ((l.length : Int) - 0) = (l.length : Int) := by rw [wrapI] <;> omega
  have h12 : (l.length : Int) ≤ 12 := by omega
  subst hQ
  simp only [go_sem, ↓reduceIte, ↓gA, ↓gB, ↓gC, ↓gD, ↓cA, ↓cB, w1, h12, hins]
 ·simp only [go_sem, ↓reduceIte, ↓gA, ↓gB, ↓gC, ↓gD, ↓cA, ↓cB]
theorem sortE_ok (l : List Ed) (h : RisE l) : FnT G f_slices_SortFuncZaiEeai [.lst (l.map eE), .fn f_prune_Witness_1 []] (.tup []) := by
 obtain ⟨v, hv⟩ := len_ok l.length h.len
 have hlen : ∀ {fr : Bool} {roots : List Nat} {b : Nat} {ss : List Nat} {σ : St} {k : AV → St → Prop}, callT G f_math_bits_Len [.int .u64 l.length] fr roots b ss σ k = k (I v) σ := hv.rule
 have hpdq : ∀ {fr : Bool} {roots : List Nat} {b : Nat} {ss : List Nat} {σ : St} {k : AV → St → Prop}, callT G f_slices_pdqsortCmpFunc_api_Edge_ [.lst (l.map eE), I 0, I l.length, I v, .fn f_prune_Witness_1 []] fr roots b ss σ k = k (.tup []) σ := (pdqE_ok l h v).rule
 have hl := h.len
 have w1 : IntKind.u64.wrap (l.length : Int) = (l.length : Int) := by
  have h1 : ∀ n : Nat, n < 9 → IntKind.u64.wrap (n : Int) = (n : Int) := by decide
  exact h1 _ (by omega)
 refine FnP.mk' g_slices_SortFuncZaiEeai rfl rfl ?_
 simp only [go_sem, ↓reduceIte, ↓gA, ↓gB, ↓gC, ↓gD, ↓cA, ↓cB, c_slices_SortFuncZaiEeai, w1, hlen, hpdq]
theorem sortE_r {l : List Ed} (h : RisE l) {fr : Bool} {roots : List Nat} {b : Nat} {ss : List Nat} {σ : St} {k : AV → St → Prop} :
 callT G f_slices_SortFuncZaiEeai [.lst (l.map eE), .fn f_prune_Witness_1 []] fr roots b ss σ k = k (.tup []) σ := (sortE_ok l h).rule
end Go.Mw
