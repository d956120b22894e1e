/- Trimming, as the program does it. -/
import Derived.Test.YtlkjckdddfckeaaM23
set_option linter.unusedVariables false
set_option linter.unusedSimpArgs false
namespace Go.Mw
set_option maxRecDepth 100000
theorem left_ok (s : Spc) : Fn G f_prune_Left [eSp s] (.fn f_prune_Left_1 [.pfro [.lst (s.acts.map .str), .lst (s.S.map eSt)]]) := by
 refine FnP.mk' g_prune_Left rfl rfl ?_
 simp only [go_sem, ↓reduceIte, ↓gA, ↓gB, ↓gC, ↓gD, ↓cA, ↓cB, c_prune_Left, eSp]
theorem left_r {s : Spc} {roots : List Nat} {b : Nat} {ss : List Nat} {σ : St} {k : AV → St → Prop} : callT G f_prune_Left [.agg [.lst (s.acts.map .str), .lst (s.S.map eSt)]] true roots b ss σ k = k (.fn f_prune_Left_1 [.pfro [.lst (s.acts.map .str), .lst (s.S.map eSt)]]) σ := (left_ok s).rule
theorem free14 {ks : List Nat} {h : List Ob} : freeSites 14 ks h = freeL (ks.map (14 + ·)) 0 h := by rw [freeSites_b, free_sites]
theorem setPs_nil {t : List AV} : setPs [] [] t = t := (rfl)
theorem setPs_cons {p : Nat} {ps : List Nat} {v : AV} {vs t : List AV} : setPs (p :: ps) (v :: vs) t = setPs ps vs (t.set p v) := (rfl)
def tLp (t : List AV) (pend : Option Ex) (busy : Bool) : Lp := { base := 0, t, ps := [26, 27], kt := rest 104 [1, 2, 3, 4, 5, 6], ks := [6, 7, 8, 9], asg := a_prune_Trimmed_0, body := b_prune_Trimmed_0, pend, busy }
noncomputable def keptS (s : Spc) (x : Nat) : Stt := ⟨keptL s x, []⟩
noncomputable def tHeap (s : Spc) (z2 z3 a4 c4 z5 : Nat) (i : Nat) (o6 o7 o8 o9 : Ob) : List Ob :=
 [⟨1, 0, .own 2 [.agg [.lst (s.acts.map .str), .lst (s.S.map eSt)]]⟩, ⟨1, 0, .own 2 [.agg [.nils, .nils]]⟩, ⟨1, z2, .own 2 [.agg [.lst (s.acts.map .str), cellv .nils 2 ((((ordOf s).take i).map (keptS s)).map rowS)]]⟩,
  ⟨1, z3, .own 1 [cellv .nils 1 (((ordOf s).take i).map eN)]⟩, ⟨a4, c4, .gone⟩, ⟨1, z5, .own 1 [.own 1 ((placeL (ordOf s) s.S.length i).map eN)]⟩, o6, o7, o8, o9, ⟨0, 0, .gone⟩, ⟨0, 0, .gone⟩, ⟨0, 0, .gone⟩, ⟨0, 0, .gone⟩]
theorem trim_loop (s : Spc) (h : SpcOk s) (h0 : (holL s)[0]! = false) (l : List (Nat × AV)) (l25 : look (.tup []) 25 l = .fn f_prune_Left_1 [.pfro [.lst (s.acts.map .str), .lst (s.S.map eSt)]])
 (l1 : look (.tup []) 1 l = .ptr 0 1 [] 0 0 0) (l2 : look (.tup []) 2 l = .ptr 1 1 [] 0 0 0) (l3 : look (.tup []) 3 l = .nils) (l4 : look (.tup []) 4 l = .ptr 2 1 [] 0 0 0) (l5 : look (.tup []) 5 l = .ptr 3 1 [] 0 0 0) (l6 : look (.tup []) 6 l = .ptr 5 1 [] 0 0 0)
 {Q : Ex → St → Prop} (hQ : ∀ z2 z3 a4 c4 z5 o6 o7 o8 o9, Q .nrm ⟨aT (.tup []) 104 l, tHeap s z2 z3 a4 c4 z5 (ordOf s).length o6 o7 o8 o9, []⟩) :
 Wp G (.rngf (.t 25) [26, 27] (rest 104 [1, 2, 3, 4, 5, 6]) [6, 7, 8, 9] a_prune_Trimmed_0 b_prune_Trimmed_0) 0 ⟨aT (.tup []) 104 l, tHeap s 0 0 1 0 1 0 ⟨0, 0, .gone⟩ ⟨0, 0, .gone⟩ ⟨0, 0, .gone⟩ ⟨0, 0, .gone⟩, []⟩ Q := by
 have hz := h.sz
 have hb := h.b hz
 have h1 : 0 < s.S.length := h.s1
 have h8 := actsOk_len h.acts
 have hS := h.s2
 have hol := hol0_lt h1
 have hvi := fun i => bfs_vi (nx := fun x => (solidOf s).S[x]!.X) h1 (sol_xb hb) i
 have hsol := ord_solid h h0
 refine wp_rngf (g := f_prune_Left_1) (cs := [.pfro [.lst (s.acts.map .str), .lst (s.S.map eSt)]]) (by simp only [go_sem, ↓reduceIte, ↓gA, ↓gB, ↓gC, ↓gD, ↓cA, ↓cB, l25]) (wpCall_S g_prune_Left_1 rfl ?_)
 rw [entry_aT (by simp)]
 have hrec : ∀ t pe bu, ({ base := 0, t, ps := [26, 27], kt := rest 104 [1, 2, 3, 4, 5, 6], ks := [6, 7, 8, 9], asg := a_prune_Trimmed_0, body := b_prune_Trimmed_0, pend := pe, busy := bu } : Lp) = tLp t pe bu := fun _ _ _ => rfl
 simp only [hrec]
 simp only [go_sem, ↓reduceIte, ↓gA, ↓gB, ↓gC, ↓gD, ↓cA, ↓cB, c_prune_Left_1, hollows_r hb h.x8, hol, h0, tHeap, rep_setB]
 refine ⟨by omega, by omega, h1, ?_⟩
 have hend : ∀ i, (bfsAt s.S.length (fun x => (solidOf s).S[x]!.X) i).2.length = i → i = (ordOf s).length := fun i hi => by
  have := bfs_end h1 (sol_xb hb) hi
  rw [show ordOf s = (bfsAt s.S.length (fun x => (solidOf s).S[x]!.X) i).2 from this.symm]; exact hi.symm
 have hpre : ∀ i, i ≤ s.S.length → (bfsAt s.S.length (fun x => (solidOf s).S[x]!.X) i).2 <+: ordOf s := fun i hi => by
  have := bfs_mono (n := s.S.length) (nx := fun x => (solidOf s).S[x]!.X) (i := i) (s.S.length - i)
  rw [show i + (s.S.length - i) = s.S.length by omega] at this; exact this
 have hbsucc : ∀ i, bfsAt s.S.length (fun x => (solidOf s).S[x]!.X) (i + 1) = if i < (bfsAt s.S.length (fun x => (solidOf s).S[x]!.X) i).2.length then ((solidOf s).S[(bfsAt s.S.length (fun x => (solidOf s).S[x]!.X) i).2[i]!]!.X).foldl visit (bfsAt s.S.length (fun x => (solidOf s).S[x]!.X) i) else bfsAt s.S.length (fun x => (solidOf s).S[x]!.X) i := fun i => rfl
 have hond := ord_nd hb h1
 have holen := ord_len hb h1
 refine wp_loopQ (fun (i : Nat) σ => i ≤ (bfsAt s.S.length (fun x => (solidOf s).S[x]!.X) i).2.length ∧ ∃ z2 z3 a4 c4 z5 o6 o7 o8 o9 z16 a17 c17 z18 a19 c19 a20 c20 a21 c21 a22 c22 a23 c23 a24 c24, σ = ⟨aT .undef 101 [(0, .yld 0), (1, .pfro [.lst (s.acts.map .str), .lst (s.S.map eSt)]), (3, .ptr 14 1 [] 0 0 0), (4, .ptr 16 1 [] 0 0 0), (5, .ptr 18 1 [] 0 0 0), (6, I i)],
  tHeap s z2 z3 a4 c4 z5 i o6 o7 o8 o9 ++ [⟨1, 0, .own 1 [.lst ((holL s).map Bo)]⟩, ⟨1, 0, .gone⟩, ⟨1, z16, .own 1 [.own 1 ((bfsAt s.S.length (fun x => (solidOf s).S[x]!.X) i).1.map Bo)]⟩, ⟨a17, c17, .gone⟩, ⟨1, z18, .own 1 [cellv .nils 1 ((bfsAt s.S.length (fun x => (solidOf s).S[x]!.X) i).2.map eN)]⟩, ⟨a19, c19, .gone⟩, ⟨a20, c20, .gone⟩, ⟨a21, c21, .gone⟩, ⟨a22, c22, .gone⟩, ⟨a23, c23, .gone⟩, ⟨a24, c24, .gone⟩], [tLp (aT (.tup []) 104 l) none false]⟩) (fun i => s.S.length + 1 - i) ?_ 0 ?_
 ·rintro i σ ⟨hi, z2, z3, a4, c4, z5, o6, o7, o8, o9, z16, a17, c17, z18, a19, c19, a20, c20, a21, c21, a22, c22, a23, c23, a24, c24, rfl⟩ N Qe hQe hN
  have hV := hvi i
  have hVl := hV.len
  have hen := hend i
  have hpr := hpre i (by omega)
  have hbs := hbsucc i
  have hso := hsol i
  generalize hp : bfsAt s.S.length (fun x => (solidOf s).S[x]!.X) i = p at *
  have hne : ¬ p.2.map eN = [] := by intro hc; rw [List.map_eq_nil_iff] at hc; have := hV.pos; rw [hc] at this; simp at this
  by_cases hlt : i < p.2.length
  ·have hx := hV.get hlt
   have hh := (hso _ (getMem hlt)).2
   rw [if_pos hlt] at hbs
   have hxi := pre_get hpr hlt
   simp only [go_sem, ↓reduceIte, ↓gA, ↓gB, ↓gC, ↓gD, ↓cA, ↓cB, tHeap, Int.ofNat_lt, hlt, hne, eN, hx, eSt]
   have hst := h.st _ hx
   have hsb := hb.st _ hx
   have hAl := h.alen hx
   have hkx : keptS s p.2[i]! = ⟨keptL s p.2[i]!, []⟩ := rfl
   have hsx : (solidOf s).S[p.2[i]!]!.X = onlyX s.S[p.2[i]!]! (usedN (keptL s p.2[i]!)) s.S[p.2[i]!]!.X.length := by
    rw [solid_get hx]; simp only [solS, solA]; rw [if_neg (by rw [hh]; simp)]
   have hkne := kept_ne h hx hh
   have hku : ∀ m, usedN (keptP s p.2[i]! m) < 2 ^ 8 := fun m => usedN_lt fun v hv => by
    obtain ⟨j, hj, e⟩ := getAt (keptP_mem hv)
    have := hst.a j hj
    have h28 : 2 ^ s.acts.length ≤ 2 ^ 8 := Nat.pow_le_pow_right (by omega) h8
    rw [e] at this; omega
   have hks := fun m hm => @keptP_succ s p.2[i]! m hm
   have hkl := fun m => @keptP_len s p.2[i]! m
   have hka := @keptP_all s p.2[i]!
   have hsxb := sol_xb hb _ hx
   have hXlen : s.S[p.2[i]!]!.X.length = s.acts.length := hst.len
   generalize hxe : p.2[i]! = x at *
   generalize hye : s.S[x]! = y at *
   refine wp_loopQ (fun (m : Nat) σ => m ≤ y.A.length ∧ ∃ a20 c20 a21 c21 a22 c22, σ = ⟨aT .undef 101 [(0, .yld 0), (1, .pfro [.lst (s.acts.map .str), .lst (s.S.map eSt)]), (3, .ptr 14 1 [] 0 0 0), (4, .ptr 16 1 [] 0 0 0), (5, .ptr 18 1 [] 0 0 0), (6, I i), (7, .ptr 19 (a19 + 1) [] 0 0 0), (8, rowv .nils 1 22 a22 ((keptP s x m).map I)), (9, I (usedN (keptP s x m) : Nat)), (43, .lst (y.A.map I)), (44, I y.A.length), (45, I m)],
    tHeap s z2 z3 a4 c4 z5 i o6 o7 o8 o9 ++ [⟨1, 0, .own 1 [.lst ((holL s).map Bo)]⟩, ⟨1, 0, .gone⟩, ⟨1, z16, .own 1 [.own 1 (p.1.map Bo)]⟩, ⟨a17, c17, .gone⟩, ⟨1, z18, .own 1 [cellv .nils 1 (p.2.map eN)]⟩, ⟨a19 + 1, 0, .own 2 [.agg [.lst (y.A.map I), .lst (y.X.map I)]]⟩, ⟨a20, c20, .gone⟩, ⟨a21, c21, .gone⟩, ⟨a22, c22, rowo 1 ((keptP s x m).map I)⟩, ⟨a23, c23, .gone⟩, ⟨a24, c24, .gone⟩], [tLp (aT (.tup []) 104 l) none false]⟩) (fun m => y.A.length - m) ?_ 0 ?_
   ·rintro m σ ⟨hm, a20, c20, a21, c21, a22, c22, rfl⟩ N2 Q2 hQ2 hN2
    by_cases hlt2 : m < y.A.length
    ·obtain ⟨t, ht, htl⟩ := hsb.nat hlt2
     have hd := dies_iff hst hlt2 (P := inB (holL s))
     have ht8 : t < 2 ^ 8 := by
      have := (hst.a m hlt2).2
      have h28 : 2 ^ s.acts.length ≤ 2 ^ 8 := Nat.pow_le_pow_right (by omega) h8
      omega
     have hmu := hku m
     have hml := hkl m
     have hms := hks m hlt2
     simp only [go_sem, ↓reduceIte, ↓gA, ↓gB, ↓gC, ↓gD, ↓cA, ↓cB, tHeap, Int.ofNat_lt, hlt2, ht, wrap_succ hlt2 (by omega)]
     refine wp_in t htl (by simp only [go_sem, ↓reduceIte, ↓gA, ↓gB, ↓gC, ↓gD, ↓cA, ↓cB]) (fun a hh' => hh' = tHeap s z2 z3 a4 c4 z5 i o6 o7 o8 o9 ++ [⟨1, 0, .own 1 [.lst ((holL s).map Bo)]⟩, ⟨1, 0, .gone⟩, ⟨1, z16, .own 1 [.own 1 (p.1.map Bo)]⟩, ⟨a17, c17, .gone⟩, ⟨1, z18, .own 1 [cellv .nils 1 (p.2.map eN)]⟩, ⟨a19 + 1, 0, .own 2 [.agg [.lst (y.A.map I), .lst (y.X.map I)]]⟩, ⟨a20 + 1, 0, .own 1 [Bo (decide (∀ b < a, t.testBit b = true → (holL s)[y.X[b]!.toNat]! = false))]⟩, ⟨a21, c21, .gone⟩, ⟨a22, c22, rowo 1 ((keptP s x m).map I)⟩, ⟨a23, c23, .gone⟩, ⟨a24, c24, .gone⟩]) ?_ ?_ ?_ ?_ ?_
     ·rintro a hh' rfl; simp only [tHeap, List.length_append, List.length_cons, List.length_nil]
     ·simp only [go_sem, ↓reduceIte, ↓gA, ↓gB, ↓gC, ↓gD, ↓cA, ↓cB, tHeap]; rw [decide_eq_true (fun b hb => absurd hb (by omega))]
     ·rintro a hh' hbit rfl
      rw [show decide (∀ b < a + 1, t.testBit b = true → (holL s)[y.X[b]!.toNat]! = false) = decide (∀ b < a, t.testBit b = true → (holL s)[y.X[b]!.toNat]! = false) from
       decide_eq_decide.2 ⟨fun g b hb => g b (by omega), fun g => forall_lt_succ g (fun g2 => by rw [hbit] at g2; cases g2)⟩]
     ·rintro a hh' hbit ha62 rfl
      have han : a < s.acts.length := testBit_lt (n := t) (by have := hst.a m hlt2; rw [ht] at this; omega) hbit
      have hX0 := hst.has m hlt2 a han (by rw [ht]; simpa [hasA] using hbit)
      have hXn := hst.x a han
      have hhl : (holL s).length = s.S.length := by simp [holL]
      simp only [go_sem, ↓reduceIte, ↓gA, ↓gB, ↓gC, ↓gD, ↓cA, ↓cB, tHeap, a_prune_Left_1_4, b_prune_Left_1_4]
      refine ⟨fun hf => ⟨by omega, hX0, by omega, ?_⟩, fun hf => ?_⟩
      ·have e : decide (∀ b < a + 1, t.testBit b = true → (holL s)[y.X[b]!.toNat]! = false) = !(holL s)[y.X[a]!.toNat]! := by
        cases hv : (holL s)[y.X[a]!.toNat]! with
        | true => exact decide_eq_false (fun g => by have := g a (by omega) hbit; rw [hv] at this; cases this)
        | false => exact decide_eq_true (forall_lt_succ hf (fun _ => hv))
       rw [e]
      ·rw [show decide (∀ b < a + 1, t.testBit b = true → (holL s)[y.X[b]!.toNat]! = false) = false from decide_eq_false (fun g => hf (fun b hb => g b (by omega)))]
     ·rintro a hh' hlta rfl
      have hfd : (∀ b < a, t.testBit b = true → (holL s)[y.X[b]!.toNat]! = false) ↔ ¬ Dies y (inB (holL s)) (t : Int) := by
       rw [ht] at hd
       rw [hd]
       constructor
       ·rintro g ⟨b, hb1, hb2⟩
        have hb3 : t.testBit b = true := by simpa [hasA] using hb1
        have := g b (testBit_lt hlta hb3) hb3
        unfold inB at hb2; rw [hb2] at this; cases this
       ·intro g b hb hb1
        cases hv : (holL s)[y.X[b]!.toNat]! with
        | false => rfl
        | true => exact absurd ⟨b, by simpa [hasA] using hb1, hv⟩ g
      rw [ht] at hms
      simp only [go_sem, ↓reduceIte, ↓gA, ↓gB, ↓gC, ↓gD, ↓cA, ↓cB, tHeap, wrap_succ hlt2 (show y.A.length ≤ 1000000000 by omega)]
      refine ⟨fun hf => ⟨by omega, hN2 (m + 1) _ (by omega) ⟨by omega, ?_⟩⟩, fun hf => hN2 (m + 1) _ (by omega) ⟨by omega, ?_⟩⟩
      ·rw [if_neg (hfd.1 hf)] at hms
       simp only [go_sem, ↓reduceIte, ↓gA, ↓gB, ↓gC, ↓gD, ↓cA, ↓cB, tHeap, hms, usedN_append, Int.toNat_natCast, bor_nat (show usedN (keptP s x m) < 2 ^ 63 by omega) (show t < 2 ^ 63 by omega), List.map_append, List.map_cons, List.map_nil]
       repeat apply Exists.intro
       rfl
      ·rw [if_pos (Classical.not_not.1 (fun g => hf (hfd.2 g)))] at hms
       simp only [go_sem, ↓reduceIte, ↓gA, ↓gB, ↓gC, ↓gD, ↓cA, ↓cB, tHeap, hms]
       repeat apply Exists.intro
       rfl
    ·have hml : m = y.A.length := by omega
     subst hml hQ2
     have hku2 := hku y.A.length
     rw [hka] at hku2 ⊢
     simp only [go_sem, ↓reduceIte, ↓gA, ↓gB, ↓gC, ↓gD, ↓cA, ↓cB, tHeap, Int.ofNat_lt, hlt2]
     have hkm : ¬ (keptL s x).map I = [] := by intro hc; rw [List.map_eq_nil_iff] at hc; exact hkne hc
     have hVa : ∀ a, VI s.S.length ((onlyX y (usedN (keptL s x)) a).foldl visit p) := by
      intro a
      induction a with
      | zero => exact hV
      | succ a ih =>
        rw [onlyX_vis]
        split
        ·rename_i hu
         refine ih.visit ?_
         obtain ⟨v, hv, hbv⟩ := usedN_bit.1 hu
         obtain ⟨j, hj, e⟩ := getAt (List.mem_filter.1 (show v ∈ s.S[x]!.A.filter _ from hv)).1
         rw [hye] at hj e
         have han : a < s.acts.length := testBit_lt (n := v.toNat) (by have := hst.a j hj; rw [e] at this; omega) hbv
         exact (hst.x a han).2
        ·exact ih
     refine wp_in (usedN (keptL s x)) (by omega) (by simp only [go_sem, ↓reduceIte, ↓gA, ↓gB, ↓gC, ↓gD, ↓cA, ↓cB]) (fun a hh' => ∃ z16 z18 o23 a24 c24, hh' = tHeap s z2 z3 a4 c4 z5 i o6 o7 o8 o9 ++ [⟨1, 0, .own 1 [.lst ((holL s).map Bo)]⟩, ⟨1, 0, .gone⟩, ⟨1, z16, .own 1 [.own 1 (((onlyX y (usedN (keptL s x)) a).foldl visit p).1.map Bo)]⟩, ⟨a17, c17, .gone⟩, ⟨1, z18, .own 1 [cellv .nils 1 (((onlyX y (usedN (keptL s x)) a).foldl visit p).2.map eN)]⟩, ⟨a19 + 1, 0, .own 2 [.agg [.lst (y.A.map I), .lst (y.X.map I)]]⟩, ⟨a20, c20, .gone⟩, ⟨a21, c21, .gone⟩, ⟨a22, c22, rowo 1 ((keptL s x).map I)⟩, o23, ⟨a24, c24, .gone⟩]) ?_ ?_ ?_ ?_ ?_
     ·rintro a hh' ⟨_, _, _, _, _, rfl⟩; simp only [tHeap, List.length_append, List.length_cons, List.length_nil]
     ·refine ⟨z16, z18, ⟨a23, c23, .gone⟩, a24, c24, ?_⟩
      simp only [go_sem, ↓reduceIte, ↓gA, ↓gB, ↓gC, ↓gD, ↓cA, ↓cB, tHeap, onlyX, List.range_zero, List.map_nil, List.foldl_nil]
     ·rintro a hh' hbit ⟨z16, z18, o23, a24, c24, rfl⟩
      refine ⟨z16, z18, o23, a24, c24, ?_⟩
      rw [onlyX_vis, if_neg (by rw [hbit]; simp)]
     ·rintro a hh' hbit ha62 ⟨z16, z18, o23, a24, c24, rfl⟩
      have hVx := hVa a
      have hVy := @onlyX_vis y (usedN (keptL s x)) a p
      rw [if_pos hbit] at hVy
      generalize (onlyX y (usedN (keptL s x)) a).foldl visit p = w at *
      obtain ⟨v, hv, hbv⟩ := usedN_bit.1 hbit
      obtain ⟨j, hj, e⟩ := getAt (List.mem_filter.1 (show v ∈ s.S[x]!.A.filter _ from hv)).1
      rw [hye] at hj e
      have han : a < s.acts.length := testBit_lt (n := v.toNat) (by have := hst.a j hj; rw [e] at this; omega) hbv
      have hX0 := hst.has j hj a han (by rw [e]; exact hbv)
      have hXn := hst.x a han
      obtain ⟨k, hk⟩ : ∃ k : Nat, y.X[a]! = k := ⟨y.X[a]!.toNat, by omega⟩
      have hkn : k < s.S.length := by omega
      have hkw : k < w.1.length := by rw [hVx.l]; exact hkn
      have haX : a < y.X.length := by omega
      have hvis : visit w (k : Int) = if w.1[k]! = false then (w.1.set k true, w.2 ++ [k]) else w := by
       unfold visit; rw [Int.toNat_natCast]
       by_cases hf : w.1[k]! = false
       ·rw [if_pos ⟨by omega, hf⟩, if_pos hf]
       ·rw [if_neg (fun g => hf g.2), if_neg hf]
      rw [hk, hvis] at hVy
      have hwl := hVx.len
      simp only [go_sem, ↓reduceIte, ↓gA, ↓gB, ↓gC, ↓gD, ↓cA, ↓cB, tHeap, a_prune_Left_1_6, b_prune_Left_1_6, free14, haX, hk, hkw, map_setB]
      refine ⟨by omega, fun hf => ⟨by omega, by omega, ?_⟩, fun hf => ?_⟩
      ·rw [if_pos hf] at hVy
       simp only [hVy, List.map_append, List.map_cons, List.map_nil, eN, cellv_app]
       repeat apply Exists.intro
       rfl
      ·rw [if_neg (by rw [hf]; simp)] at hVy
       simp only [hVy]
       repeat apply Exists.intro
       rfl
     ·rintro a hh' hlta ⟨z16, z18, o23, a24, c24, rfl⟩
      have hVx := hVa a
      have hpx := visits_pre (onlyX y (usedN (keptL s x)) a) (p := p)
      have hany : (onlyX y (usedN (keptL s x)) a).foldl visit p = ((solidOf s).S[x]!.X).foldl visit p := by
       rw [hsx]
       refine onlyX_any hlta ?_
       rw [hXlen]
       exact usedN_lt fun v hv => by
        obtain ⟨j, hj, e⟩ := getAt (List.mem_filter.1 (show v ∈ s.S[x]!.A.filter _ from hv)).1
        rw [hye] at hj e
        have := hst.a j hj
        rw [e] at this; omega
      rw [← hany] at hbs
      generalize (onlyX y (usedN (keptL s x)) a).foldl visit p = w at *
      have hwl := hVx.len
      have hpl := hpx.length_le
      have hiw : i < w.2.length := by omega
      have hwi : w.2[i]! = x := by rw [pre_get hpx hlt]; exact hxe
      have hnw : ¬ w.2.map eN = [] := by intro hc; rw [List.map_eq_nil_iff] at hc; rw [hc] at hiw; simp at hiw
      simp only [go_sem, ↓reduceIte, ↓gA, ↓gB, ↓gC, ↓gD, ↓cA, ↓cB, tHeap, hnw, hkm, hiw, hwi, eN]
      refine ⟨by omega, ?_⟩
      refine wpY_of (lp := tLp (aT (.tup []) 104 l) none false) rfl rfl rfl rfl ?_
      have hpll := @placeL_len (ordOf s) s.S.length i
      have hio : i < (ordOf s).length := by have := hpr.length_le; omega
      have hps := placeL_set (n := s.S.length) hond hio
      have hoi : (ordOf s)[i]! = x := by rw [hxi]
      rw [hoi] at hps
      have htl : (List.take i (ordOf s)).length = i := by rw [List.length_take]; omega
      simp only [go_sem, ↓reduceIte, ↓gA, ↓gB, ↓gC, ↓gD, ↓cA, ↓cB, setPs_cons, setPs_nil, tLp, a_prune_Trimmed_0, b_prune_Trimmed_0, hpll, hx, map_setN, hps, eN, jumpE, Option.isNone_none, List.length_map, htl, l1, l2, l3, l4, l5, l6]
      have hiw2 : IntKind.i64.wrap ((i : Int) + 1) = ((i + 1 : Nat) : Int) := by rw [wrapI] <;> omega
      refine ⟨by omega, by omega, by omega, hN (i + 1) _ (by omega) ⟨by rw [hbs]; omega, ?_⟩⟩
      have hto : List.take (i + 1) (ordOf s) = List.take i (ordOf s) ++ [x] := by rw [List.take_succ_eq_append_getElem hio, ← hoi, getElem!_pos _ i hio]
      rw [hbs]
      simp only [go_sem, ↓reduceIte, ↓gA, ↓gB, ↓gC, ↓gD, ↓cA, ↓cB, tHeap, hiw2, hto, List.map_append, List.map_cons, List.map_nil, keptS, rowS, eN]
      repeat apply Exists.intro
      rfl
   ·refine ⟨by omega, ?_⟩
    have hk0 : keptP s x 0 = [] := List.eq_nil_of_length_eq_zero (by have := hkl 0; omega)
    simp only [go_sem, ↓reduceIte, ↓gA, ↓gB, ↓gC, ↓gD, ↓cA, ↓cB, tHeap, hk0, usedN, List.foldl_nil, List.map_nil]
    repeat apply Exists.intro
    rfl
  ·have hil : i = p.2.length := by omega
   have hen2 := hen hil.symm
   subst hQe
   simp only [go_sem, ↓reduceIte, ↓gA, ↓gB, ↓gC, ↓gD, ↓cA, ↓cB, tHeap, Int.ofNat_lt, hlt, hne, List.length_map]
   refine ⟨.nrm, rfl, ?_⟩
   have := hQ z2 z3 a4 c4 z5 o6 o7 o8 o9
   rw [← hen2] at this
   exact this
 ·refine ⟨by simp [bfsAt], ?_⟩
  simp only [go_sem, ↓reduceIte, ↓gA, ↓gB, ↓gC, ↓gD, ↓cA, ↓cB, tHeap, bfsAt, List.map_cons, List.map_nil, eN, List.take_zero, placeL_len]
  repeat apply Exists.intro
  rfl
end Go.Mw
/- Trimming, as the program does it: the end. -/
namespace Go.Mw
set_option maxRecDepth 100000
noncomputable def rcell (s : Spc) (i j : Nat) : AV := if j < i then .agg [cellv .nils 1 ((keptL s (ordOf s)[j]!).map I), .own 1 ((trimS s (ordOf s)[j]!).X.map I)] else .agg [cellv .nils 1 ((keptL s (ordOf s)[j]!).map I), .nils]
theorem rcell_self {s : Spc} {i : Nat} : rcell s i i = .agg [cellv .nils 1 ((keptL s (ordOf s)[i]!).map I), .nils] := by simp [rcell]
theorem rcell_set {s : Spc} {n i : Nat} : ((List.range n).map (rcell s i)).set i (.agg [cellv .nils 1 ((keptL s (ordOf s)[i]!).map I), .own 1 ((trimS s (ordOf s)[i]!).X.map I)]) = (List.range n).map (rcell s (i + 1)) := by
 apply List.ext_getElem?
 intro j
 rw [List.getElem?_set]
 by_cases h : i = j
 ·subst h
  by_cases hl : i < n <;> simp [hl, rcell]
 ·by_cases hl : j < n
  ·have e : (j < i) = (j < i + 1) := propext ⟨fun _ => by omega, fun _ => by omega⟩
   simp [h, hl, rcell, e]
  ·simp [h, hl]
theorem rcell_start {s : Spc} : (((ordOf s).take (ordOf s).length).map (keptS s)).map rowS = (List.range (ordOf s).length).map (rcell s 0) := by
 rw [List.take_length]
 apply List.ext_getElem (by simp)
 intro j h1 h2
 simp at h1
 simp [rcell, rowS, keptS, cellv_nil, h1]
theorem rcell_start2 {s : Spc} : ((ordOf s).map (keptS s)).map rowS = (List.range (ordOf s).length).map (rcell s 0) := by
 rw [← rcell_start, List.take_length]
theorem rcell_end {s : Spc} (hA : ∀ x ∈ ordOf s, solA s x = keptL s x) : ((List.range (ordOf s).length).map (rcell s (ordOf s).length)).map frz = (trimOf s).S.map eSt := by
 have h : ∀ l : List Int, (l.map I).map frz = l.map I := fun l => by rw [List.map_map]; rfl
 apply List.ext_getElem (by simp [trimOf])
 intro j h1 h2
 simp at h1
 have e := hA (ordOf s)[j]! (getMem h1)
 rw [List.getElem_map, List.getElem_map, List.getElem_range, rcell, if_pos h1]
 simp only [trimOf, List.getElem_map]
 rw [← getElem!_pos (ordOf s) j h1]
 simp only [go_sem, ↓reduceIte, ↓gA, ↓gB, ↓gC, ↓gD, ↓cA, ↓cB, h, eSt, trimS, solS, e]
def nextP (l : List Nat) (y : Stt) (u n a : Nat) : List Int := (List.range n).map fun b => if b < a ∧ u.testBit b = true then placeX l y.X[b]! else -1
theorem nextP_len {l : List Nat} {y : Stt} {u n a : Nat} : (nextP l y u n a).length = n := by simp [nextP]
theorem nextP_zero {l : List Nat} {y : Stt} {u n : Nat} : nextP l y u n 0 = List.replicate n (-1) := by
 apply List.ext_getElem (by simp [nextP]); intro j h1 h2; simp [nextP]
theorem nextP_skip {l : List Nat} {y : Stt} {u n a : Nat} (h : u.testBit a = false) : nextP l y u n (a + 1) = nextP l y u n a := by
 unfold nextP
 refine List.map_congr_left (fun b _ => ?_)
 by_cases hb : b < a
 ·have : b < a + 1 := by omega
  simp [hb, this]
 ·by_cases e : b = a
  ·subst e; simp [h]
  ·have : ¬ b < a + 1 := by omega
   simp [hb, this]
theorem nextP_set {l : List Nat} {y : Stt} {u n a : Nat} (h : u.testBit a = true) : (nextP l y u n a).set a (placeX l y.X[a]!) = nextP l y u n (a + 1) := by
 apply List.ext_getElem?
 intro b
 rw [List.getElem?_set, nextP_len]
 have e : ∀ {c}, (nextP l y u n c)[b]? = if b < n then some (if b < c ∧ u.testBit b = true then placeX l y.X[b]! else -1) else none := fun {c} => by
  by_cases hb : b < n <;> simp [nextP, hb]
 rw [e, e]
 by_cases hab : a = b
 ·subst hab
  by_cases hn : a < n <;> simp [hn, h]
 ·have : (b < a) = (b < a + 1) := propext ⟨fun _ => by omega, fun _ => by omega⟩
  simp [hab, this]
theorem nextP_end {l : List Nat} {y : Stt} {u n a : Nat} (h : u < 2 ^ a) (hX : y.X.length = n) : nextP l y u n a = (onlyX y u y.X.length).map (placeX l) := by
 rw [hX]
 unfold nextP onlyX
 rw [List.map_map]
 refine List.map_congr_left (fun b hb => ?_)
 simp only [Function.comp]
 by_cases hu : u.testBit b = true
 ·rw [if_pos ⟨testBit_lt h hu, hu⟩, if_pos hu]
 ·rw [if_neg (fun g => hu g.2), if_neg hu]; simp [placeX]
theorem trimmed_ok (s : Spc) (h : SpcOk s) : Fn G f_prune_Trimmed [eSp s] (.tup [eSp (trimA s).1, .lst ((trimA s).2.map eN)]) := by
 have hz := h.sz
 have hb := h.b hz
 have h1 : 0 < s.S.length := h.s1
 have h8 := actsOk_len h.acts
 have hS := h.s2
 have hol := hol0_lt h1
 cases h0 : (holL s)[0]! with
 | true =>
   have e : trimA s = (noSpc s.acts, []) := by unfold trimA; rw [if_pos h0]
   rw [e]
   refine FnP.mk' g_prune_Trimmed rfl rfl ?_
   simp only [go_sem, ↓reduceIte, ↓gA, ↓gB, ↓gC, ↓gD, ↓cA, ↓cB, c_prune_Trimmed, eSp, clone_r (show s.acts.length ≤ 1048576 by omega), left_r]
   refine ⟨by omega, ?_⟩
   refine wp_rngf (g := f_prune_Left_1) (cs := [.pfro [.lst (s.acts.map .str), .lst (s.S.map eSt)]]) (by simp only [go_sem, ↓reduceIte, ↓gA, ↓gB, ↓gC, ↓gD, ↓cA, ↓cB]) (wpCall_S g_prune_Left_1 rfl ?_)
   rw [entry_aT (by simp)]
   simp only [go_sem, ↓reduceIte, ↓gA, ↓gB, ↓gC, ↓gD, ↓cA, ↓cB, c_prune_Left_1, hollows_r hb h.x8, hol, h0]
   refine ⟨.nrm, rfl, ?_⟩
   simp only [go_sem, ↓reduceIte, ↓gA, ↓gB, ↓gC, ↓gD, ↓cA, ↓cB, nothing_r h8, eSp]
 | false =>
   have e : trimA s = (trimOf s, ordOf s) := by unfold trimA; rw [if_neg (by rw [h0]; simp)]
   rw [e]
   refine FnP.mk' g_prune_Trimmed rfl rfl ?_
   simp only [go_sem, ↓reduceIte, ↓gA, ↓gB, ↓gC, ↓gD, ↓cA, ↓cB, c_prune_Trimmed, eSp, clone_r (show s.acts.length ≤ 1048576 by omega), left_r]
   refine ⟨by omega, ?_⟩
   have hpl0 : (placeL (ordOf s) s.S.length 0).map eN = List.replicate s.S.length (AV.int .i64 0) := by
    apply List.ext_getElem (by simp [placeL]); intro j h1 h2; simp [placeL, eN]
   have hloop := trim_loop s h h0
   simp only [tHeap, hpl0, List.take_zero, List.map_nil, cellv_nil] at hloop
   refine hloop _ rfl rfl rfl rfl rfl rfl rfl (fun z2 z3 a4 c4 z5 o6 o7 o8 o9 => ?_)
   have hop := ord_pos hb h1
   have holen := ord_len hb h1
   have hond := ord_nd hb h1
   have hne : ¬ (ordOf s).map eN = [] := by intro hc; rw [List.map_eq_nil_iff] at hc; rw [hc] at hop; simp at hop
   have hlenz : ¬ ((((ordOf s).length : Nat) : Int) = 0) := by omega
   have holt : ∀ x ∈ ordOf s, x < s.S.length ∧ (holL s)[x]! = false := ord_solid h h0 s.S.length
   have hcl := ord_closed hb h1
   have hsA : ∀ x ∈ ordOf s, solA s x = keptL s x := fun x hx => by unfold solA; rw [if_neg (by rw [(holt x hx).2]; simp)]
   have hrow0 : cellv .nils 2 ((List.range (ordOf s).length).map (rcell s 0)) = .own 2 ((List.range (ordOf s).length).map (rcell s 0)) := by
    obtain ⟨n, hn⟩ : ∃ n, (ordOf s).length = n + 1 := ⟨(ordOf s).length - 1, by omega⟩
    rw [hn, List.range_succ, List.map_append, List.map_cons, List.map_nil, cellv_app]
   have hcel : ∀ v : List AV, ¬ v = [] → cellv .nils 1 v = .own 1 v := fun v hv => by
    cases v with
    | nil => exact absurd rfl hv
    | cons a r => rfl
   have hbeq : ((((ordOf s).length : Nat) : Int) == 0) = false := by simp only [beq_eq_false_iff_ne]; exact hlenz
   simp only [go_sem, ↓reduceIte, ↓gA, ↓gB, ↓gC, ↓gD, ↓cA, ↓cB, rcell_start, rcell_start2, List.take_length, hne, hrow0, List.length_map, hbeq]
   refine wp_loopQ (fun (i : Nat) σ => i ≤ (ordOf s).length ∧ ∃ z2 z5 a10 c10 a11 c11 a12 c12 a13 c13, σ = ⟨aT .undef 104 [(1, .ptr 0 1 [] 0 0 0), (2, .ptr 1 1 [] 0 0 0), (3, .nils), (4, .ptr 2 1 [] 0 0 0), (5, .ptr 3 1 [] 0 0 0), (6, .ptr 5 1 [] 0 0 0), (50, rowc .nils 1 3 1 [(0, 0)] z3 ((ordOf s).map eN)), (51, I (ordOf s).length), (52, I i)],
    [⟨1, 0, .own 2 [.agg [.lst (s.acts.map .str), .lst (s.S.map eSt)]]⟩, ⟨1, 0, .own 2 [.agg [.nils, .nils]]⟩, ⟨1, z2, .own 2 [.agg [.lst (s.acts.map .str), .own 2 ((List.range (ordOf s).length).map (rcell s i))]]⟩,
     ⟨1, z3, .own 1 [cellv .nils 1 ((ordOf s).map eN)]⟩, ⟨a4, c4, .gone⟩, ⟨1, z5, .own 1 [.own 1 ((placeL (ordOf s) s.S.length (ordOf s).length).map eN)]⟩, o6, o7, o8, o9, ⟨a10, c10, .gone⟩, ⟨a11, c11, .gone⟩, ⟨a12, c12, .gone⟩, ⟨a13, c13, .gone⟩], []⟩) (fun i => (ordOf s).length - i) ?_ 0 ?_
   ·rintro i σ ⟨hi, z2, z5, a10, c10, a11, c11, a12, c12, a13, c13, rfl⟩ N Q hQ hN
    by_cases hlt : i < (ordOf s).length
    ·have hmem := getMem hlt
     obtain ⟨hx, hh⟩ := holt _ hmem
     have hst := h.st _ hx
     have hAl := h.alen hx
     have hkne := kept_ne h hx hh
     have hkm : ¬ (keptL s (ordOf s)[i]!).map I = [] := by intro hc; rw [List.map_eq_nil_iff] at hc; exact hkne hc
     have hkl : (keptL s (ordOf s)[i]!).length ≤ 256 := Nat.le_trans (List.length_filter_le _ _) hAl
     have hrs := @rcell_self s i
     have hrset := @rcell_set s (ordOf s).length i
     simp only [go_sem, ↓reduceIte, ↓gA, ↓gB, ↓gC, ↓gD, ↓cA, ↓cB, Int.ofNat_lt, hlt, hne, eN, List.length_range, rng_get hlt, hrs, hkm]
     have hxX := hst.len
     have hclx := hcl _ hmem
     rw [solid_get hx] at hclx
     have htS : (trimS s (ordOf s)[i]!).X = (onlyX s.S[(ordOf s)[i]!]! (usedN (keptL s (ordOf s)[i]!)) s.S[(ordOf s)[i]!]!.X.length).map (placeX (ordOf s)) := by
      simp only [trimS, solS]; rw [hsA _ hmem]
     have hsolX : (solS s (ordOf s)[i]!).X = onlyX s.S[(ordOf s)[i]!]! (usedN (keptL s (ordOf s)[i]!)) s.S[(ordOf s)[i]!]!.X.length := by
      simp only [solS]; rw [hsA _ hmem]
     have hkm2 : ∀ v ∈ keptL s (ordOf s)[i]!, v ∈ s.S[(ordOf s)[i]!]!.A := fun v hv => (List.mem_filter.1 hv).1
     generalize hxe : (ordOf s)[i]! = x at *
     generalize hye : s.S[x]! = y at *
     have h28 : 2 ^ s.acts.length ≤ 2 ^ 8 := Nat.pow_le_pow_right (by omega) h8
     have hkb : ∀ v ∈ keptL s x, 0 ≤ v ∧ v.toNat < 2 ^ 8 := fun v hv => by
      obtain ⟨j, hj, e⟩ := getAt (hkm2 v hv)
      have := hst.a j hj
      rw [e] at this; omega
     have hul : ∀ m, usedN ((keptL s x).take m) < 2 ^ 8 := fun m => usedN_lt fun v hv => (hkb v (List.mem_of_mem_take hv)).2
     refine wp_loopQ (fun (m : Nat) σ => m ≤ (keptL s x).length ∧ σ = ⟨aT .undef 104 [(1, .ptr 0 1 [] 0 0 0), (2, .ptr 1 1 [] 0 0 0), (3, .nils), (4, .ptr 2 1 [] 0 0 0), (5, .ptr 3 1 [] 0 0 0), (6, .ptr 5 1 [] 0 0 0), (9, I i), (10, .ptr 10 (a10 + 1) [] 0 0 0), (11, I (usedN ((keptL s x).take m) : Nat)), (50, rowc .nils 1 3 1 [(0, 0)] z3 ((ordOf s).map eN)), (51, I (ordOf s).length), (52, I i), (62, rowc .nils 1 2 1 [(0, 1), (i, 0)] z2 ((keptL s x).map I)), (63, I (keptL s x).length), (64, I m)],
      [⟨1, 0, .own 2 [.agg [.lst (s.acts.map .str), .lst (s.S.map eSt)]]⟩, ⟨1, 0, .own 2 [.agg [.nils, .nils]]⟩, ⟨1, z2, .own 2 [.agg [.lst (s.acts.map .str), .own 2 ((List.range (ordOf s).length).map (rcell s i))]]⟩,
      ⟨1, z3, .own 1 [cellv .nils 1 ((ordOf s).map eN)]⟩, ⟨a4, c4, .gone⟩, ⟨1, z5, .own 1 [.own 1 ((placeL (ordOf s) s.S.length (ordOf s).length).map eN)]⟩, o6, o7, o8, o9, ⟨a10 + 1, 0, .own 1 [I x]⟩, ⟨a11, c11, .gone⟩, ⟨a12, c12, .gone⟩, ⟨a13, c13, .gone⟩], []⟩) (fun m => (keptL s x).length - m) ?_ 0 ?_
     ·rintro m σ ⟨hm, rfl⟩ N2 Q2 hQ2 hN2
      by_cases hlt2 : m < (keptL s x).length
      ·have hv := hkb _ (getMem hlt2)
       obtain ⟨t, ht⟩ : ∃ t : Nat, (keptL s x)[m]! = t := ⟨(keptL s x)[m]!.toNat, by omega⟩
       have hu1 := hul m
       rw [ht, Int.toNat_natCast] at hv
       simp only [go_sem, ↓reduceIte, ↓gA, ↓gB, ↓gC, ↓gD, ↓cA, ↓cB, Int.ofNat_lt, hlt2, hrs, hkm, List.length_range, rng_get hlt, hlt, ht, wrap_succ hlt2 (by omega), bor_nat (show usedN ((keptL s x).take m) < 2 ^ 63 by omega) (show t < 2 ^ 63 by omega)]
       refine hN2 (m + 1) _ (by omega) ⟨by omega, ?_⟩
       rw [List.take_succ_eq_append_getElem hlt2, usedN_append, ← getElem!_pos (keptL s x) m hlt2, ht, Int.toNat_natCast]
       simp only [go_sem, ↓reduceIte, ↓gA, ↓gB, ↓gC, ↓gD, ↓cA, ↓cB]
      ·have hml : m = (keptL s x).length := by omega
       subst hml hQ2
       have hu1 := hul (keptL s x).length
       rw [List.take_length] at hu1 ⊢
       simp only [go_sem, ↓reduceIte, ↓gA, ↓gB, ↓gC, ↓gD, ↓cA, ↓cB, Int.ofNat_lt, hlt2, hkm, rep_r h8]
       have hub : ∀ a, (usedN (keptL s x)).testBit a = true → a < s.acts.length ∧ 0 ≤ y.X[a]! ∧ y.X[a]! < (s.S.length : Int) ∧ y.X[a]!.toNat ∈ ordOf s := fun a ha => by
        obtain ⟨v, hv, hbv⟩ := usedN_bit.1 ha
        obtain ⟨j, hj, e⟩ := getAt (hkm2 v hv)
        have han : a < s.acts.length := testBit_lt (n := v.toNat) (by have := hst.a j hj; rw [e] at this; omega) hbv
        have hX0 := hst.has j hj a han (by rw [e]; exact hbv)
        refine ⟨han, hX0, (hst.x a han).2, hclx _ ?_ hX0⟩
        rw [hsolX]
        have : (onlyX y (usedN (keptL s x)) y.X.length)[a]! ∈ onlyX y (usedN (keptL s x)) y.X.length := getMem (by rw [onlyX_len]; omega)
        rw [onlyX_get (by omega), if_pos ha] at this
        exact this
       have hr0 : List.replicate s.acts.length (AV.int .i64 (-1)) = (nextP (ordOf s) y (usedN (keptL s x)) s.acts.length 0).map I := by rw [nextP_zero, List.map_replicate]
       rw [hr0]
       refine wp_in (usedN (keptL s x)) (by omega) (by simp only [go_sem, ↓reduceIte, ↓gA, ↓gB, ↓gC, ↓gD, ↓cA, ↓cB]) (fun a hh' => hh' = [⟨1, 0, .own 2 [.agg [.lst (s.acts.map .str), .lst (s.S.map eSt)]]⟩, ⟨1, 0, .own 2 [.agg [.nils, .nils]]⟩, ⟨1, z2, .own 2 [.agg [.lst (s.acts.map .str), .own 2 ((List.range (ordOf s).length).map (rcell s i))]]⟩,
      ⟨1, z3, .own 1 [cellv .nils 1 ((ordOf s).map eN)]⟩, ⟨a4, c4, .gone⟩, ⟨1, z5, .own 1 [.own 1 ((placeL (ordOf s) s.S.length (ordOf s).length).map eN)]⟩, o6, o7, o8, o9, ⟨a10 + 1, 0, .own 1 [I x]⟩, ⟨a11 + 1, 0, .gone⟩, ⟨a12 + 1, 0, .gone⟩, ⟨a13 + 1, 1, .own 1 [.own 1 ((nextP (ordOf s) y (usedN (keptL s x)) s.acts.length a).map I)]⟩]) ?_ ?_ ?_ ?_ ?_
       ·rintro a hh' rfl; rfl
       ·simp only [go_sem, ↓reduceIte, ↓gA, ↓gB, ↓gC, ↓gD, ↓cA, ↓cB]
       ·rintro a hh' hbit rfl
        rw [nextP_skip hbit]
       ·rintro a hh' hbit ha62 rfl
        obtain ⟨han, hX0, hXn, hmo⟩ := hub a hbit
        obtain ⟨k, hk⟩ : ∃ k : Nat, y.X[a]! = k := ⟨y.X[a]!.toNat, by omega⟩
        have hps := nextP_set (l := ordOf s) (y := y) (n := s.acts.length) hbit
        have hpx : placeX (ordOf s) y.X[a]! = ((ordOf s).idxOf k : Int) := by unfold placeX; rw [if_pos hX0, hk, Int.toNat_natCast]
        rw [hpx] at hps
        have hkn : k < s.S.length := by omega
        have hkp : k < (placeL (ordOf s) s.S.length (ordOf s).length).length := by rw [placeL_len]; exact hkn
        have hpg : (placeL (ordOf s) s.S.length (ordOf s).length)[k]! = (ordOf s).idxOf k := by rw [placeL_get hkn, List.take_length, if_pos (by rw [hk, Int.toNat_natCast] at hmo; exact hmo)]
        have haX : a < y.X.length := by omega
        have hmapI : ∀ (q : List Int) (j v : Nat), (q.map I).set j (.int .i64 (v : Nat)) = (q.set j (v : Nat)).map I := fun q j v => by rw [List.map_set]
        simp only [go_sem, ↓reduceIte, ↓gA, ↓gB, ↓gC, ↓gD, ↓cA, ↓cB, a_prune_Trimmed_6, b_prune_Trimmed_6, hx, hye, eSt, haX, hk, hkn, hkp, eN, hpg, nextP_len, han, hmapI, hps]
        exact ⟨by omega, by omega⟩
       ·rintro a hh' hlta rfl
        have hne2 := nextP_end (l := ordOf s) hlta hxX
        rw [hne2, ← htS]
        simp only [go_sem, ↓reduceIte, ↓gA, ↓gB, ↓gC, ↓gD, ↓cA, ↓cB, List.length_range, rng_get hlt, hrs, hlt, hrset, wrap_succ hlt (show (ordOf s).length ≤ 1000000000 by omega)]
        refine ⟨by omega, hN (i + 1) _ (by omega) ⟨by omega, ?_⟩⟩
        simp only [go_sem, ↓reduceIte, ↓gA, ↓gB, ↓gC, ↓gD, ↓cA, ↓cB]
        repeat apply Exists.intro
        rfl
     ·refine ⟨by omega, ?_⟩
      simp only [go_sem, ↓reduceIte, ↓gA, ↓gB, ↓gC, ↓gD, ↓cA, ↓cB, List.take_zero, usedN, List.foldl_nil]
    ·have hil : i = (ordOf s).length := by omega
     subst hil hQ
     have hre := rcell_end hsA
     simp only [go_sem, ↓reduceIte, ↓gA, ↓gB, ↓gC, ↓gD, ↓cA, ↓cB, Int.ofNat_lt, hlt, hne]
     have he : ((ordOf s).map eN).map frz = (ordOf s).map eN := by rw [List.map_map]; rfl
     rw [hre, he]; rfl
   ·refine ⟨by omega, ?_⟩
    simp only [go_sem, ↓reduceIte, ↓gA, ↓gB, ↓gC, ↓gD, ↓cA, ↓cB]
    repeat apply Exists.intro
    rfl
theorem trimmed_r {s : Spc} (h : SpcOk s) {roots : List Nat} {b : Nat} {ss : List Nat} {σ : St} {k : AV → St → Prop} :
 callT G f_prune_Trimmed [.agg [.lst (s.acts.map .str), .lst (s.S.map eSt)]] true roots b ss σ k = k (.tup [eSp (trimA s).1, .lst ((trimA s).2.map eN)]) σ := (trimmed_ok s h).rule
end Go.Mw
/- What family.Of answers where its arguments are not in order. -/
namespace Go.Mw
set_option maxRecDepth 100000
open Classical in
theorem of_bad (acts : List ByteArray) (L : List Spc) (ha : acts.length ≤ 100) (hl : L.length ≤ 40) (hs : ∀ i < L.length, SpSz L[i]! ∧ SpI L[i]!) (hE : ¬ ofE acts L = 0) : Fn G f_family_Of [.lst (acts.map .str), .lst (L.map eSp)] (.tup [eF noFam0, I (ofE acts L)]) := by
 have hc1 : ∀ {fr : Bool} {roots : List Nat} {b : Nat} {ss : List Nat} {σ : St} {k : AV → St → Prop}, callT G f_slices_ContainsFuncZaiScai [.lst (L.map eSp), .fn f_family_Of_1 []] fr roots b ss σ k = k (Bo (L.any fun s => !decide (SpcOk s))) σ :=
  (containsSp_ok L (by omega) f_family_Of_1 [] _ pure_family_Of_1 (fun h => rfl) (fun i hi => of1_ok _ (hs i hi).1 (hs i hi).2)).rule
 have hc2 : ∀ {fr : Bool} {roots : List Nat} {b : Nat} {ss : List Nat} {σ : St} {k : AV → St → Prop}, callT G f_slices_ContainsFuncZaiScai [.lst (L.map eSp), .fn f_family_Of_2 [.pfro [.lst (acts.map .str)]]] fr roots b ss σ k = k (Bo (L.any fun s => !decide (s.acts = acts))) σ :=
  (containsSp_ok L (by omega) f_family_Of_2 _ _ pure_family_Of_2 (fun h => rfl) (fun i hi => of2_ok acts (by omega) _ (hs i hi).1)).rule
 have a1 : (L.any fun s => !decide (SpcOk s)) = !decide (∀ i < L.length, SpcOk L[i]!) := by
  by_cases h : ∀ i < L.length, SpcOk L[i]!
  ·rw [decide_eq_true h]
   refine List.any_eq_false.2 fun x hx => ?_
   obtain ⟨j, hj, e⟩ := getAt hx
   have := h j hj
   rw [e] at this; simp [this]
  ·rw [decide_eq_false h]
   refine List.any_eq_true.2 ?_
   refine Classical.byContradiction fun hno => h fun i hi => Classical.byContradiction fun hni => hno ⟨_, getMem hi, by simpa using hni⟩
 have a2 : (L.any fun s => !decide (s.acts = acts)) = !decide (∀ i < L.length, L[i]!.acts = acts) := by
  by_cases h : ∀ i < L.length, L[i]!.acts = acts
  ·rw [decide_eq_true h]
   refine List.any_eq_false.2 fun x hx => ?_
   obtain ⟨j, hj, e⟩ := getAt hx
   have := h j hj
   rw [e] at this; simp [this]
  ·rw [decide_eq_false h]
   refine List.any_eq_true.2 ?_
   refine Classical.byContradiction fun hno => h fun i hi => Classical.byContradiction fun hni => hno ⟨_, getMem hi, by simpa using hni⟩
 rw [a1] at hc1
 rw [a2] at hc2
 refine FnP.mk' g_family_Of rfl rfl ?_
 simp only [go_sem, ↓reduceIte, ↓gA, ↓gB, ↓gC, ↓gD, ↓cA, ↓cB, c_family_Of, acts_r (show acts.length ≤ 1048576 by omega), hc1, hc2]
 have hz : ∀ {e : Int}, ofE acts L = e → AV.tup [AV.agg [AV.lst [], AV.int .i64 0, AV.lst []], AV.int .i64 e] = AV.tup [eF noFam0, I (ofE acts L)] := fun h => by rw [h]; rfl
 refine ⟨fun hA => hz (by unfold ofE; rw [if_neg (by rw [hA]; simp)]), fun hA => ?_⟩
 by_cases hlen : 1 ≤ L.length ∧ L.length ≤ 32
 ·by_cases hok : ∀ i < L.length, SpcOk L[i]!
  ·by_cases hac : ∀ i < L.length, L[i]!.acts = acts
   ·exact absurd (by unfold ofE; rw [if_pos hA, if_pos hlen, if_pos hok, if_pos hac]) hE
   ·have e : ofE acts L = 10 := by unfold ofE; rw [if_pos hA, if_pos hlen, if_pos hok, if_neg hac]
    refine ⟨fun h1 => ⟨fun h2 => absurd h2 (by omega), fun h2 => ⟨fun h3 => absurd hok h3, fun h3 => ⟨fun h4 => hz e, fun h4 => absurd h4 hac⟩⟩⟩, fun h1 => absurd h1 (by omega)⟩
  ·have e : ofE acts L = 30 := by unfold ofE; rw [if_pos hA, if_pos hlen, if_neg hok]
   refine ⟨fun h1 => ⟨fun h2 => absurd h2 (by omega), fun h2 => ⟨fun h3 => hz e, fun h3 => absurd h3 hok⟩⟩, fun h1 => absurd h1 (by omega)⟩
 ·have e : ofE acts L = 1 := by unfold ofE; rw [if_pos hA, if_neg hlen]
  refine ⟨fun h1 => ⟨fun h2 => hz e, fun h2 => absurd ⟨by omega, by omega⟩ hlen⟩, fun h1 => hz e⟩
end Go.Mw
/- Drawn regions with soft pairs. -/
namespace Go.Mw
set_option maxRecDepth 100000
theorem wpX_congr {G : Prg} {ops : List Rop} {b : Nat} {σ τ : St} {K : St → List (Option (List Nat)) → List Sft → Prop} (h : σ = τ) : WpX G ops b σ K = WpX G ops b τ K := by rw [h]
attribute [congr] wpX_congr
theorem wpX_nil {G : Prg} {b : Nat} {σ : St} {K : St → List (Option (List Nat)) → List Sft → Prop} : WpX G [] b σ K = K σ [] [] :=
 propext ⟨fun ⟨n, σ', fs, h, k⟩ => by simp [drwE] at h; obtain ⟨rfl, rfl⟩ := h; exact k, fun k => ⟨0, σ, [], rfl, k⟩⟩
theorem sftE_le {G : Prg} {n m : Nat} (h : n ≤ m) {ops : List Rop} {b : Nat} {σ : St} {r : St × List (Option (List Nat))} (hx : drwE G (evO G n) ops b σ = some r) : sftE (evO G n) ops b σ = sftE (evO G m) ops b σ :=
 sftE_mono (fun i b σ r h2 => (monoLe h).2.1 i b σ r h2) _ _ _ _ hx
theorem wpX_cons {G : Prg} {d : Option Nat} {i : Ins} {os : List Rop} {b : Nat} {σ : St} {K : St → List (Option (List Nat)) → List Sft → Prop} :
 WpX G (⟨d, i, none⟩ :: os) b σ K = wpI G i b σ (fun v σ1 => WpX G os b (σ1.put d v) (fun σ2 fs ss => K σ2 (foot G b i σ :: fs) (sftI b i σ :: ss))) := by
 refine propext ⟨fun ⟨n, σ', fs, h, k⟩ => ?_, fun h => ?_⟩
 ·rw [wpI_ex]
  simp only [drwE, sftE, wantedO] at h k
  cases hx : evO G n i b σ with
  | none => simp [hx] at h
  | some p =>
    obtain ⟨v, σ1⟩ := p
    simp only [hx] at h k
    cases hy : drwE G (evO G n) os b (σ1.put d v) with
    | none => simp [hy] at h
    | some q =>
      obtain ⟨σ2, fs2⟩ := q
      simp only [hy, Option.some.injEq, Prod.mk.injEq] at h
      obtain ⟨rfl, rfl⟩ := h
      exact ⟨n, v, σ1, hx, n, σ2, fs2, hy, k⟩
 ·rw [wpI_ex] at h
  obtain ⟨n, v, σ1, h1, m, σ2, fs, h2, k⟩ := h
  refine ⟨max n m, σ2, foot G b i σ :: fs, ?_, ?_⟩
  ·simp only [drwE, wantedO, (monoLe (Nat.le_max_left n m)).2.1 _ _ _ _ h1, drwE_le (Nat.le_max_right n m) h2]
  ·simp only [sftE, wantedO, (monoLe (Nat.le_max_left n m)).2.1 _ _ _ _ h1, ← sftE_le (Nat.le_max_right n m) h2]
   exact k
def rdP (v : AV) : Sft := match v with | .ptr r _ p _ _ _ => .rd r p | _ => .no
def rdS (v : AV) : Sft := match v with | .sl r _ p _ _ _ => .rd r p | _ => .no
def ifOwn (o : Option AV) (x : Sft) : Sft := match o with | some (.own ..) => x | _ => .no
def rdC (h : List Ob) (v : AV) : Sft := match v with | .ptr r _ p _ i j => ifOwn (nodeAt h r (p ++ [(i, j)])) (.rd r (p ++ [(i, j)])) | _ => .no
def apP (s : Nat) (x y : AV) : Sft := match x with | .sl r _ p _ _ _ => .ap r p (s :: rootsOf y) | _ => .no
def apM (xs : List AV) (r : Nat) (p : Path) (os : List Nat) : Sft := if xs = [] then .no else .ap r p os
section
variable {b : Nat} {σ : St} {x y z : Opd} {r st ss i j off len es s n m : Nat} {p q : Path} {xs : List AV} {h : List Ob}
theorem sftI_fad : sftI b (.fad n x) σ = rdP (σ.get x) := (rfl)
theorem sftI_iad : sftI b (.iad n x y) σ = rdS (σ.get x) := (rfl)
theorem sftI_ld : sftI b (.ld false 1 x) σ = rdC σ.h (σ.get x) := by
 simp only [sftI, rdC, ifOwn]
 cases σ.get x <;> first | rfl | skip
theorem sftI_ldT : sftI b (.ld true n x) σ = .no := (rfl)
theorem sftI_app : sftI b (.app s n m x y) σ = apP (b + s) (σ.get x) (σ.get y) := (rfl)
theorem sftI_mov : sftI b (.mov x) σ = .no := (rfl)
theorem sftI_bsl {l : List Opd} : sftI b (.bsl s n m l) σ = .no := (rfl)
theorem sftI_bld {l : List AV} {ps : List (Nat × Nat × Opd)} : sftI b (.bld l ps) σ = .no := (rfl)
theorem sftI_sto : sftI b (.sto n x y) σ = .no := (rfl)
theorem rdP_ptr : rdP (.ptr r st p ss i j) = .rd r p := (rfl)
theorem rdS_sl : rdS (.sl r st p ss i j) = .rd r p := (rfl)
theorem rdC_ptr : rdC h (.ptr r st p ss i j) = ifOwn (nodeAt h r (p ++ [(i, j)])) (.rd r (p ++ [(i, j)])) := (rfl)
theorem ifOwn_own {u : Sft} : ifOwn (some (.own es xs)) u = u := (rfl)
theorem apP_cell {e v : AV} (he : e.void = true) : apP s (rowc e es r st p ss xs) v = apM xs r p (s :: rootsOf v) := by
 unfold rowc apM; split
 ·cases e <;> first | rfl | (simp [AV.void] at he)
 ·rfl
theorem soft_M {os : List Nat} {r' : Nat} : (soft (.rd r q) (apM xs r' p os) = true) = (xs ≠ [] ∧ soft1 r q r' p os = true) := by
 unfold apM; by_cases hx : xs = []
 ·simp [hx, soft]
 ·simp [hx, soft]
def preP (p q : Path) : Prop := p.isPrefixOf q = false
theorem soft1_eq {os : List Nat} {r' : Nat} : (soft1 r q r' p os = true) = (notIn r os ∧ (r = r' → preP p q)) := by
 unfold soft1 notIn preP
 by_cases e : r = r' <;> simp [e]
theorem preP_nil {a : Nat × Nat} : preP (a :: p) [] = True := by simp [preP]
theorem preP_cons {a c : Nat × Nat} : preP (a :: p) (c :: q) = (a = c → preP p q) := by
 unfold preP; by_cases e : a = c <;> simp [List.isPrefixOf, e]
theorem soft_own {u v : Sft} : (soft (ifOwn (nodeAt h r q) u) v = true) = obK h[r]? (fun o => navK o.c q (fun nd => ownK nd (fun _ _ => soft u v = true))) := by
 have h0 : ∀ v, (soft .no v = true) = False := fun v => by cases v <;> simp [soft]
 simp only [nodeAt, obK, navK, ownK]
 cases h[r]? with
 | none => exact h0 v
 | some o =>
   simp only
   cases nav o.c q with
   | none => exact h0 v
   | some nd => cases nd <;> first | rfl | exact h0 v
theorem or_soft {a c : Option (List Nat)} {u v : Sft} : ((apart a c || soft u v) = true) = (¬ apart a c = true → soft u v = true) := by
 cases apart a c <;> simp
end
attribute [go_sem] wp_drs wpX_nil wpX_cons sftI_fad sftI_iad sftI_ld sftI_ldT sftI_app sftI_mov sftI_bsl sftI_bld sftI_sto rdP_ptr rdS_sl rdC_ptr ifOwn_own apP_cell soft_M soft1_eq preP_nil preP_cons or_soft soft_own
end Go.Mw
/- What family.Of builds up: plain facts. -/
namespace Go.Mw
set_option maxRecDepth 100000
abbrev twoP (p : Nat) : Int := ((2 ^ p : Nat) : Int)
def cC (l : List Ch) : AV := cellv .nils 2 (l.map eC)
def rP (x : Plan) : AV := .agg [cC x.A, .own 1 (x.X.map cC)]
def ncell (T : List Spc) (p i j a : Nat) : AV := cellv .nils 2 ((nxtL T a (if i = 0 ∧ j ≤ a then p else p + 1)).map eC)
theorem ncell_end {T : List Spc} {p i k : Nat} (h : 1 ≤ i) : (List.range k).map (ncell T p i 0) = (List.range k).map (ncell T (p + 1) 0 0) := by
 refine List.map_congr_left fun a _ => ?_
 unfold ncell
 rw [if_neg (by omega), if_pos ⟨rfl, Nat.zero_le _⟩]
theorem ncell_next {T : List Spc} {p i k : Nat} : (List.range k).map (ncell T p i k) = (List.range k).map (ncell T p (i + 1) 0) := by
 refine List.map_congr_left fun a ha => ?_
 have := List.mem_range.1 ha
 simp only [ncell]
 rw [if_neg (by omega), if_neg (by omega)]
theorem ncell_pos {T : List Spc} {p i k j : Nat} (h : ¬ i = 0) : (List.range k).map (ncell T p i j) = (List.range k).map (ncell T p i (j + 1)) := by
 refine List.map_congr_left fun a _ => ?_
 simp only [ncell]
 rw [if_neg (by omega), if_neg (by omega)]
theorem ncell_skip {T : List Spc} {p k j : Nat} (h : T[p]!.S[0]!.X[j]! < 0) {i : Nat} : (List.range k).map (ncell T p i j) = (List.range k).map (ncell T p i (j + 1)) := by
 by_cases hi : i = 0
 ·subst hi
  refine List.map_congr_left fun a _ => ?_
  unfold ncell
  by_cases ha : a = j
  ·subst ha
   rw [if_pos ⟨rfl, Nat.le_refl _⟩, if_neg (by omega)]
   simp only [nxtL]
   rw [if_neg (by omega), List.append_nil]
  ·by_cases h2 : j ≤ a
   ·rw [if_pos ⟨rfl, h2⟩, if_pos ⟨rfl, by omega⟩]
   ·rw [if_neg (by omega), if_neg (by omega)]
 ·exact ncell_pos hi
theorem ncell_at {T : List Spc} {p j : Nat} : ncell T p 0 j j = cellv .nils 2 ((nxtL T j p).map eC) := by
 unfold ncell; rw [if_pos ⟨rfl, Nat.le_refl _⟩]
theorem ncell_set {T : List Spc} {p k j : Nat} (h : ¬ T[p]!.S[0]!.X[j]! < 0) :
 ((List.range k).map (ncell T p 0 j)).set j (.own 2 ((nxtL T j p).map eC ++ [.agg [I ((offL T p : Int) + T[p]!.S[0]!.X[j]!), I (twoP p)]])) = (List.range k).map (ncell T p 0 (j + 1)) := by
 apply List.ext_getElem?
 intro a
 rw [List.getElem?_set]
 by_cases e : j = a
 ·subst e
  by_cases hl : j < k
  ·have hx : nxtL T j (p + 1) = nxtL T j p ++ [⟨(offL T p : Int) + T[p]!.S[0]!.X[j]!, twoP p⟩] := by
    simp only [nxtL]; rw [if_pos (by omega)]
   simp only [List.length_map, List.length_range, hl, if_true, List.getElem?_map, List.getElem?_range hl, Option.map_some, ncell]
   rw [if_neg (by omega), hx, List.map_append, List.map_cons, List.map_nil, cellv, if_neg (by simp)]
   rfl
  ·simp [hl]
 ·by_cases hl : a < k
  ·rw [if_neg e]
   simp only [List.getElem?_map, List.getElem?_range hl, Option.map_some]
   unfold ncell
   by_cases h2 : j ≤ a
   ·rw [if_pos ⟨rfl, h2⟩, if_pos ⟨rfl, by omega⟩]
   ·rw [if_neg (by omega), if_neg (by omega)]
  ·simp [e, hl]
def ycell (p off : Nat) (x : Stt) (j a : Nat) : AV := if a < j ∧ 0 ≤ x.X[a]! then .own 2 [.agg [I ((off : Int) + x.X[a]!), I (twoP p)]] else .nils
theorem ycell_skip {p off k j : Nat} {x : Stt} (h : x.X[j]! < 0) : (List.range k).map (ycell p off x j) = (List.range k).map (ycell p off x (j + 1)) := by
 refine List.map_congr_left fun a _ => ?_
 simp only [ycell]
 by_cases ha : a = j
 ·subst ha; rw [if_neg (by omega), if_neg (by omega)]
 ·by_cases h2 : a < j ∧ 0 ≤ x.X[a]!
  ·rw [if_pos h2, if_pos ⟨by omega, h2.2⟩]
  ·rw [if_neg h2, if_neg (by omega)]
theorem ycell_at {p off j : Nat} {x : Stt} : ycell p off x j j = .nils := by simp [ycell]
theorem ycell_set {p off k j : Nat} {x : Stt} (h : ¬ x.X[j]! < 0) : ((List.range k).map (ycell p off x j)).set j (.own 2 [.agg [I ((off : Int) + x.X[j]!), I (twoP p)]]) = (List.range k).map (ycell p off x (j + 1)) := by
 apply List.ext_getElem?
 intro a
 rw [List.getElem?_set]
 by_cases e : j = a
 ·subst e
  by_cases hl : j < k
  ·simp only [List.length_map, List.length_range, hl, if_true, List.getElem?_map, List.getElem?_range hl, Option.map_some, ycell]
   rw [if_pos ⟨by omega, by omega⟩]
  ·simp [hl]
 ·by_cases hl : a < k
  ·rw [if_neg e]
   simp only [List.getElem?_map, List.getElem?_range hl, Option.map_some, ycell]
   by_cases h2 : a < j ∧ 0 ≤ x.X[a]!
   ·rw [if_pos h2, if_pos ⟨by omega, h2.2⟩]
   ·rw [if_neg h2, if_neg (by omega)]
  ·simp [e, hl]
theorem ycell_zero {p off k : Nat} {x : Stt} : List.replicate k AV.nils = (List.range k).map (ycell p off x 0) := by
 apply List.ext_getElem (by simp); intro j h1 h2; simp [ycell]
theorem ycell_end {p off : Nat} {x : Stt} : (List.range x.X.length).map (ycell p off x x.X.length) = (planP p off x).X.map cC := by
 apply List.ext_getElem (by simp [planP])
 intro j h1 h2
 simp at h1
 simp only [List.getElem_map, List.getElem_range, ycell, planP, cC]
 rw [getElem!_pos x.X j h1]
 by_cases h0 : 0 ≤ x.X[j]
 ·rw [if_pos ⟨h1, h0⟩, if_pos h0, List.map_cons, List.map_nil, cellv, if_neg (by simp)]; rfl
 ·rw [if_neg (by omega), if_neg h0, List.map_nil, cellv, if_pos rfl]
theorem acc_eq {p off : Nat} {x : Stt} : (x.A.map fun v => AV.agg [I v, I (twoP p)]) = (planP p off x).A.map eC := by
 simp only [planP, List.map_map]; rfl
def setN (T : List Spc) (p j v : Nat) : Nat := bitsN (hasS T v) p ||| (if ((T[p]!.S[0]!.A.take j).any fun x => x == (v : Int)) = true then 2 ^ p else 0)
def scell (T : List Spc) (p j v : Nat) : AV := I (setN T p j v : Nat)
def r256 : List Nat := List.range 256
theorem r256_len : r256.length = 256 := by rw [r256, List.length_range]
theorem r256_get {v : Nat} (h : v < 256) : r256[v]! = v := rng_get h
theorem setN_lt {T : List Spc} {p j v : Nat} (hp : p ≤ 32) : setN T p j v < 2 ^ 63 := by
 unfold setN
 refine Nat.or_lt_two_pow (bitsN_63 hp) ?_
 split
 ·exact Nat.pow_lt_pow_right (by omega) (by omega)
 ·omega
theorem setN_zero {T : List Spc} {p v : Nat} : setN T p 0 v = bitsN (hasS T v) p := by simp [setN]
theorem setN_end {T : List Spc} {p v : Nat} : setN T p T[p]!.S[0]!.A.length v = bitsN (hasS T v) (p + 1) := by
 unfold setN
 rw [List.take_length, bitsN_succ]
 have e : (T[p]!.S[0]!.A.any fun x => x == (v : Int)) = hasS T v p := by
  unfold hasS
  by_cases h : (v : Int) ∈ T[p]!.S[0]!.A
  ·rw [decide_eq_true h]; exact List.any_eq_true.2 ⟨_, h, by simp⟩
  ·rw [decide_eq_false h]; exact List.any_eq_false.2 fun x hx => by intro hh; rw [beq_iff_eq] at hh; rw [hh] at hx; exact h hx
 rw [e]
 by_cases h : hasS T v p = true
 ·rw [if_pos h, if_pos h]
 ·rw [if_neg h, if_neg h, Nat.or_zero]
theorem scell_end {T : List Spc} {p : Nat} : r256.map (scell T p T[p]!.S[0]!.A.length) = r256.map (scell T (p + 1) 0) := by
 refine List.map_congr_left fun v _ => ?_
 simp only [scell, setN_end, setN_zero]
theorem scell_zero {T : List Spc} : zeros 256 = r256.map (scell T 0 0) := by
 unfold zeros r256
 apply List.ext_getElem (by simp [-List.reduceReplicate])
 intro j h1 h2
 rw [List.getElem_replicate, List.getElem_map, List.getElem_range]
 unfold scell; rw [setN_zero]; rfl
theorem scell_set {T : List Spc} {p j v : Nat} (hj : j < T[p]!.S[0]!.A.length) (hv : T[p]!.S[0]!.A[j]! = (v : Int)) :
 (r256.map (scell T p j)).set v (I ((setN T p j v ||| 2 ^ p : Nat) : Int)) = r256.map (scell T p (j + 1)) := by
 have ht : T[p]!.S[0]!.A.take (j + 1) = T[p]!.S[0]!.A.take j ++ [(v : Int)] := by
  rw [List.take_succ_eq_append_getElem hj, ← getElem!_pos T[p]!.S[0]!.A j hj, hv]
 unfold r256
 apply List.ext_getElem?
 intro a
 rw [List.getElem?_set]
 by_cases e : v = a
 ·subst e
  by_cases hl : v < 256
  ·simp only [List.length_map, List.length_range, hl, if_true, List.getElem?_map, List.getElem?_range hl, Option.map_some, scell]
   congr 3
   unfold setN
   rw [ht, List.any_append]
   simp only [List.any_cons, beq_self_eq_true, Bool.true_or, Bool.or_true, if_true]
   split
   ·rw [Nat.or_assoc, Nat.or_self]
   ·rw [Nat.or_zero]
  ·simp [hl]
 ·by_cases hl : a < 256
  ·rw [if_neg e]
   simp only [List.getElem?_map, List.getElem?_range hl, Option.map_some, scell]
   congr 3
   unfold setN
   rw [ht, List.any_append]
   have : ([(v : Int)].any fun x => x == (a : Int)) = false := by simp; omega
   rw [this, Bool.or_false]
  ·simp [e, hl]
def accJ (T : List Spc) (n v : Nat) : List Ch := ((List.range v).filter fun v => bitsN (hasS T v) n != 0).map fun v : Nat => (⟨(v : Int), ((bitsN (hasS T v) n : Nat) : Int)⟩ : Ch)
theorem accJ_skip {T : List Spc} {n v : Nat} (h : bitsN (hasS T v) n = 0) : accJ T n (v + 1) = accJ T n v := by
 unfold accJ; rw [List.range_succ, List.filter_append]; simp [h]
theorem accJ_next {T : List Spc} {n v : Nat} (h : ¬ bitsN (hasS T v) n = 0) : accJ T n (v + 1) = accJ T n v ++ [⟨(v : Int), ((bitsN (hasS T v) n : Nat) : Int)⟩] := by
 unfold accJ; rw [List.range_succ, List.filter_append]; simp [h]
theorem accJ_end {T : List Spc} {n : Nat} : accJ T n 256 = accL T n := (rfl)
theorem accJ_len {T : List Spc} {n : Nat} : ∀ v, (accJ T n v).length ≤ v := by
 intro v; unfold accJ; rw [List.length_map]; exact Nat.le_trans (List.length_filter_le _ _) (by simp)
theorem nxtL_len {T : List Spc} {a : Nat} : ∀ p, (nxtL T a p).length ≤ p := by
 intro p
 induction p with
 | zero => exact Nat.le_refl _
 | succ p ih => simp only [nxtL, List.length_append]; split <;> simp <;> omega
theorem dt1 {f : Nat → AV} {n v : Nat} (h : v < n) : (((List.range n).map f).drop v).take 1 = [f v] := by
 rw [List.drop_eq_getElem_cons (by simpa using h), List.take_succ_cons, List.take_zero]; simp
theorem dt256 {f : Nat → AV} {v : Nat} (h : v < 256) : ((r256.map f).drop v).take 1 = [f v] := dt1 h
theorem outLK_ints {f : Nat → Int} : ∀ {l : List Nat} {r st : Nat} {p : Path} {ss i j : Nat} {q : List AV → Prop}, outLK r st p ss i j (l.map fun v => I (f v)) q = q (l.map fun v => I (f v)) := by
 intro l
 induction l with
 | nil => intros; rfl
 | cons x l ih => intro r st p ss i j q; simp only [List.map_cons, outLK_cons, go_sem, ih]
end Go.Mw
