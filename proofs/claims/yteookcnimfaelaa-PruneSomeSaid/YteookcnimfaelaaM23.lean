/- The map and the rows that prune.Witness builds up: plain facts. -/
import Derived.Test.YteookcnimfaelaaM22
set_option linter.unusedVariables false
set_option linter.unusedSimpArgs false
namespace Go.Mw
set_option maxRecDepth 100000
def keyW (t : Spc) (x : Nat) : Int × Int := (((x : Nat) : Int), ((fsN t x : Nat) : Int))
def entO (t : Spc) : List Nat → Nat → List KV
 | [], _ => []
 | x :: l, j => (keyW t x, I (j : Nat)) :: entO t l (j + 1)
def entW (t : Spc) (l : List Nat) : List KV := entO t l 0
theorem ent_key {t : Spc} {x k : Nat} : (keyW t x == keyW t k) = (x == k) := by
 by_cases e : x = k
 ·subst e; simp
 ·have : (x == k) = false := beq_eq_false_iff_ne.2 e
  rw [this]
  refine beq_eq_false_iff_ne.2 fun h => e ?_
  have := congrArg Prod.fst h
  simp only [keyW] at this; omega
theorem ent_find {t : Spc} {k : Nat} : ∀ {l : List Nat} {j : Nat}, (entO t l j).find? (fun e => e.1 == keyW t k) = if k ∈ l then some (keyW t k, I ((j + l.idxOf k : Nat))) else none := by
 intro l
 induction l with
 | nil => intro j; simp [entO]
 | cons x l ih =>
   intro j
   simp only [entO, List.find?_cons, ent_key]
   by_cases e : x = k
   ·subst e; simp
   ·have hb : (x == k) = false := beq_eq_false_iff_ne.2 e
    rw [hb]
    simp only [ih, List.mem_cons, List.idxOf_cons, hb, cond_false]
    by_cases hm : k ∈ l
    ·rw [if_pos hm, if_pos (.inr hm)]
     congr 4; omega
    ·rw [if_neg hm, if_neg (by rintro (h | h); exact e h.symm; exact hm h)]
theorem ent_idx {t : Spc} {l : List Nat} {k : Nat} (h : k ∉ l) : (entW t l).findIdx? (fun e => e.1 == keyW t k) = none := by
 have h1 := @ent_find t k l 0
 rw [if_neg h] at h1
 rw [List.findIdx?_eq_none_iff]
 rw [List.find?_eq_none] at h1
 intro x hx; have := h1 x hx; simpa using this
theorem ent_look {t : Spc} {l : List Nat} {k : Nat} {z : AV} : lookM (entW t l) (keyW t k) z = if k ∈ l then I (l.idxOf k : Nat) else z := by
 unfold lookM entW
 rw [ent_find]
 by_cases h : k ∈ l
 ·rw [if_pos h, if_pos h]; simp
 ·rw [if_neg h, if_neg h]
theorem ent_has {t : Spc} {l : List Nat} {k : Nat} : hasM (entW t l) (keyW t k) = decide (k ∈ l) := by
 by_cases h : k ∈ l
 ·rw [decide_eq_true h]
  have h1 := @ent_find t k l 0
  rw [if_pos h] at h1
  exact List.any_eq_true.2 ⟨_, List.mem_of_find?_eq_some h1, by simp⟩
 ·rw [decide_eq_false h, has_idx, ent_idx h]; rfl
theorem ent_app {t : Spc} {k : Nat} : ∀ {l : List Nat} {j : Nat}, entO t (l ++ [k]) j = entO t l j ++ [(keyW t k, I ((j + l.length : Nat)))] := by
 intro l
 induction l with
 | nil => intro j; simp [entO]
 | cons x l ih =>
   intro j
   simp only [List.cons_append, entO, ih, List.length_cons]
   rw [show j + 1 + l.length = j + (l.length + 1) by omega]
theorem ent_put {t : Spc} {l : List Nat} {k : Nat} (h : k ∉ l) : putM (entW t l) (keyW t k) (I (l.length : Nat)) = entW t (l ++ [k]) := by
 unfold putM
 rw [ens_none (ent_idx h)]
 unfold entW
 rw [ent_app, Nat.zero_add]
theorem ent_one {t : Spc} : putM [] (keyW t 0) (I 0) = entW t [0] := by
 have := @ent_put t [] 0 (by simp)
 exact this
def stp (t : Spc) (x : Nat) : AV := .agg [I x, I (fsN t x : Nat)]
def sc0 (t : Spc) (i x : Nat) : AV := if x < i then .own 1 [I (fsN t x : Nat)] else .nils
theorem sc0_at {t : Spc} {i : Nat} : sc0 t i i = .nils := by simp [sc0]
theorem sc0_zero {t : Spc} {n : Nat} : List.replicate n AV.nils = (List.range n).map (sc0 t 0) := by
 apply List.ext_getElem (by simp); intro j h1 h2; simp [sc0]
theorem sc0_set {t : Spc} {n i : Nat} : ((List.range n).map (sc0 t i)).set i (.own 1 [I (fsN t i : Nat)]) = (List.range n).map (sc0 t (i + 1)) := by
 apply List.ext_getElem?
 intro a
 rw [List.getElem?_set]
 by_cases e : i = a
 ·subst e
  by_cases hl : i < n
  ·simp only [List.length_map, List.length_range, hl, if_true, List.getElem?_map, List.getElem?_range hl, Option.map_some]
   unfold sc0; rw [if_pos (by omega)]
  ·simp [hl]
 ·by_cases hl : a < n
  ·rw [if_neg e]
   simp only [List.getElem?_map, List.getElem?_range hl, Option.map_some]
   unfold sc0
   by_cases h2 : a < i
   ·rw [if_pos h2, if_pos (by omega)]
   ·rw [if_neg h2, if_neg (by omega)]
  ·simp [e, hl]
theorem sc0_end {t : Spc} {n k : Nat} (h : k < n) : sc0 t n k = .own 1 [I (fsN t k : Nat)] := by unfold sc0; rw [if_pos h]
theorem bfs_step {n : Nat} {nx : Nat → List Int} {i : Nat} : ∀ j, (bfsAt n nx i).2 <+: (bfsAt n nx (i + j)).2 := by
 intro j
 induction j with
 | zero => exact List.prefix_refl _
 | succ j ih =>
   refine ih.trans ?_
   rw [← Nat.add_assoc]
   simp only [bfsAt]
   split
   ·exact visits_pre _
   ·exact List.prefix_refl _
theorem bfs_ord {n : Nat} {nx : Nat → List Int} {i : Nat} (hi : i ≤ n) : (bfsAt n nx i).2 <+: orderL n nx := by
 have := @bfs_step n nx i (n - i)
 rwa [show i + (n - i) = n by omega] at this
theorem idx_pre {l m : List Nat} {k : Nat} (h : l <+: m) (hk : k ∈ l) : l.idxOf k = m.idxOf k := by
 obtain ⟨r, rfl⟩ := h
 rw [List.idxOf_append, if_pos hk]
theorem mupF_nil {a c : Int} {v : AV} {q : List (AV × AV) → Prop} : mupF (true, [1, 1]) (.agg [I a, I c]) v [] q = q (entsE (putM [] (a, c) v)) := @mupF_E a c v [] q
theorem WSp.fs0 {t : Spc} (h : WSp t) {x : Nat} (hx : x < t.S.length) : t.S[x]!.A[0]! = ((fsN t x : Nat) : Int) := by
 have := (h.ok.st x hx).a 0 (h.ne x hx)
 unfold fsN; omega
theorem cells_nilm : AV.nilm.cells = [.nilm] := (rfl)
theorem plain_nilm : AV.nilm.plain = true := (rfl)
theorem wp_inG {x : Opd} {p : Nat} {kt ks : List Nat} {asg body : C} {b : Nat} {σ : St} {Q : Ex → St → Prop} (set : Nat) (hs : set < 2 ^ 62) (hx : σ.get x = .fn f_act_In_1 [.pfro [I set]])
 (Inv : Nat → List Ob → Prop) (hlen : ∀ a h, Inv a h → h.length = σ.h.length) (h0 : Inv 0 σ.h) (skip : ∀ a h, set.testBit a = false → Inv a h → Inv (a + 1) h)
 (step : ∀ a h (LF LT : List Lp), set.testBit a = true → a < 62 → Inv a h → Wp G asg b ⟨(kill kt σ.t).set p (I a), freeSites b ks h, LF⟩ (fun e σ1 => e = .nrm ∧ σ1.lp = LF ∧
   Wp G body b { σ1 with lp := LT } (fun e σ2 => σ2.lp = LT ∧ match e with | .nrm => Inv (a + 1) σ2.h | e => σ2.h.length = σ.h.length ∧ Q e ⟨σ.t, σ2.h, σ.lp⟩)))
 (fin : ∀ a h, set < 2 ^ a → Inv a h → Q .nrm ⟨σ.t, h, σ.lp⟩) : Wp G (.rngf x [p] kt ks asg body) b σ Q :=
 wp_in set hs hx Inv hlen h0 skip (fun a h h1 h2 h3 => step a h _ _ h1 h2 h3) fin
theorem tgW_pre {t : Spc} {x j k : Nat} (h : j ≤ k) : tgW t x j <+: tgW t x k := by
 obtain ⟨d, rfl⟩ : ∃ d, k = j + d := ⟨k - j, by omega⟩
 clear h
 induction d with
 | zero => exact List.prefix_refl _
 | succ d ih =>
   refine ih.trans ?_
   rw [← Nat.add_assoc]
   cases hb : (fsN t x).testBit (j + d) with
   | true => rw [tgW_next hb]; exact List.prefix_append _ _
   | false => rw [tgW_skip hb]; exact List.prefix_refl _
theorem tgW_end {t : Spc} (h : WSp t) {x a : Nat} (hx : x < t.S.length) (ha : fsN t x < 2 ^ a) : tgW t x a = nxW t x := by
 have key : ∀ j k, j ≤ k → (∀ b, j ≤ b → (fsN t x).testBit b = false) → tgW t x k = tgW t x j := by
  intro j k hjk hb
  obtain ⟨d, rfl⟩ : ∃ d, k = j + d := ⟨k - j, by omega⟩
  clear hjk
  induction d with
  | zero => rfl
  | succ d ih => rw [← Nat.add_assoc, tgW_skip (hb _ (by omega)), ih]
 unfold nxW
 rcases Nat.le_total a t.acts.length with h1 | h1
 ·exact (key a _ h1 fun b hb => testBit_big ha hb).symm
 ·exact key _ a h1 fun b hb => testBit_big (h.fs_lt hx) hb
theorem edW_end {t : Spc} (h : WSp t) {x a : Nat} (hx : x < t.S.length) (ha : fsN t x < 2 ^ a) : edW t x a = edW t x t.acts.length := by
 have key : ∀ j k, j ≤ k → (∀ b, j ≤ b → (fsN t x).testBit b = false) → edW t x k = edW t x j := by
  intro j k hjk hb
  obtain ⟨d, rfl⟩ : ∃ d, k = j + d := ⟨k - j, by omega⟩
  clear hjk
  induction d with
  | zero => rfl
  | succ d ih => rw [← Nat.add_assoc, edW_skip (hb _ (by omega)), ih]
 rcases Nat.le_total a t.acts.length with h1 | h1
 ·exact (key a _ h1 fun b hb => testBit_big ha hb).symm
 ·exact key _ a h1 fun b hb => testBit_big (h.fs_lt hx) hb
theorem visit_mem {n : Nat} {w : List Bool × List Nat} (hW : VI n w) {k : Nat} (hk : k < n) : (visit w (k : Int)).2 = if k ∈ w.2 then w.2 else w.2 ++ [k] := by
 unfold visit
 rw [Int.toNat_natCast]
 by_cases hf : w.1[k]! = false
 ·rw [if_pos ⟨by omega, hf⟩, if_neg]
  intro hm
  have := ((hW.m k).1 hm).2
  rw [hf] at this; cases this
 ·rw [if_neg (fun g => hf g.2), if_pos]
  exact (hW.m k).2 ⟨hk, by cases hc : w.1[k]! with | true => rfl | false => exact absurd hc hf⟩
theorem edW_ris {t : Spc} (h : WSp t) {x : Nat} (hx : x ∈ ordW t) : RisE (edW t x t.acts.length) := by
 have h8 := actsOk_len h.ok.acts
 have hl := h.len
 have hs2 := h.ok.s2
 refine ⟨Nat.le_trans edW_len h8, fun i hi => ?_, fun i hi h0 => ?_⟩
 ·obtain ⟨a, hb, ha, he⟩ := edW_mem (getMem hi)
  have hlt := List.idxOf_lt_length_of_mem (h.closed hx hb)
  rw [he]; simp only; omega
 ·have hpw := @edW_pw t x t.acts.length
  have := List.pairwise_iff_getElem.1 hpw (i - 1) i (by omega) hi (by omega)
  rw [← getElem!_pos _ (i - 1) (by omega), ← getElem!_pos _ i hi] at this
  exact this
end Go.Mw
/- prune.Witness, where nothing is wanted: the walk. -/
namespace Go.Mw
set_option maxRecDepth 100000
attribute [local go_sem] takeCellK_mp one_mp cells_mp isNode_ownm lokK_mpP mupK_mpP mupF_E mupF_nil cells_nilm plain_nilm
theorem witness_ok (t : Spc) (h : WSp t) : Fn G f_prune_Witness [eSp t, .lst []] (eSys (witOf t)) := by
 have hk8 := actsOk_len h.ok.acts
 have hn1 := h.ok.s1
 have hn2 := h.ok.s2
 refine FnP.mk' g_prune_Witness rfl rfl ?_
 simp only [go_sem, ↓reduceIte, ↓gA, ↓gB, ↓gC, ↓gD, ↓cA, ↓cB, c_prune_Witness, eSp, clone_r (show t.acts.length ≤ 1048576 by omega)]
 refine ⟨by omega, ?_⟩
 rw [sc0_zero (t := t)]
 refine wp_loopQ (fun (i : Nat) σ => i ≤ t.S.length ∧ ∃ z a4 c4 a5 c5, σ = ⟨aT .undef 170 [(1, .lst []), (2, .ptr 0 1 [] 0 0 0), (4, .ptr 1 1 [] 0 0 0), (5, .ptr 3 1 [] 0 0 0), (27, .lst (t.S.map eSt)), (28, I t.S.length), (29, I i)], [⟨1, 0, .own 2 [.agg [.lst (t.acts.map .str), .lst (t.S.map eSt)]]⟩, ⟨1, 0, .own 2 [.agg [.nils, .nils]]⟩, ⟨1, 0, .gone⟩, ⟨1, z, .own 1 [.own 1 ((List.range t.S.length).map (sc0 t i))]⟩, ⟨a4, c4, .gone⟩, ⟨a5, c5, .gone⟩, ⟨0, 0, .gone⟩, ⟨0, 0, .gone⟩, ⟨0, 0, .gone⟩, ⟨0, 0, .gone⟩, ⟨0, 0, .gone⟩, ⟨0, 0, .gone⟩, ⟨0, 0, .gone⟩, ⟨0, 0, .gone⟩, ⟨0, 0, .gone⟩, ⟨0, 0, .gone⟩, ⟨0, 0, .gone⟩, ⟨0, 0, .gone⟩, ⟨0, 0, .gone⟩, ⟨0, 0, .gone⟩, ⟨0, 0, .gone⟩, ⟨0, 0, .gone⟩, ⟨0, 0, .gone⟩, ⟨0, 0, .gone⟩], []⟩) (fun i => t.S.length - i) ?_ 0 ?_
 ·rintro i σ ⟨hi, z, a4, c4, a5, c5, rfl⟩ N Q hQ hN
  by_cases hlt : i < t.S.length
  ·have hA0 := h.ne i hlt
   have hfs := h.fs0 hlt
   simp only [go_sem, ↓reduceIte, ↓gA, ↓gB, ↓gC, ↓gD, ↓cA, ↓cB, eSt, wrap_succ hlt (by omega), Int.ofNat_lt, hlt, hfs, List.length_range, rng_get hlt, hA0, sc0_at]
   refine hN (i + 1) _ (by omega) ⟨by omega, ?_⟩
   simp only [go_sem, ↓reduceIte, ↓gA, ↓gB, ↓gC, ↓gD, ↓cA, ↓cB, sc0_set]
   repeat apply Exists.intro
   rfl
  ·have hil : i = t.S.length := by omega
   subst hil hQ
   simp only [go_sem, ↓reduceIte, ↓gA, ↓gB, ↓gC, ↓gD, ↓cA, ↓cB, Int.ofNat_lt, hlt]
   refine wp_loopQ (fun (_ : Unit) σ => σ = ⟨aT .undef 170 [(1, .lst []), (2, .ptr 0 1 [] 0 0 0), (4, .ptr 1 1 [] 0 0 0), (5, .ptr 3 1 [] 0 0 0), (43, .lst []), (44, I 0), (45, I 0)], [⟨1, 0, .own 2 [.agg [.lst (t.acts.map .str), .lst (t.S.map eSt)]]⟩, ⟨1, 0, .own 2 [.agg [.nils, .nils]]⟩, ⟨1, 0, .gone⟩, ⟨1, z, .own 1 [.own 1 ((List.range t.S.length).map (sc0 t t.S.length))]⟩, ⟨a4, c4, .gone⟩, ⟨a5, c5, .gone⟩, ⟨0, 0, .gone⟩, ⟨0, 0, .gone⟩, ⟨0, 0, .gone⟩, ⟨0, 0, .gone⟩, ⟨0, 0, .gone⟩, ⟨0, 0, .gone⟩, ⟨0, 0, .gone⟩, ⟨0, 0, .gone⟩, ⟨0, 0, .gone⟩, ⟨0, 0, .gone⟩, ⟨0, 0, .gone⟩, ⟨0, 0, .gone⟩, ⟨0, 0, .gone⟩, ⟨0, 0, .gone⟩, ⟨0, 0, .gone⟩, ⟨0, 0, .gone⟩, ⟨0, 0, .gone⟩, ⟨0, 0, .gone⟩], []⟩) (fun _ => 0) ?_ () ?_
   ·rintro _ σ rfl N2 Q2 hQ2 hN2
    subst hQ2
    have e1 : putM [] ((0 : Int), ((fsN t 0 : Nat) : Int)) (I 0) = entW t [0] := ent_one
    simp only [go_sem, ↓reduceIte, ↓gA, ↓gB, ↓gC, ↓gD, ↓cA, ↓cB, eSt, hn1, h.ne 0 hn1, h.fs0 hn1, e1, clone_r (show t.acts.length ≤ 1048576 by omega)]
    refine ⟨by omega, ?_⟩
    refine wp_loopQ (fun (i : Nat) σ => i ≤ (bfsAt t.S.length (nxW t) i).2.length ∧ ∃ z11 z13 z14 s15 a16 c16 a17 c17 a18 c18 a19 c19 a20 c20 a21 c21 a22 c22, σ = ⟨aT .undef 170 [(2, .ptr 0 1 [] 0 0 0), (4, .ptr 1 1 [] 0 0 0), (5, .ptr 3 1 [] 0 0 0), (11, .ptr 11 1 [] 0 0 0), (12, .ptr 13 1 [] 0 0 0), (13, .ptr 14 1 [] 0 0 0), (14, .ptr 15 s15 [] 0 0 0)], [⟨1, 0, .own 2 [.agg [.lst (t.acts.map .str), .lst (t.S.map eSt)]]⟩, ⟨1, 0, .own 2 [.agg [.nils, .nils]]⟩, ⟨1, 0, .gone⟩, ⟨1, z, .own 1 [.own 1 ((List.range t.S.length).map (sc0 t t.S.length))]⟩, ⟨a4, c4, .gone⟩, ⟨a5, c5, .gone⟩, ⟨0, 0, .gone⟩, ⟨0, 0, .gone⟩, ⟨0, 0, .gone⟩, ⟨1, 0, .own 2 [.agg [I 0, I (fsN t 0 : Nat)]]⟩, ⟨1, 0, .gone⟩, ⟨1, z11, .own 1 [.ownm (entsE (entW t (bfsAt t.S.length (nxW t) i).2))]⟩, ⟨1, 0, .gone⟩, ⟨1, z13, .own 1 [.own 2 (((bfsAt t.S.length (nxW t) i).2).map (stp t))]⟩, ⟨1, z14, .own 2 [.agg [.lst (t.acts.map .str), cellv .nils 1 (((ordW t).take (i)).map fun x => cellv .nils 2 ((edW t x t.acts.length).map eE))]]⟩, ⟨s15, 0, .own 1 [I i]⟩, ⟨a16, c16, .gone⟩, ⟨a17, c17, .gone⟩, ⟨a18, c18, .gone⟩, ⟨a19, c19, .gone⟩, ⟨a20, c20, .gone⟩, ⟨a21, c21, .gone⟩, ⟨a22, c22, .gone⟩, ⟨0, 0, .gone⟩], []⟩) (fun i => t.S.length - i) ?_ 0 ?_
    ·rintro i σ ⟨hi, z11, z13, z14, s15, a16, c16, a17, c17, a18, c18, a19, c19, a20, c20, a21, c21, a22, c22, rfl⟩ N Q hQ hN
     have hV := h.vi i
     have hVl := hV.len
     have hbs : bfsAt t.S.length (nxW t) (i + 1) = if i < (bfsAt t.S.length (nxW t) i).2.length then (nxW t (bfsAt t.S.length (nxW t) i).2[i]!).foldl visit (bfsAt t.S.length (nxW t) i) else bfsAt t.S.length (nxW t) i := rfl
     have hpo := @bfs_step t.S.length (nxW t) i
     by_cases hlt : i < (bfsAt t.S.length (nxW t) i).2.length
     ·rw [if_pos hlt] at hbs
      have hxn := hV.get hlt
      have hin : i < t.S.length := by omega
      have hpo1 : (bfsAt t.S.length (nxW t) (i + 1)).2 <+: ordW t := bfs_ord (by omega)
      have hqp : (bfsAt t.S.length (nxW t) i).2 <+: ordW t := bfs_ord (by omega)
      have hxo : (bfsAt t.S.length (nxW t) i).2[i]! ∈ ordW t := (bfs_ord (by omega) : (bfsAt t.S.length (nxW t) i).2 <+: ordW t).subset (getMem hlt)
      have hfsl := h.fs_lt hxn
      have h28 : 2 ^ t.acts.length ≤ 2 ^ 8 := Nat.pow_le_pow_right (by omega) hk8
      simp only [go_sem, ↓reduceIte, ↓gA, ↓gB, ↓gC, ↓gD, ↓cA, ↓cB, Int.ofNat_lt, hlt, stp]
      have hib1 : i + 1 ≤ (bfsAt t.S.length (nxW t) (i + 1)).2.length := by rw [hbs]; have := (visits_pre (nxW t (bfsAt t.S.length (nxW t) i).2[i]!) (p := bfsAt t.S.length (nxW t) i)).length_le; omega
      have hib : i ≤ (bfsAt t.S.length (nxW t) (i + 1)).2.length := by rw [hbs]; have := (visits_pre (nxW t (bfsAt t.S.length (nxW t) i).2[i]!) (p := bfsAt t.S.length (nxW t) i)).length_le; omega
      have hoi : (ordW t)[i]! = (bfsAt t.S.length (nxW t) i).2[i]! := by
       have hq : (bfsAt t.S.length (nxW t) i).2 <+: ordW t := bfs_ord (by omega)
       obtain ⟨r, hr⟩ := hq
       rw [← hr, List.getElem!_eq_getElem?_getD, List.getElem?_append_left hlt, ← List.getElem!_eq_getElem?_getD]
      generalize bfsAt t.S.length (nxW t) i = p at *
      generalize hxe : p.2[i]! = x at *
      have hW : ∀ a, VI t.S.length ((tgW t x a).foldl visit p) := fun a => hV.all _ (fun k hk => by
       obtain ⟨a, ha, rfl⟩ := List.mem_map.1 hk
       exact (h.fs_bit hxn (List.mem_filter.1 ha).2).2.2)
      have hpre : ∀ a, a ≤ t.acts.length → ((tgW t x a).foldl visit p).2 <+: ordW t := fun a ha => by
       refine List.IsPrefix.trans ?_ hpo1
       rw [hbs]
       obtain ⟨r, hr⟩ := (tgW_pre ha : tgW t x a <+: tgW t x t.acts.length)
       unfold nxW
       rw [← hr, List.foldl_append]
       exact visits_pre r
      refine wp_inG (fsN t x) (by omega) (by simp only [go_sem, ↓reduceIte, ↓gA, ↓gB, ↓gC, ↓gD, ↓cA, ↓cB]) (fun a hh => ∃ z11 z13 z16 a17 c17 a18 c18 a19 c19 a20 c20, hh = [⟨1, 0, .own 2 [.agg [.lst (t.acts.map .str), .lst (t.S.map eSt)]]⟩, ⟨1, 0, .own 2 [.agg [.nils, .nils]]⟩, ⟨1, 0, .gone⟩, ⟨1, z, .own 1 [.own 1 ((List.range t.S.length).map (sc0 t t.S.length))]⟩, ⟨a4, c4, .gone⟩, ⟨a5, c5, .gone⟩, ⟨0, 0, .gone⟩, ⟨0, 0, .gone⟩, ⟨0, 0, .gone⟩, ⟨1, 0, .own 2 [.agg [I 0, I (fsN t 0 : Nat)]]⟩, ⟨1, 0, .gone⟩, ⟨1, z11, .own 1 [.ownm (entsE (entW t ((tgW t x a).foldl visit p).2))]⟩, ⟨1, 0, .gone⟩, ⟨1, z13, .own 1 [.own 2 ((((tgW t x a).foldl visit p).2).map (stp t))]⟩, ⟨1, z14, .own 2 [.agg [.lst (t.acts.map .str), cellv .nils 1 (((ordW t).take (i)).map fun x => cellv .nils 2 ((edW t x t.acts.length).map eE))]]⟩, ⟨s15, 0, .own 1 [I i]⟩, ⟨a16 + 1, z16, .own 1 [cellv .nils 2 ((edW t x a).map eE)]⟩, ⟨a17, c17, .gone⟩, ⟨a18, c18, .gone⟩, ⟨a19, c19, .gone⟩, ⟨a20, c20, .gone⟩, ⟨a21, c21, .gone⟩, ⟨a22, c22, .gone⟩, ⟨0, 0, .gone⟩]) ?_ ?_ ?_ ?_ ?_
      ·rintro a hh ⟨z11, z13, z16, a17, c17, a18, c18, a19, c19, a20, c20, rfl⟩; rfl
      ·simp only [go_sem, ↓reduceIte, ↓gA, ↓gB, ↓gC, ↓gD, ↓cA, ↓cB]
       repeat apply Exists.intro
       rfl
      ·rintro a hh hbit ⟨z11, z13, z16, a17, c17, a18, c18, a19, c19, a20, c20, rfl⟩
       rw [tgW_skip hbit, edW_skip hbit]
       exact ⟨_, _, _, _, _, _, _, _, _, _, _, rfl⟩
      ·rintro a hh LF LT hbit ha62 ⟨z11, z13, z16, a17, c17, a18, c18, a19, c19, a20, c20, rfl⟩
       obtain ⟨haa, hX0, hXn⟩ := h.fs_bit hxn hbit
       have haX : a < t.S[x]!.X.length := by rw [(h.ok.st x hxn).len]; exact haa
       have hWa := hW a
       have hpa := hpre (a + 1) (by omega)
       rw [tgW_next hbit, List.foldl_append, List.foldl_cons, List.foldl_nil] at hpa
       rw [tgW_next hbit, List.foldl_append, List.foldl_cons, List.foldl_nil, edW_next hbit]
       obtain ⟨k, hk⟩ : ∃ k : Nat, t.S[x]!.X[a]! = k := ⟨t.S[x]!.X[a]!.toNat, by omega⟩
       have hkn : k < t.S.length := by omega
       rw [hk, visit_mem hWa hkn] at hpa
       rw [hk, visit_mem hWa hkn, Int.toNat_natCast]
       have hel : (edW t x a).length ≤ a := edW_len
       have hwp : p.2 <+: ((tgW t x a).foldl visit p).2 := visits_pre _
       generalize (tgW t x a).foldl visit p = w at *
       have hwi : i < w.2.length := Nat.lt_of_lt_of_le hlt hwp.length_le
       have hwx : w.2[i]! = x := by
        obtain ⟨r, hr⟩ := hwp
        rw [← hxe, ← hr, List.getElem!_eq_getElem?_getD, List.getElem?_append_left hlt, ← List.getElem!_eq_getElem?_getD]
       have hwl := hWa.len
       simp only [go_sem, ↓reduceIte, ↓gA, ↓gB, ↓gC, ↓gD, ↓cA, ↓cB, a_prune_Witness_6, b_prune_Witness_6, stp, hwi, hwx, Int.ofNat_lt, hxn, eSt, haX, hk, hkn, List.length_range, rng_get hkn, sc0_end hkn]
       generalize hidx : List.idxOf k (ordW t) = idx at *
       have hw1 : IntKind.i64.wrap 1 = 1 := by decide
       have hil0 : idx ≤ (ordW t).length := by rw [← hidx]; exact List.idxOf_le_length
       have hol0 := h.len
       refine wp_loopQ (fun (j : Nat) σ => (j = 0 ∧ ∃ z11 z13 z16 a17 c17 a18 c18 a19 c19 a20 c20, σ = ⟨aT .undef 170 [(2, .ptr 0 1 [] 0 0 0), (4, .ptr 1 1 [] 0 0 0), (5, .ptr 3 1 [] 0 0 0), (11, .ptr 11 1 [] 0 0 0), (12, .ptr 13 1 [] 0 0 0), (13, .ptr 14 1 [] 0 0 0), (14, .ptr 15 s15 [] 0 0 0), (15, .ptr 16 (a16 + 1) [] 0 0 0), (16, I a), (17, I k), (124, .sl 3 1 [(0, 0), (k, 0)] z 0 1), (125, I 1), (126, I 0)], [⟨1, 0, .own 2 [.agg [.lst (t.acts.map .str), .lst (t.S.map eSt)]]⟩, ⟨1, 0, .own 2 [.agg [.nils, .nils]]⟩, ⟨1, 0, .gone⟩, ⟨1, z, .own 1 [.own 1 ((List.range t.S.length).map (sc0 t t.S.length))]⟩, ⟨a4, c4, .gone⟩, ⟨a5, c5, .gone⟩, ⟨0, 0, .gone⟩, ⟨0, 0, .gone⟩, ⟨0, 0, .gone⟩, ⟨1, 0, .own 2 [.agg [I 0, I (fsN t 0 : Nat)]]⟩, ⟨1, 0, .gone⟩, ⟨1, z11, .own 1 [.ownm (entsE (entW t w.2))]⟩, ⟨1, 0, .gone⟩, ⟨1, z13, .own 1 [.own 2 ((w.2).map (stp t))]⟩, ⟨1, z14, .own 2 [.agg [.lst (t.acts.map .str), cellv .nils 1 (((ordW t).take (i)).map fun x => cellv .nils 2 ((edW t x t.acts.length).map eE))]]⟩, ⟨s15, 0, .own 1 [I i]⟩, ⟨a16 + 1, z16, .own 1 [cellv .nils 2 ((edW t x a).map eE)]⟩, ⟨a17, c17, .gone⟩, ⟨a18, c18, .gone⟩, ⟨a19, c19, .gone⟩, ⟨a20, c20, .gone⟩, ⟨a21, c21, .gone⟩, ⟨a22, c22, .gone⟩, ⟨0, 0, .gone⟩], LT⟩) ∨ (j = 1 ∧ ∃ z11 z13 z16 a17 c17 a18 c18 a19 c19 a20 c20, σ = ⟨aT .undef 170 [(2, .ptr 0 1 [] 0 0 0), (4, .ptr 1 1 [] 0 0 0), (5, .ptr 3 1 [] 0 0 0), (11, .ptr 11 1 [] 0 0 0), (12, .ptr 13 1 [] 0 0 0), (13, .ptr 14 1 [] 0 0 0), (14, .ptr 15 s15 [] 0 0 0), (15, .ptr 16 (a16 + 1) [] 0 0 0), (16, I a), (17, I k), (124, .sl 3 1 [(0, 0), (k, 0)] z 0 1), (125, I 1), (126, I 1)], [⟨1, 0, .own 2 [.agg [.lst (t.acts.map .str), .lst (t.S.map eSt)]]⟩, ⟨1, 0, .own 2 [.agg [.nils, .nils]]⟩, ⟨1, 0, .gone⟩, ⟨1, z, .own 1 [.own 1 ((List.range t.S.length).map (sc0 t t.S.length))]⟩, ⟨a4, c4, .gone⟩, ⟨a5, c5, .gone⟩, ⟨0, 0, .gone⟩, ⟨0, 0, .gone⟩, ⟨0, 0, .gone⟩, ⟨1, 0, .own 2 [.agg [I 0, I (fsN t 0 : Nat)]]⟩, ⟨1, 0, .gone⟩, ⟨1, z11, .own 1 [.ownm (entsE (entW t (if k ∈ w.2 then w.2 else w.2 ++ [k])))]⟩, ⟨1, 0, .gone⟩, ⟨1, z13, .own 1 [.own 2 (((if k ∈ w.2 then w.2 else w.2 ++ [k])).map (stp t))]⟩, ⟨1, z14, .own 2 [.agg [.lst (t.acts.map .str), cellv .nils 1 (((ordW t).take (i)).map fun x => cellv .nils 2 ((edW t x t.acts.length).map eE))]]⟩, ⟨s15, 0, .own 1 [I i]⟩, ⟨a16 + 1, z16, .own 1 [cellv .nils 2 ((edW t x a ++ [(⟨(a : Nat), (idx : Nat)⟩ : Ed)]).map eE)]⟩, ⟨a17, c17, .gone⟩, ⟨a18, c18, .gone⟩, ⟨a19, c19, .gone⟩, ⟨a20, c20, .gone⟩, ⟨a21, c21, .gone⟩, ⟨a22, c22, .gone⟩, ⟨0, 0, .gone⟩], LT⟩)) (fun j => 1 - j) ?_ 0 ?_
       ·rintro j σ hI N2 Q2 hQ2 hN2
        rcases hI with ⟨rfl, z11, z13, z16, a17, c17, a18, c18, a19, c19, a20, c20, rfl⟩ | ⟨rfl, z11, z13, z16, a17, c17, a18, c18, a19, c19, a20, c20, rfl⟩
        ·by_cases hm : k ∈ w.2
         ·have hl1 : lookM (entW t w.2) (((k : Nat) : Int), ((fsN t k : Nat) : Int)) (.int .i64 0) = I (idx : Nat) := by
           have := @ent_look t w.2 k (.int .i64 0)
           rw [if_pos hm] at hpa this
           rw [idx_pre hpa hm, hidx] at this
           exact this
          have hl2 : hasM (entW t w.2) (((k : Nat) : Int), ((fsN t k : Nat) : Int)) = true := by
           have := @ent_has t w.2 k
           rw [decide_eq_true hm] at this
           exact this
          simp only [go_sem, ↓reduceIte, ↓gA, ↓gB, ↓gC, ↓gD, ↓cA, ↓cB, sc0_end hkn, List.length_range, rng_get hkn, hkn, lokE_E, hl1, hl2, hw1]
          refine ⟨by omega, hN2 1 _ (by omega) (.inr ⟨rfl, ?_⟩)⟩
          simp only [go_sem, ↓reduceIte, ↓gA, ↓gB, ↓gC, ↓gD, ↓cA, ↓cB, if_pos hm, List.map_append, eE]
          repeat apply Exists.intro
          rfl
         ·have hl2 : hasM (entW t w.2) (((k : Nat) : Int), ((fsN t k : Nat) : Int)) = false := by
           have := @ent_has t w.2 k
           rw [decide_eq_false hm] at this
           exact this
          have hil : w.2.length = idx := by
           rw [if_neg hm] at hpa
           have := idx_pre hpa (List.mem_append_right _ (List.mem_singleton.2 rfl) : k ∈ w.2 ++ [k])
           rw [List.idxOf_append, if_neg hm, hidx] at this
           simpa using this
          have hpt : putM (entW t w.2) (((k : Nat) : Int), ((fsN t k : Nat) : Int)) (I (w.2.length : Nat)) = entW t (w.2 ++ [k]) := ent_put hm
          rw [hil] at hpt
          simp only [go_sem, ↓reduceIte, ↓gA, ↓gB, ↓gC, ↓gD, ↓cA, ↓cB, sc0_end hkn, List.length_range, rng_get hkn, hkn, lokE_E, hl2, hil, hpt, hw1]
          refine ⟨⟨by omega, rfl⟩, by omega, hN2 1 _ (by omega) (.inr ⟨rfl, ?_⟩)⟩
          simp only [go_sem, ↓reduceIte, ↓gA, ↓gB, ↓gC, ↓gD, ↓cA, ↓cB, if_neg hm, List.map_append, eE, stp]
          repeat apply Exists.intro
          rfl
        ·subst hQ2
         simp only [go_sem, ↓reduceIte, ↓gA, ↓gB, ↓gC, ↓gD, ↓cA, ↓cB]
         repeat apply Exists.intro
         rfl
       ·refine .inl ⟨rfl, ?_⟩
        simp only [go_sem, ↓reduceIte, ↓gA, ↓gB, ↓gC, ↓gD, ↓cA, ↓cB]
        repeat apply Exists.intro
        rfl
      ·rintro a hh ha ⟨z11, z13, z16, a17, c17, a18, c18, a19, c19, a20, c20, rfl⟩
       rw [tgW_end h hxn ha, edW_end h hxn ha, ← hbs]
       have hfE : ((edW t x t.acts.length).map eE).map frz = (edW t x t.acts.length).map eE := by rw [List.map_map]; rfl
       have hrow : (ordW t).take (i + 1) = (ordW t).take i ++ [x] := by
        have hil : i < (ordW t).length := Nat.lt_of_lt_of_le hlt hqp.length_le
        rw [List.take_succ_eq_append_getElem hil, ← getElem!_pos (ordW t) i hil, hoi]
       have hol := h.len
       simp only [go_sem, ↓reduceIte, ↓gA, ↓gB, ↓gC, ↓gD, ↓cA, ↓cB, hfE, sortE_r (edW_ris h hxo)]
       refine ⟨by rw [List.length_take]; omega, hN (i + 1) _ (by omega) ⟨hib1, ?_⟩⟩
       simp only [go_sem, ↓reduceIte, ↓gA, ↓gB, ↓gC, ↓gD, ↓cA, ↓cB, hrow, List.map_append, wrap_succ hin (show t.S.length ≤ 1000000000 by omega)]
       repeat apply Exists.intro
       rfl
     ·have hil : i = (bfsAt t.S.length (nxW t) i).2.length := by omega
      have hend : (bfsAt t.S.length (nxW t) i).2 = ordW t := bfs_end (nx := nxW t) (i := i) hn1 (fun x hx => h.nx hx) hil.symm
      subst hQ
      have hrw : (ordW t).take i = ordW t := List.take_of_length_le (by rw [← hend]; omega)
      simp only [go_sem, ↓reduceIte, ↓gA, ↓gB, ↓gC, ↓gD, ↓cA, ↓cB, Int.ofNat_lt, hlt, hrw]
      have hrE : ((ordW t).map fun x => cellv .nils 2 ((edW t x t.acts.length).map eE)).map frz = (witOf t).S.map eEs := by
       simp only [witOf, List.map_map]
       refine List.map_congr_left fun x _ => ?_
       have hfE : ((edW t x t.acts.length).map eE).map frz = (edW t x t.acts.length).map eE := by rw [List.map_map]; rfl
       simp only [Function.comp, go_sem, hfE, eEs]
      rw [hrE]; rfl
    ·refine ⟨by simp [bfsAt], ?_⟩
     simp only [go_sem, ↓reduceIte, ↓gA, ↓gB, ↓gC, ↓gD, ↓cA, ↓cB, bfsAt, stp]
     repeat apply Exists.intro
     rfl
   ·simp only [go_sem, ↓reduceIte, ↓gA, ↓gB, ↓gC, ↓gD, ↓cA, ↓cB]
 ·refine ⟨Nat.zero_le _, ?_⟩
  simp only [go_sem, ↓reduceIte, ↓gA, ↓gB, ↓gC, ↓gD, ↓cA, ↓cB]
  repeat apply Exists.intro
  rfl
end Go.Mw
/- The law of a system that satisfies a specification. -/
namespace Go.Mw
set_option maxRecDepth 100000
def noSys : Sys := ⟨[], []⟩
open Classical in
noncomputable def someR (s : Spc) : Sys × Int := if SpcOk s then (if (holL s)[0]! = true then (noSys, 3) else (witOf (trimOf s), 0)) else (noSys, 30)
theorem pSome_ok (s : Spc) (hz : SpSz s) (hI : SpI s) : Fn G f_prune_Some [eSp s] (.tup [eSys (someR s).1, I (someR s).2]) := by
 refine FnP.mk' g_prune_Some rfl rfl ?_
 by_cases h : SpcOk s
 ·have hb := h.b hz
  have h1 : 0 < s.S.length := h.s1
  cases h0 : (holL s)[0]! with
  | true =>
    have e : trimA s = (noSpc s.acts, []) := by unfold trimA; rw [if_pos h0]
    simp only [go_sem, ↓reduceIte, ↓gA, ↓gB, ↓gC, ↓gD, ↓cA, ↓cB, c_prune_Some, eSp, spc_r hz hI, h, trimmed_r h, e, someR, h0, noSys]
    rfl
  | false =>
    have e : trimA s = (trimOf s, ordOf s) := by unfold trimA; rw [if_neg (by rw [h0]; simp)]
    have hop := ord_pos hb h1
    have hbeq : ((((ordOf s).length : Nat) : Int) == 0) = false := by simp only [beq_eq_false_iff_ne]; omega
    have hw : ∀ {roots : List Nat} {b : Nat} {ss : List Nat} {σ : St} {k : AV → St → Prop}, callT G f_prune_Witness [.agg [.lst ((trimOf s).acts.map .str), .lst ((trimOf s).S.map eSt)], .lst []] true roots b ss σ k = k (eSys (witOf (trimOf s))) σ := (witness_ok _ (trim_wsp h h0)).rule
    have hne : ¬ (false = true) := by simp
    simp only [go_sem, ↓reduceIte, ↓gA, ↓gB, ↓gC, ↓gD, ↓cA, ↓cB, c_prune_Some, eSp, spc_r hz hI, h, trimmed_r h, e, someR, h0, hbeq, hw, eSys]
 ·simp only [go_sem, ↓reduceIte, ↓gA, ↓gB, ↓gC, ↓gD, ↓cA, ↓cB, c_prune_Some, eSp, spc_r hz hI, h, someR, noSys]
  rfl
section
variable {roots : List Nat} {b : Nat} {ss : List Nat} {σ : St} {k : AV → St → Prop}
theorem pSome_r {s : Spc} (hz : SpSz s) (hI : SpI s) : callT G f_prune_Some [.agg [.lst (s.acts.map .str), .lst (s.S.map eSt)]] true roots b ss σ k = k (.tup [eSys (someR s).1, I (someR s).2]) σ := (pSome_ok s hz hI).rule
end
theorem none02_ok : FnT G f_r02_None [eSys noSys] (Bo true) := by
 refine FnP.mk' g_r02_None rfl rfl ?_
 simp only [go_sem, ↓reduceIte, ↓gA, ↓gB, ↓gC, ↓gD, ↓cA, ↓cB, c_r02_None, eSys, noSys, List.map_nil]
theorem none02_r {roots : List Nat} {b : Nat} {ss : List Nat} {σ : St} {k : AV → St → Prop} {fr : Bool} : callT G f_r02_None [.agg [.lst [], .lst []]] fr roots b ss σ k = k (Bo true) σ := none02_ok.rule
open Classical in
theorem made_ok (m : Sys) (hm : SysOk m) (hmz : SySz m) (s : Spc) (hs : SpcOk s) (hsz : SpSz s) (he : m.acts = s.acts) (hsat : Sat m s) : FnT G f_w04_Made [eSys m, eSp s] (Bo true) := by
 have hsr : ∀ {fr : Bool} {roots : List Nat} {b : Nat} {ss : List Nat} {σ : St} {k : AV → St → Prop}, callT G f_r03_Satisfies [.agg [.lst (m.acts.map .str), .lst (m.S.map eEs)], .agg [.lst (s.acts.map .str), .lst (s.S.map eSt)]] fr roots b ss σ k = k (Bo (decide (Sat m s))) σ := (satR_ok m hm hmz s hs hsz (by rw [he])).rule
 rw [decide_eq_true hsat] at hsr
 have hsy : ∀ {fr : Bool} {roots : List Nat} {b : Nat} {ss : List Nat} {σ : St} {k : AV → St → Prop}, callT G f_r02_Is [.agg [.lst (m.acts.map .str), .lst (m.S.map eEs)]] fr roots b ss σ k = k (Bo true) σ := by
  intros; rw [sysR_r hmz, decide_eq_true hm]
 have hss : ∀ {fr : Bool} {roots : List Nat} {b : Nat} {ss : List Nat} {σ : St} {k : AV → St → Prop}, callT G f_r01_SameStrings [.lst (m.acts.map .str), .lst (s.acts.map .str)] fr roots b ss σ k = k (Bo true) σ := by
  intros; rw [he]; exact sameS_r hsz.a
 refine FnP.mk' g_w04_Made rfl rfl ?_
 simp only [go_sem, ↓reduceIte, ↓gA, ↓gB, ↓gC, ↓gD, ↓cA, ↓cB, c_w04_Made, eSys, eSp, hsy, hss, hsr]
theorem pruneSome_ok (s : Spc) (hs : SpBig s) : FnT G f_w04_PruneSome [eSp s] (Bo true) := by
 obtain ⟨v, hv, hP⟩ := light04_big s hs
 have hI := hs.fi
 have hcall : ∀ {fr : Bool} {roots : List Nat} {b : Nat} {ss : List Nat} {σ : St} {k : AV → St → Prop}, callT G f_w04_light [.agg [.lst (s.acts.map .str), .lst (s.S.map eSt)]] fr roots b ss σ k = k (Bo v) σ := hv.rule
 refine FnP.mk' g_w04_PruneSome rfl rfl ?_
 cases v with
 | false => simp only [go_sem, ↓reduceIte, ↓gA, ↓gB, ↓gC, ↓gD, ↓cA, ↓cB, c_w04_PruneSome, eSp, hcall, awake04_r]
 | true =>
   obtain ⟨hz, _⟩ := hP rfl
   by_cases h : SpcOk s
   ·have hb := h.b hz
    have h1 : 0 < s.S.length := h.s1
    have hl0 := hol0_lt h1
    cases h0 : (holL s)[0]! with
    | true =>
      simp only [go_sem, ↓reduceIte, ↓gA, ↓gB, ↓gC, ↓gD, ↓cA, ↓cB, c_w04_PruneSome, eSp, hcall, awake04_r, spcR_r hz, h, hollowR_r hb, hl0, h0, spcCopy_r hz, pSome_r hz hI, someR, eSys, noSys, none02_r]
    | false =>
      have hw := trim_wsp h h0
      have hmade : ∀ {fr : Bool} {roots : List Nat} {b : Nat} {ss : List Nat} {σ : St} {k : AV → St → Prop}, callT G f_w04_Made [.agg [.lst ((witOf (trimOf s)).acts.map .str), .lst ((witOf (trimOf s)).S.map eEs)], .agg [.lst (s.acts.map .str), .lst (s.S.map eSt)]] fr roots b ss σ k = k (Bo true) σ := (made_ok _ (wit_ok hw) (wit_sz hw) s h hz rfl (wit_sat h h0)).rule
      simp only [go_sem, ↓reduceIte, ↓gA, ↓gB, ↓gC, ↓gD, ↓cA, ↓cB, c_w04_PruneSome, eSp, hcall, awake04_r, spcR_r hz, h, hollowR_r hb, hl0, h0, spcCopy_r hz, pSome_r hz hI, someR, eSys, hmade]
   ·simp only [go_sem, ↓reduceIte, ↓gA, ↓gB, ↓gC, ↓gD, ↓cA, ↓cB, c_w04_PruneSome, eSp, hcall, awake04_r, spcR_r hz, h, spcCopy_r hz, pSome_r hz hI, someR, eSys, noSys, none02_r]
end Go.Mw
