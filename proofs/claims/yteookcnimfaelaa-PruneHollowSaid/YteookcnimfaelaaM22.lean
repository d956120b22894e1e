/- Small or not: specifications of any size. -/
import Derived.Test.YteookcnimfaelaaM21
set_option linter.unusedVariables false
set_option linter.unusedSimpArgs false
namespace Go.Mw
set_option maxRecDepth 100000
structure SpBig (s : Spc) : Prop where
 fa : s.acts.length ≤ 140737488355328
 fs : s.S.length ≤ 140737488355328
 fx : ∀ i < s.S.length, s.S[i]!.A.length ≤ 140737488355328 ∧ s.S[i]!.X.length ≤ 140737488355328
 fi : SpI s
def CountP (s : Spc) (i : Nat) (c : Int) : Prop := (s.acts.length : Int) ≤ c ∧ (s.S.length : Int) ≤ c ∧ ∀ j < i, (s.S[j]!.A.length : Int) ≤ c ∧ (s.S[j]!.X.length : Int) ≤ c
theorem few3_big (s : Spc) (hs : SpBig s) (K : Int) (h0 : 0 ≤ K) (hK : K ≤ 1000000) : ∃ v, FnT G f_r03_Few [eSp s, I K] (Bo v) ∧ (v = true → SpSz s) := by
 refine FnP.flatB (FnP.mk' g_r03_Few rfl rfl ?_)
 have ha := hs.fa
 have hS := hs.fs
 have w0 : IntKind.i64.wrap ((s.acts.length : Int) + s.S.length) = (s.acts.length : Int) + s.S.length := by rw [wrapI] <;> omega
 simp only [go_sem, ↓reduceIte, ↓gA, ↓gB, ↓gC, ↓gD, ↓cA, ↓cB, c_r03_Few, eSp, w0]
 refine wp_loopQ (fun (i : Nat) σ => i ≤ s.S.length ∧ ∃ c : Int, 0 ≤ c ∧ c ≤ 562949953421312 ∧ (c ≤ K → CountP s i c) ∧ σ = ⟨aT .undef 46 [(1, I K), (2, .ptr 0 1 [] 0 0 0), (5, I c), (6, I i)], [⟨1, 0, .own 2 [.agg [.lst (s.acts.map .str), .lst (s.S.map eSt)]]⟩], []⟩) (fun i => s.S.length - i) ?_ 0 ?_
 ·rintro i σ ⟨hi, c, hc0, hc1, hc2, rfl⟩ N Q hQ hN
  by_cases hlt : i < s.S.length
  ·obtain ⟨hl1, hl2⟩ := hs.fx i hlt
   simp only [go_sem, ↓reduceIte, ↓gA, ↓gB, ↓gC, ↓gD, ↓cA, ↓cB, eSt, Int.ofNat_lt, hlt]
   by_cases hc : c ≤ K
   ·have w1 : IntKind.i64.wrap ((s.S[i]!.A.length : Int) + (s.S[i]!.X.length : Int)) = (s.S[i]!.A.length : Int) + (s.S[i]!.X.length : Int) := by rw [wrapI] <;> omega
    have w2 : IntKind.i64.wrap (c + ((s.S[i]!.A.length : Int) + (s.S[i]!.X.length : Int))) = c + ((s.S[i]!.A.length : Int) + (s.S[i]!.X.length : Int)) := by rw [wrapI] <;> omega
    have w3 : IntKind.i64.wrap ((i : Int) + 1) = ((i + 1 : Nat) : Int) := by rw [wrapI] <;> omega
    simp only [go_sem, ↓reduceIte, ↓gA, ↓gB, ↓gC, ↓gD, ↓cA, ↓cB, hc, w1, w2, w3]
    refine hN (i + 1) _ (by omega) ⟨by omega, c + ((s.S[i]!.A.length : Int) + s.S[i]!.X.length), by omega, by omega, fun h => ?_, ?_⟩
    ·obtain ⟨g1, g2, g3⟩ := hc2 hc
     exact ⟨by omega, by omega, forall_lt_succ (fun j hj => by have := g3 j hj; omega) (by omega)⟩
    ·simp only [go_sem, ↓reduceIte, ↓gA, ↓gB, ↓gC, ↓gD, ↓cA, ↓cB]
   ·simp only [go_sem, ↓reduceIte, ↓gA, ↓gB, ↓gC, ↓gD, ↓cA, ↓cB, hc]
    subst hQ
    simp only [go_sem, ↓reduceIte, ↓gA, ↓gB, ↓gC, ↓gD, ↓cA, ↓cB, bo_exB, hc]
  ·subst hQ
   have hil : i = s.S.length := by omega
   subst hil
   simp only [go_sem, ↓reduceIte, ↓gA, ↓gB, ↓gC, ↓gD, ↓cA, ↓cB, Int.ofNat_lt, hlt, bo_exB, decide_eq_true_eq]
   intro h
   obtain ⟨g1, g2, g3⟩ := hc2 h
   exact ⟨by omega, by omega, fun j hj => by have := g3 j hj; omega⟩
 ·refine ⟨by omega, s.acts.length + s.S.length, by omega, by omega, fun _ => ⟨by omega, by omega, fun j hj => absurd hj (by omega)⟩, ?_⟩
  simp only [go_sem, ↓reduceIte, ↓gA, ↓gB, ↓gC, ↓gD, ↓cA, ↓cB]
end Go.Mw
/- Calls whose answers the kernel works out. -/
namespace Go.Mw
set_option maxRecDepth 100000
mutual
def eqv : AV → AV → Bool
 | .int a n, .int b m => a == b && n == m
 | .bool a, .bool b => a == b
 | .str a, .str b => a.data.toList == b.data.toList
 | .lst xs, .lst ys => eqvL xs ys
 | .agg xs, .agg ys => eqvL xs ys
 | .tup xs, .tup ys => eqvL xs ys
 | _, _ => false
def eqvL : List AV → List AV → Bool
 | [], [] => true
 | x :: xs, y :: ys => eqv x y && eqvL xs ys
 | _, _ => false
end
mutual
theorem eqv_eq : ∀ (x y : AV), eqv x y = true → x = y
 | .int a n, .int b m, h => by simp only [eqv, Bool.and_eq_true, beq_iff_eq] at h; rw [h.1, h.2]
 | .bool a, .bool b, h => by simp only [eqv, beq_iff_eq] at h; rw [h]
 | .str ⟨a⟩, .str ⟨b⟩, h => by
   simp only [eqv, beq_iff_eq] at h
   have := Array.toList_inj.1 h
   subst this; rfl
 | .lst xs, .lst ys, h => by simp only [eqv] at h; rw [eqvL_eq xs ys h]
 | .agg xs, .agg ys, h => by simp only [eqv] at h; rw [eqvL_eq xs ys h]
 | .tup xs, .tup ys, h => by simp only [eqv] at h; rw [eqvL_eq xs ys h]
theorem eqvL_eq : ∀ (xs ys : List AV), eqvL xs ys = true → xs = ys
 | [], [], _ => rfl
 | x :: xs, y :: ys, h => by simp only [eqvL, Bool.and_eq_true] at h; rw [eqv_eq x y h.1, eqvL_eq xs ys h.2]
 | [], _ :: _, h => by simp [eqvL] at h
 | _ :: _, [], h => by simp [eqvL] at h
end
def retIs (v : AV) : Option (List AV × St) → Bool
 | some (rs, σ) => eqv (packV (treeBL 0 σ.h rs)) v
 | none => false
theorem Fn.kernel {G : Prg} {f : FuncId} {F : IF} {xs : List AV} {v : AV} (n : Nat) (hf : G f = some F) (h1 : xs.length = F.np) (h2 : F.pure = true) (h3 : F.fo = false) (h4 : splits F xs = false) (h : retIs v (runF G n F xs [] []) = true) : Fn G f xs v := by
 unfold retIs at h
 split at h
 ·rename_i rs σ hr
  exact ⟨F, n, rs, σ, hf, h1, h2, h3, h4, hr, eqv_eq _ _ h⟩
 ·cases h
end Go.Mw
/- The check that the eyes of the laws of chapter 4 are open. -/
namespace Go.Mw
set_option maxRecDepth 100000
abbrev twigs : AV := .agg [.lst [.str ⟨#[97]⟩, .str ⟨#[98]⟩], .lst [.agg [.lst [I 1, I 2], .lst [I 1, I 0]], .agg [.lst [], .lst [I (-1), I (-1)]]]]
theorem twigs_ok : Fn G f_w04_twigs [] twigs := by
 refine FnP.mk' g_w04_twigs rfl rfl ?_
 simp only [go_sem, ↓reduceIte, ↓gA, ↓gB, ↓gC, ↓gD, ↓cA, ↓cB, c_w04_twigs]
theorem twHollow_ok : Fn G f_prune_Hollow [twigs] (.tup [.lst [I 1], I 0]) := Fn.kernel 90 g_prune_Hollow rfl rfl rfl rfl (by decide +kernel)
theorem twTrim_ok : Fn G f_prune_Trim [twigs] (.tup [.agg [.lst [.str ⟨#[97]⟩, .str ⟨#[98]⟩], .lst [.agg [.lst [I 2], .lst [I (-1), I 0]]]], .lst [I 0], I 0]) := Fn.kernel 90 g_prune_Trim rfl rfl rfl rfl (by decide +kernel)
theorem twSome_ok : Fn G f_prune_Some [twigs] (.tup [.agg [.lst [.str ⟨#[97]⟩, .str ⟨#[98]⟩], .lst [.lst [.agg [I 1, I 0]]]], I 0]) := Fn.kernel 90 g_prune_Some rfl rfl rfl rfl (by decide +kernel)
section
variable {roots : List Nat} {b : Nat} {ss : List Nat} {σ : St} {k : AV → St → Prop}
theorem twigs_r : callT G f_w04_twigs [] true roots b ss σ k = k twigs σ := twigs_ok.rule
theorem twHollow_r : callT G f_prune_Hollow [twigs] true roots b ss σ k = k (.tup [.lst [I 1], I 0]) σ := twHollow_ok.rule
theorem twTrim_r : callT G f_prune_Trim [twigs] true roots b ss σ k = k (.tup [.agg [.lst [.str ⟨#[97]⟩, .str ⟨#[98]⟩], .lst [.agg [.lst [I 2], .lst [I (-1), I 0]]]], .lst [I 0], I 0]) σ := twTrim_ok.rule
theorem twSome_r : callT G f_prune_Some [twigs] true roots b ss σ k = k (.tup [.agg [.lst [.str ⟨#[97]⟩, .str ⟨#[98]⟩], .lst [.lst [.agg [I 1, I 0]]]], I 0]) σ := twSome_ok.rule
theorem sameOne_r {n : Int} {fr : Bool} : callT G f_r01_SameInts [.lst [I n], .lst [I n]] fr roots b ss σ k = k (Bo true) σ := sameI_r (l := [n]) (by simp)
end
theorem awake04_ok : FnT G f_w04_awake [] (Bo true) := by
 refine FnP.mk' g_w04_awake rfl rfl ?_
 simp only [go_sem, ↓reduceIte, ↓gA, ↓gB, ↓gC, ↓gD, ↓cA, ↓cB, c_w04_awake, twigs_r, twHollow_r, twTrim_r, twSome_r, sameOne_r]
theorem awake04_r {roots : List Nat} {b : Nat} {ss : List Nat} {σ : St} {k : AV → St → Prop} {fr : Bool} : callT G f_w04_awake [] fr roots b ss σ k = k (Bo true) σ := awake04_ok.rule
end Go.Mw
/- The law of trimming. -/
namespace Go.Mw
set_option maxRecDepth 100000
theorem light04_big (s : Spc) (hs : SpBig s) : ∃ v, FnT G f_w04_light [eSp s] (Bo v) ∧ (v = true → SpSz s ∧ s.S.length ≤ 60) := by
 obtain ⟨v, hv, hP⟩ := few3_big s hs 1500 (by omega) (by omega)
 have hcall : ∀ {fr : Bool} {roots : List Nat} {b : Nat} {ss : List Nat} {σ : St} {k : AV → St → Prop}, callT G f_r03_Few [.agg [.lst (s.acts.map .str), .lst (s.S.map eSt)], .int .i64 1500] fr roots b ss σ k = k (Bo v) σ := hv.rule
 refine FnP.flatB (FnP.mk' g_w04_light rfl rfl ?_)
 have hS := hs.fs
 simp only [go_sem, ↓reduceIte, ↓gA, ↓gB, ↓gC, ↓gD, ↓cA, ↓cB, c_w04_light, eSp]
 by_cases h : (s.S.length : Int) ≤ 60
 ·simp only [go_sem, ↓reduceIte, ↓gA, ↓gB, ↓gC, ↓gD, ↓cA, ↓cB, h, hcall, bo_exB]; exact fun hv => ⟨hP hv, by omega⟩
 ·simp only [go_sem, ↓reduceIte, ↓gA, ↓gB, ↓gC, ↓gD, ↓cA, ↓cB, h, bo_exB]
section
variable {roots : List Nat} {b : Nat} {ss : List Nat} {σ : St} {k : AV → St → Prop}
theorem sameN_r {l : List Nat} (hl : l.length ≤ 1048576) {fr : Bool} : callT G f_r01_SameInts [.lst (l.map eN), .lst (l.map eN)] fr roots b ss σ k = k (Bo true) σ := by
 have e : l.map eN = (l.map fun n : Nat => (n : Int)).map I := by rw [List.map_map]; rfl
 rw [e]; exact sameI_r (by simpa using hl)
end
end Go.Mw
/- Which products a system satisfies, as the program finds them: the walk. -/
namespace Go.Mw
set_option maxRecDepth 100000
theorem mupE_nil {a c : Int} {v : AV} {h : List Ob} {r st ss : Nat} {q : List Ob → Prop} : mupE a c v h r st ss [] q = q (h.set r ⟨st, ss, .ownm (entsE (putM [] (a, c) v))⟩) := @mupE_E a c v h r st ss [] q
attribute [go_sem] mupE_nil
end Go.Mw
/- Maps in cells. -/
namespace Go.Mw
set_option maxRecDepth 100000
theorem takeCellK_mp {h : List Ob} {r st ss : Nat} {p : Path} {q : AV → List Ob → Prop} : takeCellK h (.mp r st p ss) q = nodeK h r st p ss (fun nd => ownmK nd (fun es => setObK h r p .gone false (fun h' => q (.ownm es) h'))) := by
 simp only [takeCellK, takeCell, nodeK, ownmK, setObK]
 cases node h r st p ss with
 | none => rfl
 | some nd =>
   cases nd <;> first | rfl | skip
   simp only
   cases setOb h r p .gone false <;> rfl
theorem one_mp {h : List Ob} {r st ss : Nat} {p : Path} : oneK h (.mp r st p ss) = nodeK h r st p ss (fun nd => ownmK nd (fun _ => True)) := by
 simp only [oneK, okOne, nodeK, ownmK]
 cases node h r st p ss with
 | none => simp
 | some nd => cases nd <;> simp
theorem cells_mp {r st ss : Nat} {p : Path} : (AV.mp r st p ss).cells = [.mp r st p ss] := (rfl)
theorem isNode_ownm {es : List (AV × AV)} : isNode (.ownm es) = true := (rfl)
theorem lokK_mpP {kk : KK} {z : AV} {ok : Bool} {x : AV} {h : List Ob} {r st ss : Nat} {p : Path} {q : AV → Prop} : lokK kk z ok (.mp r st p ss) x h q = nodeK h r st p ss (fun nd => ownmK nd (fun es => lokE kk z ok x es q)) := by
 simp only [lokK, nodeK, ownmK, lokE]
 cases node h r st p ss with
 | none => rfl
 | some nd => cases nd <;> rfl
def mupF (kk : KK) (x v : AV) (es : List (AV × AV)) (k : List (AV × AV) → Prop) (u : Tg k := tg) : Prop :=
 match findK kk x es with
 | some (some i) => (match es[i]? with | some (k', _) => k (es.set i (k', v)) | none => False)
 | some none => k (es ++ [(x, v)])
 | none => False
theorem mupF_congr {kk : KK} {x x' v v' : AV} {es es' : List (AV × AV)} {k : List (AV × AV) → Prop} (h0 : x = x') (h1 : v = v') (h2 : es = es') : mupF kk x v es k = mupF kk x' v' es' k := by cases h0; cases h1; cases h2; rfl
attribute [congr] mupF_congr
theorem mupK_mpP {kk : KK} {x v : AV} {h : List Ob} {r st ss : Nat} {p : Path} {q : List Ob → Prop} : mupK kk (.mp r st p ss) x v h q =
 nodeK h r st p ss (fun nd => ownmK nd (fun es => (v.free = true ∧ x.free = true) ∧ mupF kk x v es (fun es' => setObK h r p (.ownm es') false q))) := by
 simp only [mupK, nodeK, ownmK, mupF, setObK]
 cases node h r st p ss with
 | none => rfl
 | some nd =>
   cases nd <;> first | rfl | skip
   rename_i es
   simp only
   by_cases hc : v.free = true ∧ x.free = true
   ·simp only [hc, and_self, if_true, true_and]
    cases findK kk x es with
    | none => rfl
    | some o =>
      cases o with
      | none => rfl
      | some i =>
        simp only
        cases es[i]? with
        | none => rfl
        | some e => rfl
   ·rw [if_neg hc]; simp only [hc, false_and]
theorem mupF_E {a c : Int} {v : AV} {l : List KV} {q : List (AV × AV) → Prop} : mupF (true, [1, 1]) (.agg [I a, I c]) v (entsE l) q = q (entsE (putM l (a, c) v)) := by
 have h := @mupE_E a c v [] 0 0 0 l (fun h => True)
 simp only [mupF, findK_E]
 cases hf : l.findIdx? fun e => e.1 == (a, c) with
 | none =>
   have := @ens_none l (a, c) v v hf
   simp only [putM, this]
   simp [entsE, eKV]
 | some i =>
   obtain ⟨hi, _⟩ := idx_lt hf
   have hs : hasM l (a, c) = true := by rw [has_idx, hf]; rfl
   have hg : (entsE l)[i]? = some (eKV l[i]) := by simp [entsE, hi]
   simp only [hg]
   simp only [putM, ensM, hs, if_true, idxM, hf, Option.getD_some]
   rw [← setIM_E hg]
end Go.Mw
/- A system that satisfies a trimmed specification: plain facts. -/
namespace Go.Mw
set_option maxRecDepth 100000
structure WSp (t : Spc) : Prop where
 ok : SpcOk t
 ne : ∀ x < t.S.length, 0 < t.S[x]!.A.length
def fsN (t : Spc) (x : Nat) : Nat := t.S[x]!.A[0]!.toNat
def tgW (t : Spc) (x k : Nat) : List Int := ((List.range k).filter fun a => (fsN t x).testBit a).map fun a => t.S[x]!.X[a]!
def nxW (t : Spc) (x : Nat) : List Int := tgW t x t.acts.length
def ordW (t : Spc) : List Nat := orderL t.S.length (nxW t)
section
variable {t : Spc} (h : WSp t)
include h
theorem WSp.fs_lt {x : Nat} (hx : x < t.S.length) : fsN t x < 2 ^ t.acts.length := by
 have h0 := h.ne x hx
 have := (h.ok.st x hx).a 0 h0
 unfold fsN; omega
theorem WSp.fs_bit {x a : Nat} (hx : x < t.S.length) (hb : (fsN t x).testBit a = true) : a < t.acts.length ∧ 0 ≤ t.S[x]!.X[a]! ∧ t.S[x]!.X[a]! < (t.S.length : Int) := by
 have h0 := h.ne x hx
 have hst := h.ok.st x hx
 have ha : a < t.acts.length := testBit_lt (h.fs_lt hx) hb
 exact ⟨ha, hst.has 0 h0 a ha hb, (hst.x a ha).2⟩
theorem WSp.nx {x : Nat} (hx : x < t.S.length) : ∀ k ∈ nxW t x, k < (t.S.length : Int) := by
 intro k hk
 unfold nxW tgW at hk
 obtain ⟨a, ha, rfl⟩ := List.mem_map.1 hk
 exact (h.fs_bit hx (List.mem_filter.1 ha).2).2.2
theorem WSp.vi (i : Nat) : VI t.S.length (bfsAt t.S.length (nxW t) i) := bfs_vi h.ok.s1 (fun x hx => h.nx hx) i
theorem WSp.lt {x : Nat} (hx : x ∈ ordW t) : x < t.S.length := (((h.vi t.S.length).m x).1 hx).1
theorem WSp.len : (ordW t).length ≤ t.S.length := (h.vi t.S.length).len
theorem WSp.pos : 0 < (ordW t).length := (h.vi t.S.length).pos
theorem WSp.zero : (ordW t)[0]! = 0 := by
 rw [List.getElem!_eq_getElem?_getD, show (ordW t)[0]? = some 0 from (h.vi t.S.length).z]; rfl
theorem WSp.nd : (ordW t).Nodup := (h.vi t.S.length).nd
theorem WSp.closed {x a : Nat} (hx : x ∈ ordW t) (hb : (fsN t x).testBit a = true) : t.S[x]!.X[a]!.toNat ∈ ordW t := by
 obtain ⟨h1, h2, h3⟩ := h.fs_bit (h.lt hx) hb
 refine bfs_closed h.ok.s1 (fun x hx => h.nx hx) x hx _ ?_ h2
 unfold nxW tgW
 exact List.mem_map.2 ⟨a, List.mem_filter.2 ⟨List.mem_range.2 h1, hb⟩, rfl⟩
omit h in
omit h in
omit h in
omit h in
end
end Go.Mw
/- Sorting a short row of edges that is sorted. -/
namespace Go.Mw
set_option maxRecDepth 100000
structure RisE (l : List Ed) : Prop where
 len : l.length ≤ 8
 sm : ∀ i < l.length, (0 ≤ l[i]!.a ∧ l[i]!.a ≤ 1099511627776) ∧ (0 ≤ l[i]!.t ∧ l[i]!.t ≤ 1099511627776)
 ris : ∀ i < l.length, 0 < i → l[i-1]!.a < l[i]!.a
end Go.Mw
/- The map and the rows that prune.Witness builds up: plain facts. -/
namespace Go.Mw
set_option maxRecDepth 100000
theorem mupF_nil {a c : Int} {v : AV} {q : List (AV × AV) → Prop} : mupF (true, [1, 1]) (.agg [I a, I c]) v [] q = q (entsE (putM [] (a, c) v)) := @mupF_E a c v [] q
theorem cells_nilm : AV.nilm.cells = [.nilm] := (rfl)
theorem plain_nilm : AV.nilm.plain = true := (rfl)
end Go.Mw
/- prune.Witness, where nothing is wanted: the walk. -/
namespace Go.Mw
set_option maxRecDepth 100000
attribute [local go_sem] takeCellK_mp one_mp cells_mp isNode_ownm lokK_mpP mupK_mpP mupF_E mupF_nil cells_nilm plain_nilm
end Go.Mw
/- The law of a system that satisfies a specification. -/
namespace Go.Mw
set_option maxRecDepth 100000
section
variable {roots : List Nat} {b : Nat} {ss : List Nat} {σ : St} {k : AV → St → Prop}
end
end Go.Mw
/- Sorting: plain facts. -/
namespace Go.Mw
set_option maxRecDepth 100000
section
variable {α : Type} [Inhabited α]
structure TO (lt : α → α → Bool) : Prop where
 asymm : ∀ {x y}, lt x y = true → lt y x = false
 trans : ∀ {x y z}, lt y x = false → lt z y = false → lt z x = false
omit [Inhabited α] in
theorem TO.refl {lt : α → α → Bool} (h : TO lt) {x : α} : lt x x = false := by
 cases hc : lt x x with
 | false => rfl
 | true => have h2 := h.asymm hc; rw [hc] at h2; cases h2
structure SegP (l l' : List α) (a b : Nat) : Prop where
 len : l'.length = l.length
 out : ∀ i, (i < a ∨ b ≤ i) → l'[i]! = l[i]!
 perm : l'.Perm l
 all : ∀ P : α → Prop, (∀ i, a ≤ i → i < b → P l[i]!) → ∀ i, a ≤ i → i < b → P l'[i]!
theorem SegP.refl {l : List α} {a b : Nat} : SegP l l a b := ⟨rfl, fun _ _ => rfl, List.Perm.refl _, fun _ h => h⟩
theorem SegP.tr {l m n : List α} {a b : Nat} (h : SegP l m a b) (k : SegP m n a b) : SegP l n a b :=
 ⟨k.len.trans h.len, fun i hi => (k.out i hi).trans (h.out i hi), k.perm.trans h.perm, fun P hP => k.all P (h.all P hP)⟩
theorem SegP.wide {l m : List α} {a b c d : Nat} (h : SegP l m c d) (h1 : a ≤ c) (h2 : d ≤ b) : SegP l m a b := by
 refine ⟨h.len, fun i hi => h.out i (by omega), h.perm, fun P hP i h3 h4 => ?_⟩
 by_cases hc : c ≤ i ∧ i < d
 ·exact h.all P (fun j hj1 hj2 => hP j (by omega) (by omega)) i hc.1 hc.2
 ·rw [h.out i (by omega)]; exact hP i h3 h4
def sw (l : List α) (i j : Nat) : List α := (l.set i l[j]!).set j l[i]!
theorem sw_len {l : List α} {i j : Nat} : (sw l i j).length = l.length := by simp [sw]
theorem set_get {l : List α} {i k : Nat} {v : α} (hi : i < l.length) : (l.set i v)[k]! = if k = i then v else l[k]! := by
 by_cases e : k = i
 ·subst e; rw [if_pos rfl, getElem!_pos _ k (by simpa using hi), List.getElem_set_self]
 ·rw [if_neg e, List.getElem!_eq_getElem?_getD, List.getElem?_set_ne (fun h => e h.symm), ← List.getElem!_eq_getElem?_getD]
theorem sw_get {l : List α} {i j k : Nat} (hi : i < l.length) (hj : j < l.length) : (sw l i j)[k]! = if k = j then l[i]! else if k = i then l[j]! else l[k]! := by
 unfold sw
 rw [set_get (by simpa using hj), set_get hi]
theorem sw_seg {l : List α} {i j a b : Nat} (hi : i < l.length) (hj : j < l.length) (h1 : a ≤ i) (h2 : i < b) (h3 : a ≤ j) (h4 : j < b) : SegP l (sw l i j) a b := by
 refine ⟨sw_len, fun k hk => ?_, ?_, fun P hP k h5 h6 => ?_⟩
 ·rw [sw_get hi hj, if_neg (by omega), if_neg (by omega)]
 ·unfold sw
  rw [getElem!_pos l j hj, getElem!_pos l i hi]
  exact List.set_set_perm hi hj
 ·rw [sw_get hi hj]
  split
  ·exact hP i h1 h2
  ·split
   ·exact hP j h3 h4
   ·exact hP k h5 h6
variable {lt : α → α → Bool}
def Srt (lt : α → α → Bool) (l : List α) (a b : Nat) : Prop := ∀ i j, a ≤ i → i < j → j < b → lt l[j]! l[i]! = false
structure Hole (lt : α → α → Bool) (l : List α) (a i j : Nat) : Prop where
 o : ∀ p q, a ≤ p → p < q → q ≤ i → p ≠ j → q ≠ j → lt l[q]! l[p]! = false
 h : ∀ q, j < q → q ≤ i → lt l[q]! l[j]! = false
theorem Hole.start {l : List α} {a i : Nat} (h : Srt lt l a i) : Hole lt l a i i := ⟨fun p q h1 h2 h3 h4 h5 => h p q h1 h2 (by omega), fun q h1 h2 => by omega⟩
theorem Hole.step {l : List α} {a i j : Nat} (ht : TO lt) (h : Hole lt l a i j) (hj : a < j) (hji : j ≤ i) (hi : i < l.length) (hl : lt l[j]! l[j-1]! = true) : Hole lt (sw l j (j - 1)) a i (j - 1) := by
 have hj1 : j < l.length := by omega
 have hj2 : j - 1 < l.length := by omega
 refine ⟨fun p q h1 h2 h3 h4 h5 => ?_, fun q h1 h2 => ?_⟩
 ·rw [sw_get hj1 hj2, sw_get hj1 hj2, if_neg h5, if_neg h4]
  by_cases e1 : q = j
  ·rw [if_pos e1, if_neg (by omega)]
   exact h.o p (j - 1) h1 (by omega) (by omega) (by omega) (by omega)
  ·rw [if_neg e1]
   by_cases e2 : p = j
   ·rw [if_pos e2]
    exact h.o (j - 1) q (by omega) (by omega) h3 (by omega) e1
   ·rw [if_neg e2]
    exact h.o p q h1 h2 h3 e2 e1
 ·rw [sw_get hj1 hj2, sw_get hj1 hj2, if_neg (by omega), if_pos rfl]
  by_cases e1 : q = j
  ·rw [if_pos e1]; exact ht.asymm hl
  ·rw [if_neg e1]; exact h.h q (by omega) h2
theorem Hole.fin {l : List α} {a i j : Nat} (ht : TO lt) (h : Hole lt l a i j) (hj : a ≤ j) (hji : j ≤ i) (hl : j = a ∨ lt l[j]! l[j-1]! = false) : Srt lt l a (i + 1) := by
 intro p q h1 h2 h3
 by_cases e1 : p = j
 ·rw [e1]; exact h.h q (by omega) (by omega)
 ·by_cases e2 : q = j
  ·rw [e2]
   rcases hl with hl | hl
   ·omega
   ·by_cases e3 : p = j - 1
    ·rw [e3]; exact hl
    ·exact ht.trans (h.o p (j - 1) h1 (by omega) (by omega) e1 (by omega)) hl
  ·exact h.o p q h1 h2 (by omega) e1 e2
theorem Srt.one {l : List α} {a b : Nat} (h : b ≤ a + 1) : Srt lt l a b := fun i j h1 h2 h3 => by omega
def Hp (lt : α → α → Bool) (l : List α) (f lo hi : Nat) : Prop := ∀ p c, lo ≤ p → (c = 2 * p + 1 ∨ c = 2 * p + 2) → c < hi → lt l[f + p]! l[f + c]! = false
structure HpX (lt : α → α → Bool) (l : List α) (f lo hi r : Nat) : Prop where
 o : ∀ p c, lo ≤ p → p ≠ r → (c = 2 * p + 1 ∨ c = 2 * p + 2) → c < hi → lt l[f + p]! l[f + c]! = false
 g : ∀ p c, lo ≤ p → (r = 2 * p + 1 ∨ r = 2 * p + 2) → (c = 2 * r + 1 ∨ c = 2 * r + 2) → c < hi → lt l[f + p]! l[f + c]! = false
theorem HpX.start {l : List α} {f lo hi : Nat} (h : Hp lt l f (lo + 1) hi) : HpX lt l f lo hi lo :=
 ⟨fun p c h1 h2 h3 h4 => h p c (by omega) h3 h4, fun p c h1 h2 h3 h4 => by omega⟩
theorem HpX.fin {l : List α} {f lo hi r : Nat} (ht : TO lt) (h : HpX lt l f lo hi r) {c : Nat} (hc : c = 2 * r + 1 ∨ c = 2 * r + 2) (hm : ∀ d, (d = 2 * r + 1 ∨ d = 2 * r + 2) → d < hi → lt l[f + c]! l[f + d]! = false) (hl : lt l[f + r]! l[f + c]! = false) : Hp lt l f lo hi := by
 intro p d h1 h2 h3
 by_cases e : p = r
 ·subst e
  exact ht.trans (hm d h2 h3) hl
 ·exact h.o p d h1 e h2 h3
theorem HpX.leaf {l : List α} {f lo hi r : Nat} (h : HpX lt l f lo hi r) (hr : hi ≤ 2 * r + 1) : Hp lt l f lo hi := by
 intro p d h1 h2 h3
 by_cases e : p = r
 ·subst e; omega
 ·exact h.o p d h1 e h2 h3
theorem HpX.step {l : List α} {f lo hi r : Nat} (ht : TO lt) (h : HpX lt l f lo hi r) (hlo : lo ≤ r) {c : Nat} (hc : c = 2 * r + 1 ∨ c = 2 * r + 2) (hch : c < hi) (hlen : f + hi ≤ l.length) (hm : ∀ d, (d = 2 * r + 1 ∨ d = 2 * r + 2) → d < hi → lt l[f + c]! l[f + d]! = false) (hl : lt l[f + r]! l[f + c]! = true) : HpX lt (sw l (f + r) (f + c)) f lo hi c := by
 have hr1 : f + r < l.length := by omega
 have hc1 : f + c < l.length := by omega
 have hg : ∀ k, (sw l (f + r) (f + c))[f + k]! = if k = c then l[f + r]! else if k = r then l[f + c]! else l[f + k]! := fun k => by
  rw [sw_get hr1 hc1]
  by_cases e1 : k = c
  ·subst e1; rw [if_pos rfl, if_pos rfl]
  ·rw [if_neg (by omega), if_neg e1]
   by_cases e2 : k = r
   ·subst e2; rw [if_pos rfl, if_pos rfl]
   ·rw [if_neg (by omega), if_neg e2]
 refine ⟨fun p d h1 h2 h3 h4 => ?_, fun p d h1 h2 h3 h4 => ?_⟩
 ·rw [hg, hg, if_neg h2]
  by_cases e1 : d = c
  ·rw [if_pos e1]
   have : p = r := by omega
   rw [if_pos this]; exact ht.asymm hl
  ·rw [if_neg e1]
   by_cases e2 : p = r
   ·rw [if_pos e2, if_neg (by omega)]
    exact hm d (by omega) h4
   ·rw [if_neg e2]
    by_cases e3 : d = r
    ·rw [if_pos e3]
     exact h.g p c h1 (by omega) hc hch
    ·rw [if_neg e3]
     exact h.o p d h1 e2 h3 h4
 ·have hpr : p = r := by omega
  rw [hg, hg, hpr, if_neg (by omega), if_pos rfl, if_neg (by omega), if_neg (by omega)]
  exact h.o c d (by omega) (by omega) h3 h4
theorem Hp.top {l : List α} {f hi : Nat} (ht : TO lt) (h : Hp lt l f 0 hi) : ∀ n c, c ≤ n → c < hi → lt l[f]! l[f + c]! = false := by
 intro n
 induction n with
 | zero => intro c h1 h2; have : c = 0 := by omega
           subst this; exact ht.refl
 | succ n ih =>
   intro c h1 h2
   by_cases e : c = 0
   ·subst e; exact ht.refl
   ·have h3 := h ((c - 1) / 2) c (by omega) (by omega) h2
    have h4 := ih ((c - 1) / 2) (by omega) (by omega)
    exact ht.trans h3 h4
end
end Go.Mw
/- Sorting rows of numbers: rules; short rows. -/
namespace Go.Mw
set_option maxRecDepth 100000
def dh (H : List Ob) (r st ss : Nat) (l : List Int) : List Ob := H.set r ⟨st, ss, .own 1 (l.map I)⟩
theorem dh_get {H : List Ob} {r st ss : Nat} {l : List Int} (hr : r < H.length) : (dh H r st ss l)[r]? = some ⟨st, ss, .own 1 (l.map I)⟩ := by unfold dh; rw [List.getElem?_set_self hr]
theorem dh_set {H : List Ob} {r st ss st' ss' : Nat} {l m : List Int} : (dh H r st ss l).set r ⟨st', ss', .own 1 (m.map I)⟩ = dh H r st' ss' m := by unfold dh; rw [List.set_set]
theorem dh_len {H : List Ob} {r st ss : Nat} {l : List Int} : (dh H r st ss l).length = H.length := by unfold dh; rw [List.length_set]
theorem dh_take {H : List Ob} {r st ss : Nat} {l : List Int} : (dh H r st ss l).take H.length = dh H r st ss l := List.take_of_length_le (by rw [dh_len]; exact Nat.le_refl _)
theorem map_setI' {l : List Int} {i : Nat} {v : Int} : (l.map I).set i (.int .i64 v) = (l.set i v).map I := by rw [List.map_set]
theorem freeL_n {h : List Ob} : freeL [] 0 h = h := by
 have key : ∀ (h : List Ob) (i : Nat), freeL [] i h = h := by
  intro h
  induction h with
  | nil => intro i; rfl
  | cons o h ih => intro i; simp only [freeL]; rw [ih]; simp
 exact key h 0
theorem nan_ok (x : Int) : FnT G f_cmp_isNaN_int_ [I x] (Bo false) := by
 refine FnP.mk' g_cmp_isNaN_int_ rfl rfl ?_
 have : (x != x) = false := by simp
 simp only [go_sem, ↓reduceIte, ↓gA, ↓gB, ↓gC, ↓gD, ↓cA, ↓cB, c_cmp_isNaN_int_, this]
theorem nan_r {x : Int} {fr : Bool} {roots : List Nat} {b : Nat} {ss : List Nat} {σ : St} {k : AV → St → Prop} : callT G f_cmp_isNaN_int_ [I x] fr roots b ss σ k = k (Bo false) σ := (nan_ok x).rule
theorem less_ok (x y : Int) : FnT G f_cmp_Less_int_ [I x, I y] (Bo (decide (x < y))) := by
 refine FnP.mk' g_cmp_Less_int_ rfl rfl ?_
 simp only [go_sem, ↓reduceIte, ↓gA, ↓gB, ↓gC, ↓gD, ↓cA, ↓cB, c_cmp_Less_int_, nan_r]
theorem less_r {x y : Int} {fr : Bool} {roots : List Nat} {b : Nat} {ss : List Nat} {σ : St} {k : AV → St → Prop} : callT G f_cmp_Less_int_ [I x, I y] fr roots b ss σ k = k (Bo (decide (x < y))) σ := (less_ok x y).rule
attribute [go_sem] dh_set dh_len dh_take map_setI' less_r freeL_n
def ltI (x y : Int) : Bool := decide (x < y)
theorem to_ltI : TO ltI := by
 constructor
 ·intro x y h
  unfold ltI at h ⊢
  rw [decide_eq_true_eq] at h; rw [decide_eq_false_iff_not]; omega
 ·intro x y z h1 h2
  unfold ltI at h1 h2 ⊢
  rw [decide_eq_false_iff_not] at h1 h2 ⊢; omega
theorem insI_ok {l : List Int} {a b : Nat} (hab : a ≤ b) (hb : b ≤ l.length) (hl : l.length ≤ 1000000) {t : List AV} {lp : List Lp} {H : List Ob} {r st ss s0 bs : Nat} {K : AV → St → Prop} {L : Nat} (hL : l.length = L) (hr : r < H.length)
 (hK : ∀ l', SegP l l' a b → Srt ltI l' a b → K (.tup []) ⟨t, dh H r st ss l', lp⟩) : WpCall G f_slices_insertionSortOrdered_int_ [.sl r st [] s0 0 L, I a, I b] bs [] ⟨t, dh H r st ss l, lp⟩ K := by
 subst hL
 refine wpCall_S g_slices_insertionSortOrdered_int_ rfl ?_
 rw [entry_aT (by simp)]
 have wa : IntKind.i64.wrap ((a : Int) + 1) = ((a + 1 : Nat) : Int) := by rw [wrapI] <;> omega
 simp only [go_sem, ↓reduceIte, ↓gA, ↓gB, ↓gC, ↓gD, ↓cA, ↓cB, c_slices_insertionSortOrdered_int_, wa]
 refine wp_loopQ (fun (i : Nat) σ => a + 1 ≤ i ∧ ∃ m, SegP l m a b ∧ Srt ltI m a (min i b) ∧ (b ≤ i → Srt ltI m a b) ∧ σ = ⟨aT .undef 49 [(0, .sl r st [] s0 0 l.length), (1, I a), (2, I b), (6, I i)], dh H r st ss m, lp⟩) (fun i => b - i) ?_ (a + 1) ?_
 ·rintro i σ ⟨hi, m, hm, hsm, hsb, rfl⟩ N Q hQ hN
  have hml := hm.len
  by_cases hlt : i < b
  ·simp only [go_sem, ↓reduceIte, ↓gA, ↓gB, ↓gC, ↓gD, ↓cA, ↓cB, Int.ofNat_lt, hlt]
   have hsi : Srt ltI m a i := by rw [Nat.min_eq_left (by omega)] at hsm; exact hsm
   refine wp_loopQ (fun (j : Nat) σ => (a ≤ j ∧ j ≤ i) ∧ ∃ n, SegP l n a b ∧ Hole ltI n a i j ∧ σ = ⟨aT .undef 49 [(0, .sl r st [] s0 0 l.length), (1, I a), (2, I b), (6, I i), (7, I j)], dh H r st ss n, lp⟩) (fun j => j) ?_ i ?_
   ·rintro j σ ⟨⟨hj1, hj2⟩, n, hn, hh, rfl⟩ N2 Q2 hQ2 hN2
    have hnl := hn.len
    have hmin : min (i + 1) b = i + 1 := Nat.min_eq_left (by omega)
    have hbeq : ∀ {n}, Srt ltI n a (i + 1) → b ≤ i + 1 → Srt ltI n a b := fun hs hbi => by
     have : b = i + 1 := by omega
     rw [this]; exact hs
    by_cases ha : a < j
    ·have hj0 : j < n.length := by omega
     have hj3 : j - 1 < n.length := by omega
     have w1 : IntKind.i64.wrap ((j : Int) - 1) = ((j - 1 : Nat) : Int) := by rw [wrapI] <;> omega
     have hjl : j < l.length := by omega
     have hjl1 : j - 1 < l.length := by omega
     simp only [go_sem, ↓reduceIte, ↓gA, ↓gB, ↓gC, ↓gD, ↓cA, ↓cB, Int.ofNat_lt, ha, hjl, hjl1, hj0, hj3, w1, dh_get hr]
     refine ⟨fun hlt2 => ⟨by simpa using hj3, hN2 (j - 1) _ (by omega) ⟨⟨by omega, by omega⟩, sw n j (j - 1), hn.tr (sw_seg hj0 hj3 (by omega) (by omega) (by omega) (by omega)), hh.step to_ltI ha hj2 (by omega) (by unfold ltI; rw [decide_eq_true_eq]; exact hlt2), ?_⟩⟩, fun hge => ?_⟩
     ·simp only [go_sem, ↓reduceIte, ↓gA, ↓gB, ↓gC, ↓gD, ↓cA, ↓cB, sw]
     ·subst hQ2
      have hs := hh.fin to_ltI hj1 hj2 (.inr (by unfold ltI; rw [decide_eq_false_iff_not]; exact hge))
      simp only [go_sem, ↓reduceIte, ↓gA, ↓gB, ↓gC, ↓gD, ↓cA, ↓cB, wrap_succ hlt (show b ≤ 1000000000 by omega)]
      refine hN (i + 1) _ (by omega) ⟨by omega, n, hn, by rw [hmin]; exact hs, hbeq hs, ?_⟩
      simp only [go_sem, ↓reduceIte, ↓gA, ↓gB, ↓gC, ↓gD, ↓cA, ↓cB]
    ·have hja : j = a := by omega
     subst hQ2
     have hs := hh.fin to_ltI hj1 hj2 (.inl hja)
     simp only [go_sem, ↓reduceIte, ↓gA, ↓gB, ↓gC, ↓gD, ↓cA, ↓cB, Int.ofNat_lt, ha, wrap_succ hlt (show b ≤ 1000000000 by omega)]
     refine hN (i + 1) _ (by omega) ⟨by omega, n, hn, by rw [hmin]; exact hs, hbeq hs, ?_⟩
     simp only [go_sem, ↓reduceIte, ↓gA, ↓gB, ↓gC, ↓gD, ↓cA, ↓cB]
   ·refine ⟨⟨by omega, Nat.le_refl _⟩, m, hm, Hole.start hsi, ?_⟩
    simp only [go_sem, ↓reduceIte, ↓gA, ↓gB, ↓gC, ↓gD, ↓cA, ↓cB]
  ·subst hQ
   simp only [go_sem, ↓reduceIte, ↓gA, ↓gB, ↓gC, ↓gD, ↓cA, ↓cB, Int.ofNat_lt, hlt]
   exact hK m hm (hsb (by omega))
 ·refine ⟨Nat.le_refl _, l, SegP.refl, Srt.one (by omega), fun hb2 => Srt.one (by omega), ?_⟩
  simp only [go_sem, ↓reduceIte, ↓gA, ↓gB, ↓gC, ↓gD, ↓cA, ↓cB]
end Go.Mw
/- Sorting rows of numbers: heaps. -/
namespace Go.Mw
set_option maxRecDepth 100000
theorem siftI_ok {l : List Int} {lo hi f : Nat} (hb : f + hi ≤ l.length) (hl : l.length ≤ 1000000) (hlo : lo ≤ 1000000) (hp : Hp ltI l f (lo + 1) hi) {t : List AV} {lp : List Lp} {H : List Ob} {r st ss s0 bs : Nat} {K : AV → St → Prop} {L : Nat} (hL : l.length = L) (hr : r < H.length)
 (hK : ∀ l', SegP l l' f (f + hi) → Hp ltI l' f lo hi → K (.tup []) ⟨t, dh H r st ss l', lp⟩) : WpCall G f_slices_siftDownOrdered_int_ [.sl r st [] s0 0 L, I lo, I hi, I f] bs [] ⟨t, dh H r st ss l, lp⟩ K := by
 subst hL
 refine wpCall_S g_slices_siftDownOrdered_int_ rfl ?_
 rw [entry_aT (by simp)]
 simp only [go_sem, ↓reduceIte, ↓gA, ↓gB, ↓gC, ↓gD, ↓cA, ↓cB, c_slices_siftDownOrdered_int_]
 refine wp_loopQ (fun (i : Nat) σ => lo ≤ i ∧ i ≤ 2000002 ∧ ∃ m, SegP l m f (f + hi) ∧ HpX ltI m f lo hi i ∧ σ = ⟨aT .undef 76 [(0, .sl r st [] s0 0 l.length), (2, I hi), (3, I f), (8, I i)], dh H r st ss m, lp⟩) (fun i => hi - i) ?_ lo ?_
 ·rintro i σ ⟨hi1, hi2, m, hm, hx, rfl⟩ N Q hQ hN
  have hml := hm.len
  have w1 : IntKind.i64.wrap ((2 : Int) * (i : Int)) = ((2 * i : Nat) : Int) := by rw [wrapI] <;> omega
  have w2 : IntKind.i64.wrap (((2 * i : Nat) : Int) + 1) = ((2 * i + 1 : Nat) : Int) := by rw [wrapI] <;> omega
  have w2' : IntKind.i64.wrap (((2 * i + 1 : Nat) : Int) + 1) = ((2 * i + 2 : Nat) : Int) := by rw [wrapI] <;> omega
  by_cases hc : 2 * i + 1 < hi
  ·have w3 : IntKind.i64.wrap ((f : Int) + ((2 * i + 1 : Nat) : Int)) = ((f + (2 * i + 1) : Nat) : Int) := by rw [wrapI] <;> omega
   have w4 : IntKind.i64.wrap (((f + (2 * i + 1) : Nat) : Int) + 1) = ((f + (2 * i + 2) : Nat) : Int) := by rw [wrapI] <;> omega
   have w5 : IntKind.i64.wrap ((f : Int) + (i : Int)) = ((f + i : Nat) : Int) := by rw [wrapI] <;> omega
   have w6 : IntKind.i64.wrap ((f : Int) + ((2 * i + 2 : Nat) : Int)) = ((f + (2 * i + 2) : Nat) : Int) := by rw [wrapI] <;> omega
   have hni : ¬ hi ≤ 2 * i + 1 := by omega
   have b1 : f + (2 * i + 1) < l.length := by omega
   have b2 : f + i < l.length := by omega
   have b1' : f + (2 * i + 1) < m.length := by omega
   have b2' : f + i < m.length := by omega
   -- what is done with a child
   have go : ∀ c, (c = 2 * i + 1 ∨ c = 2 * i + 2) → c < hi → (∀ d, (d = 2 * i + 1 ∨ d = 2 * i + 2) → d < hi → ltI m[f + c]! m[f + d]! = false) → (m[f + i]! < m[f + c]! → HpX ltI (sw m (f + i) (f + c)) f lo hi c ∧ SegP l (sw m (f + i) (f + c)) f (f + hi)) ∧ (¬ m[f + i]! < m[f + c]! → Hp ltI m f lo hi) := by
    intro c h1 h2 h3
    refine ⟨fun h4 => ⟨hx.step to_ltI hi1 h1 h2 (by omega) h3 (by unfold ltI; rw [decide_eq_true_eq]; exact h4), hm.tr (sw_seg (by omega) (by omega) (by omega) (by omega) (by omega) (by omega))⟩, fun h4 => hx.fin to_ltI h1 h3 (by unfold ltI; rw [decide_eq_false_iff_not]; exact h4)⟩
   by_cases hc2 : 2 * i + 2 < hi
   ·have b3 : f + (2 * i + 2) < l.length := by omega
    have b3' : f + (2 * i + 2) < m.length := by omega
    by_cases hlt : m[f + (2 * i + 1)]! < m[f + (2 * i + 2)]!
    ·obtain ⟨g1, g2⟩ := go (2 * i + 2) (.inr rfl) hc2 (by
      rintro d (rfl | rfl) hd
      ·unfold ltI; rw [decide_eq_false_iff_not]; omega
      ·exact to_ltI.refl)
     simp only [go_sem, ↓reduceIte, ↓gA, ↓gB, ↓gC, ↓gD, ↓cA, ↓cB, w1, w2, w2', w3, w4, w5, w6, Int.ofNat_le, Int.ofNat_lt, hni, hc2, b1, b2, b3, b1', b2', b3', dh_get hr, hlt]
     refine ⟨fun h4 => ?_, fun h4 => ⟨by simpa using b3', hN (2 * i + 2) _ (by omega) ⟨by omega, by omega, _, (g1 h4).2, (g1 h4).1, ?_⟩⟩⟩
     ·subst hQ
      simp only [go_sem, ↓reduceIte, ↓gA, ↓gB, ↓gC, ↓gD, ↓cA, ↓cB]
      exact hK m hm (g2 h4)
     ·simp only [go_sem, ↓reduceIte, ↓gA, ↓gB, ↓gC, ↓gD, ↓cA, ↓cB, sw]
    ·obtain ⟨g1, g2⟩ := go (2 * i + 1) (.inl rfl) hc (by
      rintro d (rfl | rfl) hd
      ·exact to_ltI.refl
      ·unfold ltI; rw [decide_eq_false_iff_not]; exact hlt)
     simp only [go_sem, ↓reduceIte, ↓gA, ↓gB, ↓gC, ↓gD, ↓cA, ↓cB, w1, w2, w2', w3, w4, w5, w6, Int.ofNat_le, Int.ofNat_lt, hni, hc2, b1, b2, b3, b1', b2', b3', dh_get hr, hlt]
     refine ⟨fun h4 => ?_, fun h4 => ⟨by simpa using b1', hN (2 * i + 1) _ (by omega) ⟨by omega, by omega, _, (g1 h4).2, (g1 h4).1, ?_⟩⟩⟩
     ·subst hQ
      simp only [go_sem, ↓reduceIte, ↓gA, ↓gB, ↓gC, ↓gD, ↓cA, ↓cB]
      exact hK m hm (g2 h4)
     ·simp only [go_sem, ↓reduceIte, ↓gA, ↓gB, ↓gC, ↓gD, ↓cA, ↓cB, sw]
   ·obtain ⟨g1, g2⟩ := go (2 * i + 1) (.inl rfl) hc (by
     rintro d (rfl | rfl) hd
     ·exact to_ltI.refl
     ·omega)
    simp only [go_sem, ↓reduceIte, ↓gA, ↓gB, ↓gC, ↓gD, ↓cA, ↓cB, w1, w2, w2', w3, w4, w5, w6, Int.ofNat_le, Int.ofNat_lt, hni, hc2, b1, b2, b1', b2', dh_get hr]
    refine ⟨fun h4 => ?_, fun h4 => ⟨by simpa using b1', hN (2 * i + 1) _ (by omega) ⟨by omega, by omega, _, (g1 h4).2, (g1 h4).1, ?_⟩⟩⟩
    ·subst hQ
     simp only [go_sem, ↓reduceIte, ↓gA, ↓gB, ↓gC, ↓gD, ↓cA, ↓cB]
     exact hK m hm (g2 h4)
    ·simp only [go_sem, ↓reduceIte, ↓gA, ↓gB, ↓gC, ↓gD, ↓cA, ↓cB, sw]
  ·have hni : hi ≤ 2 * i + 1 := by omega
   subst hQ
   simp only [go_sem, ↓reduceIte, ↓gA, ↓gB, ↓gC, ↓gD, ↓cA, ↓cB, w1, w2, Int.ofNat_le, hni]
   exact hK m hm (hx.leaf (by omega))
 ·refine ⟨Nat.le_refl _, by omega, l, SegP.refl, HpX.start hp, ?_⟩
  simp only [go_sem, ↓reduceIte, ↓gA, ↓gB, ↓gC, ↓gD, ↓cA, ↓cB]
theorem tdiv2 {n : Nat} (h : n ≤ 1000000) : IntKind.i64.wrap (((n : Nat) : Int).tdiv 2) = ((n / 2 : Nat) : Int) := by
 have : ((n : Nat) : Int).tdiv 2 = ((n / 2 : Nat) : Int) := by
  rw [Int.tdiv_eq_ediv_of_nonneg (by omega)]; omega
 rw [this, wrapI] <;> omega
def Suf (l : List Int) (a k n : Nat) : Prop := ∀ p q, p < q → k ≤ q → q < n → ltI l[a + q]! l[a + p]! = false
theorem Suf.step {m m' : List Int} {a i n : Nat} (hlen : a + n ≤ m.length) (hi : i < n) (hs : Suf m a (i + 1) n) (hp : Hp ltI m a 0 (i + 1)) (hm : SegP (sw m a (a + i)) m' a (a + i)) : Suf m' a i n := by
 have ha : a < m.length := by omega
 have hai : a + i < m.length := by omega
 have hg : ∀ j, (sw m a (a + i))[a + j]! = if j = i then m[a]! else if j = 0 then m[a + i]! else m[a + j]! := fun j => by
  rw [sw_get ha hai]
  by_cases e1 : j = i
  ·rw [if_pos (by omega), if_pos e1]
  ·rw [if_neg (by omega), if_neg e1]
   by_cases e2 : j = 0
   ·rw [if_pos (by omega), if_pos e2]
   ·rw [if_neg (by omega), if_neg e2]
 have htop := fun j (hj : j < i + 1) => Hp.top to_ltI hp j j (Nat.le_refl _) hj
 intro p q h1 h2 h3
 rw [hm.out (a + q) (by omega), hg]
 by_cases e1 : q = i
 ·rw [if_pos e1]
  refine hm.all (fun x => ltI m[a]! x = false) (fun j hj1 hj2 => ?_) (a + p) (by omega) (by omega)
  obtain ⟨d, rfl⟩ : ∃ d, j = a + d := ⟨j - a, by omega⟩
  rw [hg, if_neg (by omega)]
  split
  ·exact htop i (by omega)
  ·exact htop d (by omega)
 ·rw [if_neg e1, if_neg (by omega)]
  by_cases e2 : p < i
  ·refine hm.all (fun x => ltI m[a + q]! x = false) (fun j hj1 hj2 => ?_) (a + p) (by omega) (by omega)
   obtain ⟨d, rfl⟩ : ∃ d, j = a + d := ⟨j - a, by omega⟩
   rw [hg, if_neg (by omega)]
   split
   ·exact hs i q (by omega) (by omega) h3
   ·exact hs d q (by omega) (by omega) h3
  ·rw [hm.out (a + p) (by omega), hg]
   by_cases e3 : p = i
   ·rw [if_pos e3]; exact hs 0 q (by omega) (by omega) h3
   ·rw [if_neg e3, if_neg (by omega)]; exact hs p q h1 (by omega) h3
theorem heapI_ok {l : List Int} {a b : Nat} (hab : a < b) (hb : b ≤ l.length) (hl : l.length ≤ 1000000) {t : List AV} {lp : List Lp} {H : List Ob} {r st ss s0 bs : Nat} {K : AV → St → Prop} {L : Nat} (hL : l.length = L) (hr : r < H.length)
 (hK : ∀ l', SegP l l' a b → Srt ltI l' a b → K (.tup []) ⟨t, dh H r st ss l', lp⟩) : WpCall G f_slices_heapSortOrdered_int_ [.sl r st [] s0 0 L, I a, I b] bs [] ⟨t, dh H r st ss l, lp⟩ K := by
 subst hL
 refine wpCall_S g_slices_heapSortOrdered_int_ rfl ?_
 rw [entry_aT (by simp)]
 obtain ⟨n, hn⟩ : ∃ n, b = a + n := ⟨b - a, by omega⟩
 have w1 : IntKind.i64.wrap ((b : Int) - (a : Int)) = (n : Int) := by rw [wrapI] <;> omega
 have w2 : IntKind.i64.wrap ((n : Int) - 1) = ((n - 1 : Nat) : Int) := by rw [wrapI] <;> omega
 simp only [go_sem, ↓reduceIte, ↓gA, ↓gB, ↓gC, ↓gD, ↓cA, ↓cB, c_slices_heapSortOrdered_int_, w1, w2, tdiv2 (show n - 1 ≤ 1000000 by omega)]
 refine wp_loopQ (fun (k : Nat) σ => k ≤ n ∧ ∃ m, SegP l m a b ∧ Hp ltI m a k n ∧ σ = ⟨aT .undef 56 [(0, .sl r st [] s0 0 l.length), (6, I a), (7, I 0), (8, I n), (9, I ((k : Int) - 1))], dh H r st ss m, lp⟩) (fun k => k) ?_ ((n - 1) / 2 + 1) ?_
 ·rintro k σ ⟨hkn, m, hm, hp, rfl⟩ N Q hQ hN
  have hml := hm.len
  by_cases hk : 0 < k
  ·have e1 : ((k : Int) - 1) = ((k - 1 : Nat) : Int) := by omega
   have w3 : IntKind.i64.wrap (((k - 1 : Nat) : Int) - 1) = ((k - 1 : Nat) : Int) - 1 := by rw [wrapI] <;> omega
   rw [← hml, e1]
   simp only [go_sem, ↓reduceIte, ↓gA, ↓gB, ↓gC, ↓gD, ↓cA, ↓cB, Int.natCast_nonneg, w3]
   refine siftI_ok (l := m) (lo := k - 1) (hi := n) (f := a) (by omega) (by omega) (by omega) (by rw [show k - 1 + 1 = k by omega]; exact hp) rfl hr (fun m' hm' hp' => ?_)
   simp only [go_sem, ↓reduceIte, ↓gA, ↓gB, ↓gC, ↓gD, ↓cA, ↓cB, w3]
   refine hN (k - 1) _ (by omega) ⟨by omega, m', hm.tr (by rw [hn]; exact hm'), hp', ?_⟩
   simp only [go_sem, ↓reduceIte, ↓gA, ↓gB, ↓gC, ↓gD, ↓cA, ↓cB, hml]
  ·have hk0 : k = 0 := by omega
   subst hk0 hQ
   have hneg : ¬ (0 : Int) ≤ ((0 : Nat) : Int) - 1 := by omega
   simp only [go_sem, ↓reduceIte, ↓gA, ↓gB, ↓gC, ↓gD, ↓cA, ↓cB, hneg, w2]
   refine wp_loopQ (fun (k : Nat) σ => k ≤ n ∧ ∃ m, SegP l m a b ∧ Hp ltI m a 0 k ∧ Suf m a k n ∧ σ = ⟨aT .undef 56 [(0, .sl r st [] s0 0 l.length), (6, I a), (7, I 0), (10, I ((k : Int) - 1))], dh H r st ss m, lp⟩) (fun k => k) ?_ n ?_
   ·rintro k σ ⟨hkn, m, hm, hp, hsf, rfl⟩ N2 Q2 hQ2 hN2
    have hml := hm.len
    by_cases hk : 0 < k
    ·have e1 : ((k : Int) - 1) = ((k - 1 : Nat) : Int) := by omega
     have w3 : IntKind.i64.wrap (((k - 1 : Nat) : Int) - 1) = ((k - 1 : Nat) : Int) - 1 := by rw [wrapI] <;> omega
     have w4 : IntKind.i64.wrap ((a : Int) + ((k - 1 : Nat) : Int)) = ((a + (k - 1) : Nat) : Int) := by rw [wrapI] <;> omega
     have b1 : a < m.length := by omega
     have b2 : a + (k - 1) < m.length := by omega
     rw [← hml, e1]
     simp only [go_sem, ↓reduceIte, ↓gA, ↓gB, ↓gC, ↓gD, ↓cA, ↓cB, Int.natCast_nonneg, Int.ofNat_lt, w3, w4, b1, b2, dh_get hr]
     refine ⟨by simpa using b2, ?_⟩
     have hsw := @sw_get Int _ m a (a + (k - 1))
     refine siftI_ok (l := sw m a (a + (k - 1))) (lo := 0) (hi := k - 1) (f := a) (by rw [sw_len]; omega) (by rw [sw_len]; omega) (by omega) (fun p c h1 h2 h3 => ?_) sw_len hr (fun m' hm' hp' => ?_)
     ·rw [hsw b1 b2, hsw b1 b2, if_neg (by omega), if_neg (by omega), if_neg (by omega), if_neg (by omega)]
      exact hp p c (by omega) h2 (by omega)
     ·simp only [go_sem, ↓reduceIte, ↓gA, ↓gB, ↓gC, ↓gD, ↓cA, ↓cB, w3]
      refine hN2 (k - 1) _ (by omega) ⟨by omega, m', hm.tr ((sw_seg b1 b2 (Nat.le_refl _) (by omega) (by omega) (by omega)).tr (hm'.wide (Nat.le_refl _) (by omega))), hp', Suf.step (by omega) (by omega) (by rw [show k - 1 + 1 = k by omega]; exact hsf) (by rw [show k - 1 + 1 = k by omega]; exact hp) hm', ?_⟩
      simp only [go_sem, ↓reduceIte, ↓gA, ↓gB, ↓gC, ↓gD, ↓cA, ↓cB, hml]
    ·have hk0 : k = 0 := by omega
     subst hk0 hQ2
     have hneg : ¬ (0 : Int) ≤ ((0 : Nat) : Int) - 1 := by omega
     simp only [go_sem, ↓reduceIte, ↓gA, ↓gB, ↓gC, ↓gD, ↓cA, ↓cB, hneg]
     refine hK m hm (fun i j h1 h2 h3 => ?_)
     have := hsf (i - a) (j - a) (by omega) (by omega) (by omega)
     rwa [show a + (j - a) = j by omega, show a + (i - a) = i by omega] at this
   ·refine ⟨Nat.le_refl _, m, hm, hp, fun p q h1 h2 h3 => by omega, ?_⟩
    simp only [go_sem, ↓reduceIte, ↓gA, ↓gB, ↓gC, ↓gD, ↓cA, ↓cB]
    rw [show ((n - 1 : Nat) : Int) = (n : Int) - 1 by omega]
 ·refine ⟨by omega, l, SegP.refl, fun p c h1 h2 h3 => by omega, ?_⟩
  simp only [go_sem, ↓reduceIte, ↓gA, ↓gB, ↓gC, ↓gD, ↓cA, ↓cB]
  rw [show (((n - 1) / 2 : Nat) : Int) = (((n - 1) / 2 + 1 : Nat) : Int) - 1 by omega]
end Go.Mw
/- Sorting rows of numbers: parting. -/
namespace Go.Mw
set_option maxRecDepth 100000
structure PInv (l m : List Int) (a b i j : Nat) : Prop where
 seg : SegP l m a b
 ai : a + 1 ≤ i
 ij : i ≤ j + 1
 jb : j < b
 aj : a ≤ j
 lo : ∀ k, a + 1 ≤ k → k < i → ltI m[k]! m[a]! = true
 hi : ∀ k, j < k → k < b → ltI m[k]! m[a]! = false
structure PPost (l m : List Int) (a b j : Nat) : Prop where
 seg : SegP l m a b
 aj : a ≤ j
 jb : j < b
 lo : ∀ k, a ≤ k → k < j → ltI m[k]! m[j]! = true
 hi : ∀ k, j < k → k < b → ltI m[k]! m[j]! = false
theorem PInv.up {l m : List Int} {a b i j : Nat} (h : PInv l m a b i j) (hij : i ≤ j) (hlt : m[i]! < m[a]!) : PInv l m a b (i + 1) j :=
 ⟨h.seg, by have := h.ai; omega, by omega, h.jb, h.aj, fun k h1 h2 => by
  by_cases e : k = i
  ·rw [e]; unfold ltI; rw [decide_eq_true_eq]; exact hlt
  ·exact h.lo k h1 (by omega), h.hi⟩
theorem PInv.down {l m : List Int} {a b i j : Nat} (h : PInv l m a b i j) (hij : i ≤ j) (hge : ¬ m[j]! < m[a]!) : PInv l m a b i (j - 1) :=
 ⟨h.seg, h.ai, by omega, by have := h.jb; omega, by have := h.ai; omega, h.lo, fun k h1 h2 => by
  by_cases e : k = j
  ·rw [e]; unfold ltI; rw [decide_eq_false_iff_not]; exact hge
  ·exact h.hi k (by omega) h2⟩
theorem PInv.swap {l m : List Int} {a b i j : Nat} (hbl : b ≤ l.length) (h : PInv l m a b i j) (hij : i ≤ j) (hge : ¬ m[i]! < m[a]!) (hlt : m[j]! < m[a]!) : PInv l (sw m i j) a b (i + 1) (j - 1) := by
 have hml := h.seg.len
 have h1 := h.ai
 have h2 := h.jb
 have hne : i ≠ j := fun e => hge (by rw [e]; exact hlt)
 have hi' : i < m.length := by omega
 have hj' : j < m.length := by omega
 have hg := @sw_get Int _ m i j
 refine ⟨h.seg.tr (sw_seg hi' hj' (by omega) (by omega) (by omega) (by omega)), by omega, by omega, by omega, by omega, fun k h3 h4 => ?_, fun k h3 h4 => ?_⟩
 ·rw [hg hi' hj', hg hi' hj', if_neg (show ¬ k = j by omega), if_neg (show ¬ a = j by omega), if_neg (show ¬ a = i by omega)]
  by_cases e : k = i
  ·rw [if_pos e]; unfold ltI; rw [decide_eq_true_eq]; exact hlt
  ·rw [if_neg e]; exact h.lo k h3 (by omega)
 ·rw [hg hi' hj', hg hi' hj', if_neg (show ¬ a = j by omega), if_neg (show ¬ a = i by omega)]
  by_cases e : k = j
  ·rw [if_pos e]; unfold ltI; rw [decide_eq_false_iff_not]; exact hge
  ·rw [if_neg e, if_neg (by omega)]; exact h.hi k (by omega) h4
theorem PInv.fin {l m : List Int} {a b i j : Nat} (hbl : b ≤ l.length) (h : PInv l m a b i j) (hij : ¬ i ≤ j) : PPost l (sw m j a) a b j := by
 have hml := h.seg.len
 have h1 := h.ai
 have h2 := h.jb
 have h3 := h.aj
 have h4 := h.ij
 have ha' : a < m.length := by omega
 have hj' : j < m.length := by omega
 have hg := @sw_get Int _ m j a
 refine ⟨h.seg.tr (sw_seg hj' ha' (by omega) (by omega) (by omega) (by omega)), h3, h2, fun k h5 h6 => ?_, fun k h5 h6 => ?_⟩
 ·rw [hg hj' ha', hg hj' ha', if_neg (show ¬ j = a by omega), if_pos rfl]
  by_cases e : k = a
  ·rw [if_pos e]; exact h.lo j (by omega) (by omega)
  ·rw [if_neg e, if_neg (by omega)]; exact h.lo k (by omega) (by omega)
 ·rw [hg hj' ha', hg hj' ha', if_neg (show ¬ k = a by omega), if_neg (show ¬ k = j by omega)]
  by_cases e : j = a
  ·rw [if_pos e, e]; exact h.hi k h5 h6
  ·rw [if_neg e, if_pos rfl]; exact h.hi k h5 h6
theorem PInv.start {l : List Int} {a b p : Nat} (hbl : b ≤ l.length) (h1 : a ≤ p) (h2 : p < b) : PInv l (sw l a p) a b (a + 1) (b - 1) :=
 ⟨sw_seg (by omega) (by omega) (Nat.le_refl _) (by omega) h1 h2, Nat.le_refl _, by omega, by omega, by omega, fun k h3 h4 => by omega, fun k h3 h4 => by omega⟩
theorem partL0 {l m : List Int} {a b i j L : Nat} (hL : l.length = L) (hb : b ≤ l.length) (hl : l.length ≤ 1000000) {r st ss s0 : Nat} {H : List Ob} {lp : List Lp} (hr : r < H.length) (hp : PInv l m a b i j) {z : Nat} (hz : z = i) {d : AV} {A : List (Nat × AV)} (hA : (look d 0 A = .sl r st [] s0 0 L ∧ look d 1 A = I a ∧ look d 10 A = I i ∧ look d 11 A = I j)) {B : Nat} :
 Wp G l_slices_partitionOrdered_int__0 B ⟨aT d 168 A, dh H r st ss m, lp⟩ (fun e σ => e = .ext 0 ∧ ∃ (i : Nat) (A : List (Nat × AV)), z ≤ i ∧ PInv l m a b i j ∧ (i ≤ j → ¬ m[i]! < m[a]!) ∧ (look .undef 0 A = .sl r st [] s0 0 L ∧ look .undef 1 A = I a ∧ look .undef 10 A = I i ∧ look .undef 11 A = I j) ∧ σ = ⟨aT .undef 168 A, dh H r st ss m, lp⟩) := by
 subst hL
 obtain ⟨h0, h1, h2, h3⟩ := hA
 have hle : z ≤ i := by omega
 refine wp_loopQ (fun (i : Nat) σ => z ≤ i ∧ PInv l m a b i j ∧ σ = ⟨aT .undef 168 [(0, .sl r st [] s0 0 l.length), (1, I a), (10, I i), (11, I j)], dh H r st ss m, lp⟩) (fun i => j + 1 - i) ?_ i ?_
 ·rintro i σ ⟨hzx, hp, rfl⟩ N Q hQ hN
  have b0 := hp.ai; have b1 := hp.ij; have b2 := hp.jb; have b3 := hp.aj
  have hml := hp.seg.len
  have b4 : a < l.length := by omega
  have b4' : a < m.length := by omega
  by_cases hij : i ≤ j
  ·have b5 : i < l.length := by omega
   have b5' : i < m.length := by omega
   have w1 : IntKind.i64.wrap ((i : Int) + 1) = ((i + 1 : Nat) : Int) := by rw [wrapI] <;> omega
   by_cases hlt : m[i]! < m[a]!
   ·simp only [go_sem, ↓reduceIte, ↓gA, ↓gB, ↓gC, ↓gD, ↓cA, ↓cB, Int.ofNat_le, Int.ofNat_lt, hij, b4, b4', b5, b5', dh_get hr, hlt, w1]
    refine hN (i + 1) _ (by omega) ⟨by omega, hp.up hij hlt, ?_⟩
    simp only [go_sem, ↓reduceIte, ↓gA, ↓gB, ↓gC, ↓gD, ↓cA, ↓cB]
   ·subst hQ
    simp only [go_sem, ↓reduceIte, ↓gA, ↓gB, ↓gC, ↓gD, ↓cA, ↓cB, Int.ofNat_le, Int.ofNat_lt, hij, b4, b4', b5, b5', dh_get hr, hlt]
    exact ⟨i, _, hzx, hp, fun _ => hlt, by simp only [go_sem, ↓reduceIte, ↓gA, ↓gB, ↓gC, ↓gD, ↓cA, ↓cB], rfl⟩
  ·subst hQ
   simp only [go_sem, ↓reduceIte, ↓gA, ↓gB, ↓gC, ↓gD, ↓cA, ↓cB, Int.ofNat_le, hij]
   exact ⟨i, _, hzx, hp, fun h => absurd h hij, by simp only [go_sem, ↓reduceIte, ↓gA, ↓gB, ↓gC, ↓gD, ↓cA, ↓cB], rfl⟩
 ·refine ⟨hle, hp, ?_⟩
  simp only [go_sem, ↓reduceIte, ↓gA, ↓gB, ↓gC, ↓gD, ↓cA, ↓cB, h0, h1, h2, h3]
theorem partL6 {l m : List Int} {a b i j L : Nat} (hL : l.length = L) (hb : b ≤ l.length) (hl : l.length ≤ 1000000) {r st ss s0 : Nat} {H : List Ob} {lp : List Lp} (hr : r < H.length) (hp : PInv l m a b i j) {z : Nat} (hz : z = i) {d : AV} {A : List (Nat × AV)} (hA : (look d 0 A = .sl r st [] s0 0 L ∧ look d 1 A = I a ∧ look d 10 A = I i ∧ look d 11 A = I j)) {B : Nat} :
 Wp G l_slices_partitionOrdered_int__6 B ⟨aT d 168 A, dh H r st ss m, lp⟩ (fun e σ => e = .ext 6 ∧ ∃ (i : Nat) (A : List (Nat × AV)), z ≤ i ∧ PInv l m a b i j ∧ (i ≤ j → ¬ m[i]! < m[a]!) ∧ (look .undef 0 A = .sl r st [] s0 0 L ∧ look .undef 1 A = I a ∧ look .undef 10 A = I i ∧ look .undef 11 A = I j) ∧ σ = ⟨aT .undef 168 A, dh H r st ss m, lp⟩) := by
 subst hL
 obtain ⟨h0, h1, h2, h3⟩ := hA
 have hle : z ≤ i := by omega
 refine wp_loopQ (fun (i : Nat) σ => z ≤ i ∧ PInv l m a b i j ∧ σ = ⟨aT .undef 168 [(0, .sl r st [] s0 0 l.length), (1, I a), (10, I i), (11, I j)], dh H r st ss m, lp⟩) (fun i => j + 1 - i) ?_ i ?_
 ·rintro i σ ⟨hzx, hp, rfl⟩ N Q hQ hN
  have b0 := hp.ai; have b1 := hp.ij; have b2 := hp.jb; have b3 := hp.aj
  have hml := hp.seg.len
  have b4 : a < l.length := by omega
  have b4' : a < m.length := by omega
  by_cases hij : i ≤ j
  ·have b5 : i < l.length := by omega
   have b5' : i < m.length := by omega
   have w1 : IntKind.i64.wrap ((i : Int) + 1) = ((i + 1 : Nat) : Int) := by rw [wrapI] <;> omega
   by_cases hlt : m[i]! < m[a]!
   ·simp only [go_sem, ↓reduceIte, ↓gA, ↓gB, ↓gC, ↓gD, ↓cA, ↓cB, Int.ofNat_le, Int.ofNat_lt, hij, b4, b4', b5, b5', dh_get hr, hlt, w1]
    refine hN (i + 1) _ (by omega) ⟨by omega, hp.up hij hlt, ?_⟩
    simp only [go_sem, ↓reduceIte, ↓gA, ↓gB, ↓gC, ↓gD, ↓cA, ↓cB]
   ·subst hQ
    simp only [go_sem, ↓reduceIte, ↓gA, ↓gB, ↓gC, ↓gD, ↓cA, ↓cB, Int.ofNat_le, Int.ofNat_lt, hij, b4, b4', b5, b5', dh_get hr, hlt]
    exact ⟨i, _, hzx, hp, fun _ => hlt, by simp only [go_sem, ↓reduceIte, ↓gA, ↓gB, ↓gC, ↓gD, ↓cA, ↓cB], rfl⟩
  ·subst hQ
   simp only [go_sem, ↓reduceIte, ↓gA, ↓gB, ↓gC, ↓gD, ↓cA, ↓cB, Int.ofNat_le, hij]
   exact ⟨i, _, hzx, hp, fun h => absurd h hij, by simp only [go_sem, ↓reduceIte, ↓gA, ↓gB, ↓gC, ↓gD, ↓cA, ↓cB], rfl⟩
 ·refine ⟨hle, hp, ?_⟩
  simp only [go_sem, ↓reduceIte, ↓gA, ↓gB, ↓gC, ↓gD, ↓cA, ↓cB, h0, h1, h2, h3]
theorem partL2 {l m : List Int} {a b i j L : Nat} (hL : l.length = L) (hb : b ≤ l.length) (hl : l.length ≤ 1000000) {r st ss s0 : Nat} {H : List Ob} {lp : List Lp} (hr : r < H.length) (hp : PInv l m a b i j) {z : Nat} (hz : z = j) {d : AV} {A : List (Nat × AV)} (hA : (look d 0 A = .sl r st [] s0 0 L ∧ look d 1 A = I a ∧ look d 10 A = I i ∧ look d 11 A = I j)) {B : Nat} :
 Wp G l_slices_partitionOrdered_int__2 B ⟨aT d 168 A, dh H r st ss m, lp⟩ (fun e σ => e = .ext 2 ∧ ∃ (j : Nat) (A : List (Nat × AV)), j ≤ z ∧ PInv l m a b i j ∧ (i ≤ j → m[j]! < m[a]!) ∧ (look .undef 0 A = .sl r st [] s0 0 L ∧ look .undef 1 A = I a ∧ look .undef 10 A = I i ∧ look .undef 11 A = I j) ∧ σ = ⟨aT .undef 168 A, dh H r st ss m, lp⟩) := by
 subst hL
 obtain ⟨h0, h1, h2, h3⟩ := hA
 have hle : j ≤ z := by omega
 refine wp_loopQ (fun (j : Nat) σ => j ≤ z ∧ PInv l m a b i j ∧ σ = ⟨aT .undef 168 [(0, .sl r st [] s0 0 l.length), (1, I a), (10, I i), (11, I j)], dh H r st ss m, lp⟩) (fun j => j + 1 - i) ?_ j ?_
 ·rintro j σ ⟨hzx, hp, rfl⟩ N Q hQ hN
  have b0 := hp.ai; have b1 := hp.ij; have b2 := hp.jb; have b3 := hp.aj
  have hml := hp.seg.len
  have b4 : a < l.length := by omega
  have b4' : a < m.length := by omega
  by_cases hij : i ≤ j
  ·have b5 : j < l.length := by omega
   have b5' : j < m.length := by omega
   have w1 : IntKind.i64.wrap ((j : Int) - 1) = ((j - 1 : Nat) : Int) := by rw [wrapI] <;> omega
   by_cases hlt : m[j]! < m[a]!
   ·subst hQ
    simp only [go_sem, ↓reduceIte, ↓gA, ↓gB, ↓gC, ↓gD, ↓cA, ↓cB, Int.ofNat_le, Int.ofNat_lt, hij, b4, b4', b5, b5', dh_get hr, hlt]
    exact ⟨j, _, hzx, hp, fun _ => hlt, by simp only [go_sem, ↓reduceIte, ↓gA, ↓gB, ↓gC, ↓gD, ↓cA, ↓cB], rfl⟩
   ·simp only [go_sem, ↓reduceIte, ↓gA, ↓gB, ↓gC, ↓gD, ↓cA, ↓cB, Int.ofNat_le, Int.ofNat_lt, hij, b4, b4', b5, b5', dh_get hr, hlt, w1]
    refine hN (j - 1) _ (by omega) ⟨by omega, hp.down hij hlt, ?_⟩
    simp only [go_sem, ↓reduceIte, ↓gA, ↓gB, ↓gC, ↓gD, ↓cA, ↓cB]
  ·subst hQ
   simp only [go_sem, ↓reduceIte, ↓gA, ↓gB, ↓gC, ↓gD, ↓cA, ↓cB, Int.ofNat_le, hij]
   exact ⟨j, _, hzx, hp, fun h => absurd h hij, by simp only [go_sem, ↓reduceIte, ↓gA, ↓gB, ↓gC, ↓gD, ↓cA, ↓cB], rfl⟩
 ·refine ⟨hle, hp, ?_⟩
  simp only [go_sem, ↓reduceIte, ↓gA, ↓gB, ↓gC, ↓gD, ↓cA, ↓cB, h0, h1, h2, h3]
theorem partL8 {l m : List Int} {a b i j L : Nat} (hL : l.length = L) (hb : b ≤ l.length) (hl : l.length ≤ 1000000) {r st ss s0 : Nat} {H : List Ob} {lp : List Lp} (hr : r < H.length) (hp : PInv l m a b i j) {z : Nat} (hz : z = j) {d : AV} {A : List (Nat × AV)} (hA : (look d 0 A = .sl r st [] s0 0 L ∧ look d 1 A = I a ∧ look d 10 A = I i ∧ look d 11 A = I j)) {B : Nat} :
 Wp G l_slices_partitionOrdered_int__8 B ⟨aT d 168 A, dh H r st ss m, lp⟩ (fun e σ => e = .ext 8 ∧ ∃ (j : Nat) (A : List (Nat × AV)), j ≤ z ∧ PInv l m a b i j ∧ (i ≤ j → m[j]! < m[a]!) ∧ (look .undef 0 A = .sl r st [] s0 0 L ∧ look .undef 1 A = I a ∧ look .undef 10 A = I i ∧ look .undef 11 A = I j) ∧ σ = ⟨aT .undef 168 A, dh H r st ss m, lp⟩) := by
 subst hL
 obtain ⟨h0, h1, h2, h3⟩ := hA
 have hle : j ≤ z := by omega
 refine wp_loopQ (fun (j : Nat) σ => j ≤ z ∧ PInv l m a b i j ∧ σ = ⟨aT .undef 168 [(0, .sl r st [] s0 0 l.length), (1, I a), (10, I i), (11, I j)], dh H r st ss m, lp⟩) (fun j => j + 1 - i) ?_ j ?_
 ·rintro j σ ⟨hzx, hp, rfl⟩ N Q hQ hN
  have b0 := hp.ai; have b1 := hp.ij; have b2 := hp.jb; have b3 := hp.aj
  have hml := hp.seg.len
  have b4 : a < l.length := by omega
  have b4' : a < m.length := by omega
  by_cases hij : i ≤ j
  ·have b5 : j < l.length := by omega
   have b5' : j < m.length := by omega
   have w1 : IntKind.i64.wrap ((j : Int) - 1) = ((j - 1 : Nat) : Int) := by rw [wrapI] <;> omega
   by_cases hlt : m[j]! < m[a]!
   ·subst hQ
    simp only [go_sem, ↓reduceIte, ↓gA, ↓gB, ↓gC, ↓gD, ↓cA, ↓cB, Int.ofNat_le, Int.ofNat_lt, hij, b4, b4', b5, b5', dh_get hr, hlt]
    exact ⟨j, _, hzx, hp, fun _ => hlt, by simp only [go_sem, ↓reduceIte, ↓gA, ↓gB, ↓gC, ↓gD, ↓cA, ↓cB], rfl⟩
   ·simp only [go_sem, ↓reduceIte, ↓gA, ↓gB, ↓gC, ↓gD, ↓cA, ↓cB, Int.ofNat_le, Int.ofNat_lt, hij, b4, b4', b5, b5', dh_get hr, hlt, w1]
    refine hN (j - 1) _ (by omega) ⟨by omega, hp.down hij hlt, ?_⟩
    simp only [go_sem, ↓reduceIte, ↓gA, ↓gB, ↓gC, ↓gD, ↓cA, ↓cB]
  ·subst hQ
   simp only [go_sem, ↓reduceIte, ↓gA, ↓gB, ↓gC, ↓gD, ↓cA, ↓cB, Int.ofNat_le, hij]
   exact ⟨j, _, hzx, hp, fun h => absurd h hij, by simp only [go_sem, ↓reduceIte, ↓gA, ↓gB, ↓gC, ↓gD, ↓cA, ↓cB], rfl⟩
 ·refine ⟨hle, hp, ?_⟩
  simp only [go_sem, ↓reduceIte, ↓gA, ↓gB, ↓gC, ↓gD, ↓cA, ↓cB, h0, h1, h2, h3]
theorem partL4 {l m : List Int} {a b i j L : Nat} (hL : l.length = L) (hb : b ≤ l.length) (hl : l.length ≤ 1000000) {r st ss s0 : Nat} {H : List Ob} {lp : List Lp} (hr : r < H.length) (hp : PInv l m a b i j) {d : AV} {A : List (Nat × AV)} (hA : (look d 0 A = .sl r st [] s0 0 L ∧ look d 1 A = I a ∧ look d 10 A = I i ∧ look d 11 A = I j)) {B : Nat} :
 Wp G l_slices_partitionOrdered_int__4 B ⟨aT d 168 A, dh H r st ss m, lp⟩ (fun e σ => e = .ext 4 ∧ ∃ (m : List Int) (i j : Nat) (A : List (Nat × AV)), PInv l m a b i j ∧ ¬ i ≤ j ∧ (look .undef 0 A = .sl r st [] s0 0 L ∧ look .undef 1 A = I a ∧ look .undef 10 A = I i ∧ look .undef 11 A = I j) ∧ σ = ⟨aT .undef 168 A, dh H r st ss m, lp⟩) := by
 subst hL
 obtain ⟨h0, h1, h2, h3⟩ := hA
 refine wp_loopQ (fun (g : Nat × Nat × List Int) σ => PInv l g.2.2 a b g.1 g.2.1 ∧ σ = ⟨aT .undef 168 [(0, .sl r st [] s0 0 l.length), (1, I a), (10, I g.1), (11, I g.2.1)], dh H r st ss g.2.2, lp⟩) (fun g => g.2.1 + 1 - g.1) ?_ (i, j, m) ?_
 ·rintro ⟨i, j, m⟩ σ ⟨hp, rfl⟩ N Q hQ hN
  simp only at hp ⊢
  simp only [go_sem, ↓reduceIte, ↓gA, ↓gB, ↓gC, ↓gD, ↓cA, ↓cB]
  refine (partL6 (s0 := s0) rfl hb hl hr hp rfl (by simp only [go_sem, ↓reduceIte, ↓gA, ↓gB, ↓gC, ↓gD, ↓cA, ↓cB])).mono ?_
  rintro e σ ⟨rfl, i', A, hzi, hp, hex, ⟨h0, h1, h2, h3⟩, rfl⟩
  simp only [go_sem, ↓reduceIte, ↓gA, ↓gB, ↓gC, ↓gD, ↓cA, ↓cB]
  refine (partL8 rfl hb hl hr hp rfl ⟨h0, h1, h2, h3⟩).mono ?_
  rintro e σ ⟨rfl, j', A, hzj, hp, hex2, ⟨h0, h1, h2, h3⟩, rfl⟩
  have b0 := hp.ai; have b1 := hp.ij; have b2 := hp.jb; have b3 := hp.aj
  have hml := hp.seg.len
  by_cases hij : i' ≤ j'
  ·have hgt : ¬ j' < i' := by omega
   have b5 : i' < l.length := by omega
   have b5' : i' < m.length := by omega
   have b6 : j' < l.length := by omega
   have b6' : j' < m.length := by omega
   have w2 : IntKind.i64.wrap ((i' : Int) + 1) = ((i' + 1 : Nat) : Int) := by rw [wrapI] <;> omega
   have w3 : IntKind.i64.wrap ((j' : Int) - 1) = ((j' - 1 : Nat) : Int) := by rw [wrapI] <;> omega
   simp only [go_sem, ↓reduceIte, ↓gA, ↓gB, ↓gC, ↓gD, ↓cA, ↓cB, h0, h1, h2, h3, Int.ofNat_lt, hgt, b5, b5', b6, b6', dh_get hr, w2, w3]
   refine ⟨by simpa using b6', hN (i' + 1, j' - 1, sw m i' j') _ (by simp only; omega) ⟨hp.swap hb hij (hex (by omega)) (hex2 hij), ?_⟩⟩
   simp only [go_sem, ↓reduceIte, ↓gA, ↓gB, ↓gC, ↓gD, ↓cA, ↓cB, h0, h1, sw]
  ·have hgt : j' < i' := by omega
   subst hQ
   simp only [go_sem, ↓reduceIte, ↓gA, ↓gB, ↓gC, ↓gD, ↓cA, ↓cB, h0, h1, h2, h3, Int.ofNat_lt, hgt]
   exact ⟨m, i', j', _, hp, hij, by simp only [go_sem, ↓reduceIte, ↓gA, ↓gB, ↓gC, ↓gD, ↓cA, ↓cB, h0, h1, h2, h3], rfl⟩
 ·refine ⟨hp, ?_⟩
  simp only [go_sem, ↓reduceIte, ↓gA, ↓gB, ↓gC, ↓gD, ↓cA, ↓cB, h0, h1, h2, h3]
theorem partI_ok {l : List Int} {a b p : Nat} (hap : a ≤ p) (hpb : p < b) (hb : b ≤ l.length) (hl : l.length ≤ 1000000) {t : List AV} {lp : List Lp} {H : List Ob} {r st ss s0 bs : Nat} {K : AV → St → Prop} {L : Nat} (hL : l.length = L) (hr : r < H.length)
 (hK : ∀ l' j v, PPost l l' a b j → K (.tup [I (j : Nat), Bo v]) ⟨t, dh H r st ss l', lp⟩) : WpCall G f_slices_partitionOrdered_int_ [.sl r st [] s0 0 L, I a, I b, I p] bs [] ⟨t, dh H r st ss l, lp⟩ K := by
 subst hL
 refine wpCall_S g_slices_partitionOrdered_int_ rfl ?_
 rw [entry_aT (by simp)]
 have wa : IntKind.i64.wrap ((a : Int) + 1) = ((a + 1 : Nat) : Int) := by rw [wrapI] <;> omega
 have wb : IntKind.i64.wrap ((b : Int) - 1) = ((b - 1 : Nat) : Int) := by rw [wrapI] <;> omega
 have a1 : a < l.length := by omega
 have p1 : p < l.length := by omega
 simp only [go_sem, ↓reduceIte, ↓gA, ↓gB, ↓gC, ↓gD, ↓cA, ↓cB, c_slices_partitionOrdered_int_, wa, wb, a1, p1, dh_get hr, Int.ofNat_lt]
 refine ⟨by simpa using p1, ?_⟩
 have hst := PInv.start (l := l) hb hap hpb
 have hsw : (l.set a l[p]!).set p l[a]! = sw l a p := rfl
 rw [hsw]
 refine (partL0 (s0 := s0) rfl hb hl hr hst rfl (by simp only [go_sem, ↓reduceIte, ↓gA, ↓gB, ↓gC, ↓gD, ↓cA, ↓cB])).mono ?_
 rintro e σ ⟨rfl, i', A, hzi, hp, hex, ⟨h0, h1, h2, h3⟩, rfl⟩
 simp only [go_sem, ↓reduceIte, ↓gA, ↓gB, ↓gC, ↓gD, ↓cA, ↓cB]
 refine (partL2 rfl hb hl hr hp rfl ⟨h0, h1, h2, h3⟩).mono ?_
 rintro e σ ⟨rfl, j', A, hzj, hp, hex2, ⟨h0, h1, h2, h3⟩, rfl⟩
 have b0 := hp.ai; have b1 := hp.ij; have b2 := hp.jb; have b3 := hp.aj
 generalize sw l a p = m at *
 have hml := hp.seg.len
 have b4 : a < l.length := by omega
 have b4' : a < m.length := by omega
 have b6 : j' < l.length := by omega
 have b6' : j' < m.length := by omega
 by_cases hij : i' ≤ j'
 ·have hgt : ¬ j' < i' := by omega
  have b5 : i' < l.length := by omega
  have b5' : i' < m.length := by omega
  have w2 : IntKind.i64.wrap ((i' : Int) + 1) = ((i' + 1 : Nat) : Int) := by rw [wrapI] <;> omega
  have w3 : IntKind.i64.wrap ((j' : Int) - 1) = ((j' - 1 : Nat) : Int) := by rw [wrapI] <;> omega
  have hps := hp.swap hb hij (hex (by omega)) (hex2 hij)
  simp only [go_sem, ↓reduceIte, ↓gA, ↓gB, ↓gC, ↓gD, ↓cA, ↓cB, h0, h1, h2, h3, Int.ofNat_lt, hgt, b5, b5', b6, b6', dh_get hr, w2, w3]
  refine ⟨by simpa using b6', ?_⟩
  have hsw2 : (m.set i' m[j']!).set j' m[i']! = sw m i' j' := rfl
  rw [hsw2]
  refine (partL4 (s0 := s0) rfl hb hl hr hps (by simp only [go_sem, ↓reduceIte, ↓gA, ↓gB, ↓gC, ↓gD, ↓cA, ↓cB, h0, h1])).mono ?_
  rintro e σ ⟨rfl, n, i2, j2, A, hp, hij2, ⟨h0, h1, h2, h3⟩, rfl⟩
  have b0 := hp.ai; have b1 := hp.ij; have b2 := hp.jb; have b3 := hp.aj
  have hnl := hp.seg.len
  have c4' : a < n.length := by omega
  have c6 : j2 < l.length := by omega
  have c6' : j2 < n.length := by omega
  simp only [go_sem, ↓reduceIte, ↓gA, ↓gB, ↓gC, ↓gD, ↓cA, ↓cB, h0, h1, h2, h3, Int.ofNat_lt, b4, c4', c6, c6', dh_get hr]
  refine ⟨by simpa using c4', ?_⟩
  exact hK _ j2 false (hp.fin hb hij2)
 ·have hgt : j' < i' := by omega
  simp only [go_sem, ↓reduceIte, ↓gA, ↓gB, ↓gC, ↓gD, ↓cA, ↓cB, h0, h1, h2, h3, Int.ofNat_lt, hgt, b4, b4', b6, b6', dh_get hr]
  refine ⟨by simpa using b4', ?_⟩
  exact hK _ j' true (hp.fin hb hij)
end Go.Mw
