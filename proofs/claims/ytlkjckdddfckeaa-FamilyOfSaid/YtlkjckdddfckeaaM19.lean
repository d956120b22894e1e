/- Drawn regions whose operations may meet. -/
import Derived.Test.YtlkjckdddfckeaaM18
set_option linter.unusedVariables false
set_option linter.unusedSimpArgs false
namespace Go.Mw
set_option maxRecDepth 100000
def WpDr (G : Prg) (ops : List Rop) (b : Nat) (σ : St) (K : St → List (Option (List Nat)) → Prop) (u : Tg K := tg) : Prop := WpD G ops b σ K
theorem wp_drwT {G : Prg} {ops : List Rop} {x : Nat × Nat} {prs : List (Nat × Nat)} {b : Nat} {σ : St} {Q : Ex → St → Prop} :
 Wp G (.drw ops (x :: prs)) b σ Q = WpDr G ops b σ (fun σ1 fs => (x :: prs).all (fun p => apart (fs.getD p.1 none) (fs.getD p.2 none)) = true ∧ Q .nrm σ1) := wp_drw
theorem wpDr_congr {G : Prg} {ops : List Rop} {b : Nat} {σ τ : St} {K : St → List (Option (List Nat)) → Prop} (h : σ = τ) : WpDr G ops b σ K = WpDr G ops b τ K := by rw [h]
attribute [congr] wpDr_congr
theorem wpDr_nil {G : Prg} {b : Nat} {σ : St} {K : St → List (Option (List Nat)) → Prop} : WpDr G [] b σ K = K σ [] :=
 propext ⟨fun ⟨n, σ', fs, h, k⟩ => by simp [drwE] at h; obtain ⟨rfl, rfl⟩ := h; exact k, fun k => ⟨0, σ, [], rfl, k⟩⟩
theorem drwE_le {G : Prg} {n m : Nat} (h : n ≤ m) {ops : List Rop} {b : Nat} {σ : St} {r : St × List (Option (List Nat))} (hx : drwE G (evO G n) ops b σ = some r) : drwE G (evO G m) ops b σ = some r :=
 drwE_mono (fun i b σ r h2 => (monoLe h).2.1 i b σ r h2) _ _ _ _ hx
theorem wpI_ex {G : Prg} {i : Ins} {b : Nat} {σ : St} {k : AV → St → Prop} : wpI G i b σ k ↔ ∃ n v σ1, evO G n i b σ = some (v, σ1) ∧ k v σ1 := by
 have h := wpO_cons (G := G) (d := none) (i := i) (os := []) (b := b) (σ := σ) (K := fun _ => True)
 have key : ∀ k : AV → St → Prop, wpI G i b σ k = ∃ n v σ1, evO G n i b σ = some (v, σ1) ∧ k v σ1 := by
  intro k
  cases i with
  | call f xs ss =>
    refine propext ⟨fun ⟨n, v, σ1, h1, h2⟩ => ⟨n + 1, v, σ1, h1, h2⟩, fun ⟨n, v, σ1, h1, h2⟩ => ?_⟩
    cases n with
    | zero => simp [evO] at h1
    | succ n => exact ⟨n, v, σ1, h1, h2⟩
  | calv x xs ss =>
    show calvK G (σ.get x) (σ.gets xs) b ss σ k = _
    cases hx : σ.get x with
    | fn f cs =>
      refine propext ⟨fun ⟨n, v, σ1, h1, h2⟩ => ⟨n + 1, v, σ1, by rw [evO, hx]; exact h1, h2⟩, fun ⟨n, v, σ1, h1, h2⟩ => ?_⟩
      cases n with
      | zero => simp [evO] at h1
      | succ n => rw [evO, hx] at h1; exact ⟨n, v, σ1, h1, h2⟩
    | yld l =>
      refine propext ⟨fun ⟨n, v, σ1, h1, h2⟩ => ⟨n + 1, v, σ1, by rw [evO, hx]; exact h1, h2⟩, fun ⟨n, v, σ1, h1, h2⟩ => ?_⟩
      cases n with
      | zero => simp [evO] at h1
      | succ n => rw [evO, hx] at h1; exact ⟨n, v, σ1, h1, h2⟩
    | _ =>
      refine propext ⟨fun h => h.elim, fun ⟨n, v, σ1, h1, h2⟩ => ?_⟩
      cases n with
      | zero => simp [evO] at h1
      | succ n => simp [evO, hx] at h1
  | _ =>
    refine propext ⟨fun h => ?_, fun ⟨n, v, σ1, h1, h2⟩ => ?_⟩
    ·refine ⟨1, ?_⟩
     rw [evO_plain rfl]
     simp only [wpI, stepK] at h
     split at h
     ·rename_i v h' hx; exact ⟨v, { σ with h := h' }, rfl, h⟩
     ·exact h.elim
    ·cases n with
     | zero => simp [evO] at h1
     | succ n =>
       rw [evO_plain rfl] at h1
       simp only [wpI, stepK]
       split at h1
       ·rename_i v' h' hx; simp only [Option.some.injEq, Prod.mk.injEq] at h1; obtain ⟨rfl, rfl⟩ := h1; exact h2
       ·cases h1
 rw [key k]
theorem wpDr_cons {G : Prg} {d : Option Nat} {i : Ins} {os : List Rop} {b : Nat} {σ : St} {K : St → List (Option (List Nat)) → Prop} :
 WpDr G (⟨d, i, none⟩ :: os) b σ K = wpI G i b σ (fun v σ1 => WpDr G os b (σ1.put d v) (fun σ2 fs => K σ2 (foot G b i σ :: fs))) := by
 refine propext ⟨fun ⟨n, σ', fs, h, k⟩ => ?_, fun h => ?_⟩
 ·rw [wpI_ex]
  simp only [drwE, wantedO] at h
  cases hx : evO G n i b σ with
  | none => simp [hx] at h
  | some p =>
    obtain ⟨v, σ1⟩ := p
    simp only [hx] at h
    cases hy : drwE G (evO G n) os b (σ1.put d v) with
    | none => simp [hy] at h
    | some q =>
      obtain ⟨σ2, fs2⟩ := q
      simp only [hy, Option.some.injEq, Prod.mk.injEq] at h
      obtain ⟨rfl, rfl⟩ := h
      exact ⟨n, v, σ1, hx, n, σ2, fs2, hy, k⟩
 ·rw [wpI_ex] at h
  obtain ⟨n, v, σ1, h1, m, σ2, fs, h2, k⟩ := h
  refine ⟨max n m, σ2, foot G b i σ :: fs, ?_, k⟩
  simp only [drwE, wantedO, (monoLe (Nat.le_max_left n m)).2.1 _ _ _ _ h1, drwE_le (Nat.le_max_right n m) h2]
attribute [go_sem] wp_drwT wpDr_nil wpDr_cons
/-! #### feet -/
section
variable {G : Prg} {b : Nat} {σ : St} {x y z : Opd}
theorem foot_bxf : foot G b (.bxf x) σ = some [] := (rfl)
theorem foot_mov  : foot G b (.mov x) σ = some [] := (rfl)
theorem foot_pick  : foot G b (.pick x y z) σ = some [] := (rfl)
theorem foot_bin {op : BinOp} : foot G b (.bin op x y) σ = some [] := (rfl)
theorem foot_beq {ng : Bool} : foot G b (.beq ng x y) σ = some [] := (rfl)
theorem foot_un {uo : UnOp} : foot G b (.un uo x) σ = some [] := (rfl)
theorem foot_cvi {kk : IntKind} : foot G b (.cvi kk x) σ = some [] := (rfl)
theorem foot_ext {n : Nat} : foot G b (.ext x n) σ = some [] := (rfl)
theorem foot_lens  : foot G b (.lens x) σ = some [] := (rfl)
theorem foot_idx  : foot G b (.idx x y) σ = some [] := (rfl)
theorem foot_ixa {ag : Bool} {n : Nat} {m : Nat} : foot G b (.ixa ag n m x y) σ = some [] := (rfl)
theorem foot_fld {ag : Bool} {n : Nat} {m : Nat} : foot G b (.fld ag n m x) σ = some [] := (rfl)
theorem foot_ld {ag : Bool} {n : Nat} : foot G b (.ld ag n x) σ = some (rootsL [σ.get x]) := (rfl)
theorem foot_fad {n : Nat} : foot G b (.fad n x) σ = some (rootsL [σ.get x]) := (rfl)
theorem foot_lenl  : foot G b (.lenl x) σ = some (rootsL [σ.get x]) := (rfl)
theorem foot_lenm  : foot G b (.lenm x) σ = some (rootsL [σ.get x]) := (rfl)
theorem foot_sto {n : Nat} : foot G b (.sto n x y) σ = some (rootsL [σ.get x, σ.get y]) := (rfl)
theorem foot_iad {n : Nat} : foot G b (.iad n x y) σ = some (rootsL [σ.get x, σ.get y]) := (rfl)
theorem foot_iaa {n : Nat} {m : Nat} : foot G b (.iaa n m x y) σ = some (rootsL [σ.get x, σ.get y]) := (rfl)
theorem foot_nilc {ng : Bool} : foot G b (.nilc ng x y) σ = some (rootsL [σ.get x, σ.get y]) := (rfl)
theorem foot_alc {s n : Nat} {z : AV} : foot G b (.alc s n z) σ = some [b + s] := (rfl)
theorem foot_box {s n : Nat} : foot G b (.box s n x) σ = some ((b + s) :: rootsL [σ.get x]) := (rfl)
theorem foot_app {s n m : Nat} : foot G b (.app s n m x y) σ = some ((b + s) :: rootsL [σ.get x, σ.get y]) := (rfl)
theorem foot_mks {s n m : Nat} {z : AV} : foot G b (.mks s n m z x y) σ = some ((b + s) :: rootsL [σ.get x, σ.get y]) := (rfl)
theorem foot_bsl {s n m : Nat} {xs : List Opd} : foot G b (.bsl s n m xs) σ = some ((b + s) :: rootsL (σ.gets xs)) := (rfl)
theorem foot_bld {zs : List AV} {ps : List (Nat × Nat × Opd)} : foot G b (.bld zs ps) σ = some (rootsL (σ.gets (ps.map (·.2.2)))) := (rfl)
def footV (G : Prg) (v : AV) (ys : List AV) : Option (List Nat) :=
 match v with
 | .fn f cs => match G f with
   | some F => if F.pure then some (rootsL (ys ++ cs)) else none
   | none => none
 | _ => none
theorem foot_calv {xs : List Opd} : foot G b (.calv x xs []) σ = footV G (σ.get x) (σ.gets xs) := by
 simp only [foot, footV]
 generalize σ.get x = v
 cases v <;> first | rfl | (simp only [List.map_nil, List.nil_append])
theorem footV_fn {f : FuncId} {cs ys : List AV} (h : PureF G f) : footV G (.fn f cs) ys = some (rootsL (ys ++ cs)) := by
 obtain ⟨F, h1, h2⟩ := h
 simp [footV, h1, h2]
theorem foot_call {f : FuncId} {xs : List Opd} (h : PureF G f) : foot G b (.call f xs []) σ = some (rootsL (σ.gets xs)) := by
 obtain ⟨F, h1, h2⟩ := h
 simp [foot, h1, h2]
end
attribute [go_sem] foot_calv footV_fn foot_bxf foot_mov foot_pick foot_bin foot_beq foot_un foot_cvi foot_ext foot_lens foot_idx foot_ixa foot_fld foot_ld foot_fad foot_lenl foot_lenm foot_sto foot_iad foot_iaa foot_nilc foot_alc foot_box foot_app foot_mks foot_bsl foot_bld foot_call
theorem rootsL_nil' : rootsL [] = [] := (rfl)
theorem rootsL_cons' {x : AV} {xs : List AV} : rootsL (x :: xs) = rootsOf x ++ rootsL xs := (rfl)
theorem roots_int {κ : IntKind} {n : Int} : rootsOf (.int κ n) = [] := (rfl)
theorem roots_bool {v : Bool} : rootsOf (.bool v) = [] := (rfl)
theorem roots_str {v : ByteArray} : rootsOf (.str v) = [] := (rfl)
theorem roots_lst {v : List AV} : rootsOf (.lst v) = [] := (rfl)
theorem roots_nils : rootsOf .nils = [] := (rfl)
theorem roots_emp : rootsOf .emp = [] := (rfl)
theorem roots_undef : rootsOf .undef = [] := (rfl)
theorem roots_pfro {v : List AV} : rootsOf (.pfro v) = [] := (rfl)
theorem roots_sl {r st : Nat} {p : Path} {ss off len : Nat} : rootsOf (.sl r st p ss off len) = [r] := (rfl)
theorem roots_ptr {r st : Nat} {p : Path} {ss i j : Nat} : rootsOf (.ptr r st p ss i j) = [r] := (rfl)
theorem roots_mp {r st : Nat} {p : Path} {ss : Nat} : rootsOf (.mp r st p ss) = [r] := (rfl)
theorem roots_agg {v : List AV} : rootsOf (.agg v) = rootsL v := (rfl)
theorem roots_tup {v : List AV} : rootsOf (.tup v) = rootsL v := (rfl)
theorem roots_fn {f : FuncId} {v : List AV} : rootsOf (.fn f v) = rootsL v := (rfl)
def may (xs : List AV) (r : Nat) : List Nat := if xs = [] then [] else [r]
theorem roots_row {e : AV} {es r st : Nat} {xs : List AV} (he : e.void = true) : rootsOf (rowv e es r st xs) = may xs r := by
 unfold rowv may; split
 ·cases e <;> first | rfl | (simp [AV.void] at he)
 ·rfl
theorem roots_cell {e : AV} {es r st ss : Nat} {p : Path} {xs : List AV} (he : e.void = true) : rootsOf (rowc e es r st p ss xs) = may xs r := by
 unfold rowc may; split
 ·cases e <;> first | rfl | (simp [AV.void] at he)
 ·rfl
def notIn (r : Nat) (l : List Nat) : Prop := l.contains r = false
def noneIn (a b : List Nat) : Prop := (a.all fun r => !b.contains r) = true
theorem apart_0 {b : Option (List Nat)} : (apart (some []) b = true) = True := by simp [apart]
theorem apart_1 {x : Nat} {a b : List Nat} : (apart (some (x :: a)) (some b) = true) = noneIn (x :: a) b := by
 unfold noneIn; cases b with
 | nil => simp [apart]
 | cons y b => rfl
theorem apart_m {xs : List AV} {r : Nat} {a b : List Nat} : (apart (some (may xs r ++ a)) (some b) = true) = noneIn (may xs r ++ a) b := by
 unfold noneIn may
 split
 ·cases a with
  | nil => simp [apart]
  | cons x a => cases b <;> simp [apart]
 ·cases b <;> simp [apart]
theorem apart_m0 {xs : List AV} {r : Nat} {b : List Nat} : (apart (some (may xs r)) (some b) = true) = noneIn (may xs r) b := by
 have := @apart_m xs r [] b; rwa [List.append_nil] at this
theorem noneIn_nil {b : List Nat} : noneIn [] b = True := by simp [noneIn]
theorem noneIn_cons {x : Nat} {a b : List Nat} : noneIn (x :: a) b = (notIn x b ∧ noneIn a b) := by simp [noneIn, notIn]
theorem noneIn_may {xs : List AV} {r : Nat} {a b : List Nat} : noneIn (may xs r ++ a) b = ((xs ≠ [] → notIn r b) ∧ noneIn a b) := by
 unfold may; by_cases h : xs = [] <;> simp [h, noneIn, notIn]
theorem noneIn_may0 {xs : List AV} {r : Nat} {b : List Nat} : noneIn (may xs r) b = (xs ≠ [] → notIn r b) := by
 unfold may; by_cases h : xs = [] <;> simp [h, noneIn, notIn]
theorem notIn_nil {x : Nat} : notIn x [] = True := by simp [notIn]
theorem notIn_cons {x y : Nat} {b : List Nat} : notIn x (y :: b) = (¬ x = y ∧ notIn x b) := by simp [notIn]
theorem notIn_may {x : Nat} {xs : List AV} {r : Nat} {b : List Nat} : notIn x (may xs r ++ b) = ((xs ≠ [] → ¬ x = r) ∧ notIn x b) := by
 unfold may; by_cases h : xs = [] <;> simp [h, notIn]
theorem notIn_may0 {x : Nat} {xs : List AV} {r : Nat} : notIn x (may xs r) = (xs ≠ [] → ¬ x = r) := by
 unfold may; by_cases h : xs = [] <;> simp [h, notIn]
theorem all_pr {α : Type} {x : α} {l : List α} {q : α → Bool} : ((x :: l).all q = true) = (q x = true ∧ l.all q = true) := by simp
theorem all_pr0 {α : Type} {q : α → Bool} : (([] : List α).all q = true) = True := by simp
theorem pr_and {a b : Bool} : ((a && b) = true) = (a = true ∧ b = true) := by cases a <;> cases b <;> simp
attribute [go_sem] pr_and rootsL_nil' rootsL_cons' roots_int roots_bool roots_str roots_lst roots_nils roots_emp roots_undef roots_pfro roots_sl roots_ptr roots_mp roots_agg roots_tup roots_fn roots_row roots_cell apart_0 apart_1 apart_m apart_m0 noneIn_may0 notIn_may0 noneIn_nil noneIn_cons noneIn_may notIn_nil notIn_cons notIn_may all_pr all_pr0
end Go.Mw
/- The same? small or not? -/
namespace Go.Mw
set_option maxRecDepth 100000
theorem sameS_ok (l : List ByteArray) (hl : l.length ≤ 1048576) : FnT G f_r01_SameStrings [.lst (l.map .str), .lst (l.map .str)] (Bo true) := by
 refine FnP.mk' g_r01_SameStrings rfl rfl ?_
 simp only [go_sem, ↓reduceIte, ↓gA, ↓gB, ↓gC, ↓gD, ↓cA, ↓cB, bne_self_eq_false, c_r01_SameStrings]
 refine wp_loopQ (fun (i : Nat) σ => i ≤ l.length ∧ σ = ⟨aT .undef 26 [(1, .lst (l.map .str)), (12, .lst (l.map .str)), (13, I l.length), (14, I i)], [], []⟩) (fun i => l.length - i) ?_ 0 ?_
 ·rintro i σ ⟨hi, rfl⟩ N Q hQ hN
  by_cases hlt : i < l.length
  ·simp only [go_sem, ↓reduceIte, ↓gA, ↓gB, ↓gC, ↓gD, ↓cA, ↓cB, bne_self_eq_false, wrap_succ hlt (by omega), Int.ofNat_lt, hlt]
   refine hN (i + 1) _ (by omega) ⟨by omega, ?_⟩
   simp only [go_sem, ↓reduceIte, ↓gA, ↓gB, ↓gC, ↓gD, ↓cA, ↓cB, bne_self_eq_false]
  ·subst hQ
   simp only [go_sem, ↓reduceIte, ↓gA, ↓gB, ↓gC, ↓gD, ↓cA, ↓cB, bne_self_eq_false, Int.ofNat_lt, hlt]
 ·exact ⟨by omega, by simp only [go_sem, ↓reduceIte, ↓gA, ↓gB, ↓gC, ↓gD, ↓cA, ↓cB]⟩
theorem sameI_ok (l : List Int) (hl : l.length ≤ 1048576) : FnT G f_r01_SameInts [.lst (l.map I), .lst (l.map I)] (Bo true) := by
 refine FnP.mk' g_r01_SameInts rfl rfl ?_
 simp only [go_sem, ↓reduceIte, ↓gA, ↓gB, ↓gC, ↓gD, ↓cA, ↓cB, bne_self_eq_false, c_r01_SameInts]
 refine wp_loopQ (fun (i : Nat) σ => i ≤ l.length ∧ σ = ⟨aT .undef 26 [(1, .lst (l.map I)), (12, .lst (l.map I)), (13, I l.length), (14, I i)], [], []⟩) (fun i => l.length - i) ?_ 0 ?_
 ·rintro i σ ⟨hi, rfl⟩ N Q hQ hN
  by_cases hlt : i < l.length
  ·simp only [go_sem, ↓reduceIte, ↓gA, ↓gB, ↓gC, ↓gD, ↓cA, ↓cB, bne_self_eq_false, wrap_succ hlt (by omega), Int.ofNat_lt, hlt]
   refine hN (i + 1) _ (by omega) ⟨by omega, ?_⟩
   simp only [go_sem, ↓reduceIte, ↓gA, ↓gB, ↓gC, ↓gD, ↓cA, ↓cB, bne_self_eq_false]
  ·subst hQ
   simp only [go_sem, ↓reduceIte, ↓gA, ↓gB, ↓gC, ↓gD, ↓cA, ↓cB, bne_self_eq_false, Int.ofNat_lt, hlt]
 ·exact ⟨by omega, by simp only [go_sem, ↓reduceIte, ↓gA, ↓gB, ↓gC, ↓gD, ↓cA, ↓cB]⟩
section
variable {fr : Bool} {roots : List Nat} {b : Nat} {ss : List Nat} {σ : St} {k : AV → St → Prop}
theorem sameS_r {l : List ByteArray} (hl : l.length ≤ 1048576) : callT G f_r01_SameStrings [.lst (l.map .str), .lst (l.map .str)] fr roots b ss σ k = k (Bo true) σ := (sameS_ok l hl).rule
theorem sameI_r {l : List Int} (hl : l.length ≤ 1048576) : callT G f_r01_SameInts [.lst (l.map I), .lst (l.map I)] fr roots b ss σ k = k (Bo true) σ := (sameI_ok l hl).rule
end
structure SpSz (t : Spc) : Prop where
 a : t.acts.length ≤ 1048576
 s : t.S.length ≤ 1048576
 x : ∀ i < t.S.length, t.S[i]!.A.length ≤ 1048576 ∧ t.S[i]!.X.length ≤ 1048576
theorem same_ok (s : Spc) (hs : SpSz s) : FnT G f_r03_Same [eSp s, eSp s] (Bo true) := by
 refine FnP.mk' g_r03_Same rfl rfl ?_
 simp only [go_sem, ↓reduceIte, ↓gA, ↓gB, ↓gC, ↓gD, ↓cA, ↓cB, bne_self_eq_false, c_r03_Same, eSp, sameS_r hs.a]
 refine wp_loopQ (fun (i : Nat) σ => i ≤ s.S.length ∧ ∃ a c, σ = ⟨aT .undef 53 [(3, .ptr 1 1 [] 0 0 0), (23, .lst (s.S.map eSt)), (24, I s.S.length), (25, I i)], [⟨1, 0, .own 2 [.agg [.lst (s.acts.map .str), .lst (s.S.map eSt)]]⟩, ⟨1, 0, .own 2 [.agg [.lst (s.acts.map .str), .lst (s.S.map eSt)]]⟩, ⟨a, c, .gone⟩], []⟩) (fun i => s.S.length - i) ?_ 0 ?_
 ·rintro i σ ⟨hi, a, c, rfl⟩ N Q hQ hN
  have hS := hs.s
  by_cases hlt : i < s.S.length
  ·obtain ⟨h1, h2⟩ := hs.x i hlt
   simp only [go_sem, ↓reduceIte, ↓gA, ↓gB, ↓gC, ↓gD, ↓cA, ↓cB, bne_self_eq_false, eSt, wrap_succ hlt (by omega), Int.ofNat_lt, hlt, sameI_r h1, sameI_r h2]
   refine hN (i + 1) _ (by omega) ⟨by omega, ?_⟩
   simp only [go_sem, ↓reduceIte, ↓gA, ↓gB, ↓gC, ↓gD, ↓cA, ↓cB, bne_self_eq_false]
   repeat apply Exists.intro
   rfl
  ·subst hQ
   simp only [go_sem, ↓reduceIte, ↓gA, ↓gB, ↓gC, ↓gD, ↓cA, ↓cB, bne_self_eq_false, Int.ofNat_lt, hlt]
 ·refine ⟨by omega, ?_⟩
  simp only [go_sem, ↓reduceIte, ↓gA, ↓gB, ↓gC, ↓gD, ↓cA, ↓cB, bne_self_eq_false]
  repeat apply Exists.intro
  rfl
end Go.Mw
/- Small or not: only that there is an answer. -/
namespace Go.Mw
set_option maxRecDepth 100000
theorem FnP.flat {f : FuncId} {xs : List AV} (h : FnP G f xs fun rs h => ∃ v, packV (treeBL 0 h rs) = Bo v ∧ rs.all AV.flats = true) : ∃ v, FnT G f xs (Bo v) := by
 obtain ⟨F, n, rs, σ1, hf, h1, h2, h3, h4, hr, v, hR⟩ := h
 exact ⟨v, F, n, rs, σ1, hf, h1, h2, h3, h4, hr, hR⟩
end Go.Mw
/- Check and Product, as a caller sees them. -/
namespace Go.Mw
set_option maxRecDepth 100000
theorem choOk_at {l : List Ch} {most : Int} {p : Int → Bool} (h : choOk l most p = true) : ∀ i < l.length, p l[i]!.N = true ∧ 1 ≤ l[i]!.W ∧ l[i]!.W < most ∧ (0 < i → l[i-1]!.N < l[i]!.N) := by
 unfold choOk at h; rw [decide_eq_true_eq] at h; exact h
theorem choOk_W {l : List Ch} {pr : Nat} {p : Int → Bool} (hp : pr ≤ 32) (h : choOk l ((2 ^ pr : Nat) : Int) p = true) : WOk l := by
 intro i hi
 obtain ⟨_, h1, h2, _⟩ := choOk_at h i hi
 have h3 : (2 : Nat) ^ pr ≤ 2 ^ 32 := Nat.pow_le_pow_right (by omega) hp
 exact ⟨l[i]!.W.toNat, by omega, by omega⟩
theorem FamOk.w {f : Fam} (h : FamOk f) : FWOk f := by
 have h32 : f.P.toNat ≤ 32 := by have := h.p2; omega
 exact ⟨fun i hi => choOk_W h32 (h.plan i hi).acc, fun i hi j hj => choOk_W h32 ((h.plan i hi).nxt j hj).1⟩
section
variable {fr : Bool} {roots : List Nat} {b : Nat} {ss : List Nat} {σ : St} {k : AV → St → Prop}
theorem prodR_r {f : Fam} (hf : FSz f) (hw : FWOk f) {p : Nat} : callT G f_r16_Product [.agg [.lst (f.acts.map .str), I f.P, .lst (f.S.map eP)], I p] true roots b ss σ k = k (eSp (prodOf f p)) σ := (prodR_ok f hf hw p).rule
end
end Go.Mw
/- A copy of a family. -/
namespace Go.Mw
set_option maxRecDepth 100000
end Go.Mw
/- The check that a law's eyes are open. -/
namespace Go.Mw
set_option maxRecDepth 100000
def isTrue : Option (List AV × St) → Bool
 | some ([.bool true], _) => true
 | _ => false
theorem isTrue_at {x : Option (List AV × St)} (h : isTrue x = true) : ∃ σ, x = some ([.bool true], σ) := by
 unfold isTrue at h
 split at h
 ·rename_i σ; exact ⟨σ, rfl⟩
 ·cases h
theorem awake_run : isTrue (runF G 400 F_w16_awake [] [] []) = true := by decide +kernel
theorem awake_ok : FnT G f_w16_awake [] (Bo true) := by
 obtain ⟨σ, h⟩ := isTrue_at awake_run
 exact ⟨F_w16_awake, 400, _, σ, g_w16_awake, rfl, rfl, rfl, rfl, h, rfl, rfl⟩
end Go.Mw
/- The law of products. -/
namespace Go.Mw
set_option maxRecDepth 100000
section
variable {fr : Bool} {roots : List Nat} {b : Nat} {ss : List Nat} {σ : St} {k : AV → St → Prop}
theorem awake_r : callT G f_w16_awake [] fr roots b ss σ k = k (Bo true) σ := awake_ok.rule
theorem same_r {s : Spc} (hs : SpSz s) : callT G f_r03_Same [.agg [.lst (s.acts.map .str), .lst (s.S.map eSt)], .agg [.lst (s.acts.map .str), .lst (s.S.map eSt)]] fr roots b ss σ k = k (Bo true) σ := (same_ok s hs).rule
end
end Go.Mw
/- Numbers below one, as a set. -/
namespace Go.Mw
set_option maxRecDepth 100000
def bitsN (p : Nat → Bool) : Nat → Nat
 | 0 => 0
 | j + 1 => if p j then bitsN p j ||| 2 ^ j else bitsN p j
theorem bitsN_succ {p : Nat → Bool} {j : Nat} : bitsN p (j + 1) = if p j then bitsN p j ||| 2 ^ j else bitsN p j := (rfl)
theorem bitsN_test {p : Nat → Bool} {n a : Nat} : (bitsN p n).testBit a = (decide (a < n) && p a) := by
 induction n with
 | zero => simp [bitsN]
 | succ n ih =>
   rw [bitsN_succ]
   split
   ·rename_i h
    rw [Nat.testBit_or, ih, Nat.testBit_two_pow]
    by_cases e : n = a
    ·subst e; simp [h]
    ·have h1 : decide (a < n + 1) = decide (a < n) := by apply decide_eq_decide.2; omega
     simp [e, h1]
   ·rename_i h
    rw [ih]
    by_cases e : n = a
    ·subst e; simp [h]
    ·have h1 : decide (a < n + 1) = decide (a < n) := by apply decide_eq_decide.2; omega
     rw [h1]
theorem bitsN_lt {p : Nat → Bool} {n : Nat} : bitsN p n < 2 ^ n := by
 apply Nat.lt_pow_two_of_testBit
 intro i hi
 rw [bitsN_test]; simp; omega
theorem bitsN_63 {p : Nat → Bool} {n : Nat} (hn : n ≤ 32) : bitsN p n < 2 ^ 63 := Nat.lt_of_lt_of_le bitsN_lt (Nat.pow_le_pow_right (by omega) (by omega))
theorem bitsN_bor {p : Nat → Bool} {n : Nat} (hn : n ≤ 32) : bor .i64 (bitsN p n : Int) ((2 ^ n : Nat) : Int) = ((bitsN p n ||| 2 ^ n : Nat) : Int) := bor_nat (bitsN_63 hn) (Nat.pow_lt_pow_right (by omega) (by omega))
end Go.Mw
/- Products that are kept: sets of new numbers. -/
namespace Go.Mw
set_option maxRecDepth 100000
end Go.Mw
/- A family that is restricted to some products: reference. -/
namespace Go.Mw
set_option maxRecDepth 100000
end Go.Mw
/- The products for which something holds. -/
namespace Go.Mw
set_option maxRecDepth 100000
end Go.Mw
/- A family that is restricted to some products. -/
namespace Go.Mw
set_option maxRecDepth 100000
end Go.Mw
/- family.Restrict. -/
namespace Go.Mw
set_option maxRecDepth 100000
section
variable {fr : Bool} {roots : List Nat} {b : Nat} {ss : List Nat} {σ : St} {k : AV → St → Prop}
end
end Go.Mw
/- Families that are the same; the law of restricting. -/
namespace Go.Mw
set_option maxRecDepth 100000
end Go.Mw
/- The law of restricting. -/
namespace Go.Mw
set_option maxRecDepth 100000
theorem Fn.ruleM {f : FuncId} {xs : List AV} {r : AV} (h : Fn G f xs r) {fr : Bool} {roots : List Nat} {b : Nat} {ss : List Nat} {σ : St} {k : AV → St → Prop} (hk : ∀ h', (h' = σ.h ∨ h' = dropRoots σ.h roots) → k r ⟨σ.t, h', σ.lp⟩) : callT G f xs fr roots b ss σ k := by
 cases fr with
 | true => rw [h.rule]; exact hk _ (.inl rfl)
 | false => exact h.rule2 (hk _ (.inl rfl)) (hk _ (.inr rfl))
end Go.Mw
/- Hollow states: what they are, and how the reference finds them. -/
namespace Go.Mw
set_option maxRecDepth 100000
def hasA (set : Int) (a : Nat) : Bool := set.toNat.testBit a
def Dies (x : Stt) (P : Nat → Prop) (set : Int) : Prop := ∃ a < x.X.length, 0 ≤ x.X[a]! ∧ hasA set a = true ∧ P x.X[a]!.toNat
def AllDie (x : Stt) (P : Nat → Prop) : Prop := ∀ i < x.A.length, Dies x P x.A[i]!
def ClosedH (s : Spc) (P : Nat → Prop) : Prop := ∀ x < s.S.length, AllDie s.S[x]! P → P x
def Hol (s : Spc) (x : Nat) : Prop := x < s.S.length ∧ ∀ P, ClosedH s P → P x
theorem Dies.mono {x : Stt} {P Q : Nat → Prop} {set : Int} (h : Dies x P set) (hq : ∀ k, P k → Q k) : Dies x Q set := by
 obtain ⟨a, h1, h2, h3, h4⟩ := h; exact ⟨a, h1, h2, h3, hq _ h4⟩
theorem AllDie.mono {x : Stt} {P Q : Nat → Prop} (h : AllDie x P) (hq : ∀ k, P k → Q k) : AllDie x Q := fun i hi => (h i hi).mono hq
theorem Hol.closed (s : Spc) : ClosedH s (Hol s) := fun x hx h => ⟨hx, fun P hP => hP x hx (h.mono fun k hk => hk.2 P hP)⟩
theorem hol_iff {s : Spc} {P : Nat → Prop} (h1 : ∀ x < s.S.length, P x → Hol s x) (h2 : ClosedH s P) {x : Nat} (hx : x < s.S.length) : P x ↔ Hol s x := ⟨h1 x hx, fun h => h.2 P h2⟩
def inB (l : List Bool) (x : Nat) : Prop := l[x]! = true
structure StB (z : Stt) (n : Nat) : Prop where
 a : ∀ i < z.A.length, 0 ≤ z.A[i]! ∧ z.A[i]! < 2 ^ 62
 x : ∀ i < z.X.length, z.X[i]! < (n : Int)
 la : z.A.length ≤ 1048576
 lx : z.X.length ≤ 1048576
theorem StB.nat {x : Stt} {n : Nat} (h : StB x n) {i : Nat} (hi : i < x.A.length) : ∃ k : Nat, x.A[i]! = k ∧ k < 2 ^ 62 := by
 have := h.a i hi
 exact ⟨x.A[i]!.toNat, by omega, by omega⟩
open Classical in
theorem falls_ok (x : Stt) (set : Nat) (hs : set < 2 ^ 62) (l : List Bool) (h : StB x l.length) : FnT G f_r04_falls [eSt x, I set, .lst (l.map Bo)] (Bo (decide (Dies x (inB l) set))) := by
 refine FnP.mk' g_r04_falls rfl rfl ?_
 have hX := h.lx
 simp only [go_sem, ↓reduceIte, ↓gA, ↓gB, ↓gC, ↓gD, ↓cA, ↓cB, c_r04_falls, eSt]
 refine wp_loopQ (fun (i : Nat) σ => i ≤ x.X.length ∧ (∀ a < i, ¬ (0 ≤ x.X[a]! ∧ hasA set a = true ∧ inB l x.X[a]!.toNat)) ∧ σ = ⟨aT .undef 31 [(1, I set), (2, .lst (l.map Bo)), (10, .lst (x.X.map I)), (11, I x.X.length), (12, I i)], [⟨1, 0, .own 2 [.agg [.lst (x.A.map I), .lst (x.X.map I)]]⟩], []⟩) (fun i => x.X.length - i) ?_ 0 ?_
 ·rintro i σ ⟨hi, hall, rfl⟩ N Q hQ hN
  by_cases hlt : i < x.X.length
  ·have hb := h.x i hlt
   simp only [go_sem, ↓reduceIte, ↓gA, ↓gB, ↓gC, ↓gD, ↓cA, ↓cB, wrap_succ hlt (by omega), Int.ofNat_lt, hlt, hasR_r (show set < 2 ^ 63 by omega)]
   (repeat' (first | intro _ | refine And.intro ?_ ?_)) <;> first
     | omega
     | (subst hQ; simp only [go_sem, ↓reduceIte, ↓gA, ↓gB, ↓gC, ↓gD, ↓cA, ↓cB]; rw [decide_eq_true]; exact ⟨i, hlt, by assumption, by simpa [hasA] using (by assumption : set.testBit i = true), by assumption⟩)
     | (refine hN (i + 1) _ (by omega) ⟨by omega, forall_lt_succ hall (by rintro ⟨h1, h2, h3⟩; simp only [hasA, Int.toNat_natCast] at h2; unfold inB at h3; first | omega | simp_all), ?_⟩; simp only [go_sem, ↓reduceIte, ↓gA, ↓gB, ↓gC, ↓gD, ↓cA, ↓cB])
  ·have : i = x.X.length := by omega
   subst this hQ
   simp only [go_sem, ↓reduceIte, ↓gA, ↓gB, ↓gC, ↓gD, ↓cA, ↓cB, Int.ofNat_lt, hlt]
   rw [decide_eq_false]
   rintro ⟨a, h1, h2⟩
   exact hall a h1 h2
 ·exact ⟨by omega, by simp, by simp only [go_sem, ↓reduceIte, ↓gA, ↓gB, ↓gC, ↓gD, ↓cA, ↓cB]⟩
section
open Classical in
theorem falls_r {x : Stt} {set : Nat} {l : List Bool} (hs : set < 2 ^ 62) (h : StB x l.length) {fr : Bool} {roots : List Nat} {b : Nat} {ss : List Nat} {σ : St} {k : AV → St → Prop} :
 callT G f_r04_falls [.agg [.lst (x.A.map I), .lst (x.X.map I)], I set, .lst (l.map Bo)] fr roots b ss σ k = k (Bo (decide (Dies x (inB l) set))) σ := (falls_ok x set hs l h).rule
end
open Classical in
theorem allFall_ok (x : Stt) (l : List Bool) (h : StB x l.length) : FnT G f_r04_allFall [eSt x, .lst (l.map Bo)] (Bo (decide (AllDie x (inB l)))) := by
 refine FnP.mk' g_r04_allFall rfl rfl ?_
 have hA := h.la
 simp only [go_sem, ↓reduceIte, ↓gA, ↓gB, ↓gC, ↓gD, ↓cA, ↓cB, c_r04_allFall, eSt]
 refine wp_loopQ (fun (i : Nat) σ => i ≤ x.A.length ∧ (∀ j < i, Dies x (inB l) x.A[j]!) ∧ σ = ⟨aT .undef 20 [(1, .lst (l.map Bo)), (2, .ptr 0 1 [] 0 0 0), (8, .lst (x.A.map I)), (9, I x.A.length), (10, I i)], [⟨1, 0, .own 2 [.agg [.lst (x.A.map I), .lst (x.X.map I)]]⟩], []⟩) (fun i => x.A.length - i) ?_ 0 ?_
 ·rintro i σ ⟨hi, hall, rfl⟩ N Q hQ hN
  by_cases hlt : i < x.A.length
  ·obtain ⟨s, e, hs⟩ := h.nat hlt
   simp only [go_sem, ↓reduceIte, ↓gA, ↓gB, ↓gC, ↓gD, ↓cA, ↓cB, wrap_succ hlt (by omega), Int.ofNat_lt, hlt, e, falls_r hs h]
   refine ⟨fun hd => ?_, fun hd => ?_⟩
   rotate_left
   ·refine hN (i + 1) _ (by omega) ⟨by omega, forall_lt_succ hall (by rw [e]; simpa using hd), ?_⟩
    simp only [go_sem, ↓reduceIte, ↓gA, ↓gB, ↓gC, ↓gD, ↓cA, ↓cB]
   ·subst hQ; simp only [go_sem, ↓reduceIte, ↓gA, ↓gB, ↓gC, ↓gD, ↓cA, ↓cB]
    rw [decide_eq_false]
    intro ha
    have := ha i hlt
    rw [e] at this
    simp_all
  ·have : i = x.A.length := by omega
   subst this hQ
   simp only [go_sem, ↓reduceIte, ↓gA, ↓gB, ↓gC, ↓gD, ↓cA, ↓cB, Int.ofNat_lt, hlt]
   rw [decide_eq_true (show AllDie x (inB l) from hall)]
 ·exact ⟨by omega, by simp, by simp only [go_sem, ↓reduceIte, ↓gA, ↓gB, ↓gC, ↓gD, ↓cA, ↓cB]⟩
open Classical in
theorem allFall_r {x : Stt} {l : List Bool} (h : StB x l.length) {fr : Bool} {roots : List Nat} {b : Nat} {ss : List Nat} {σ : St} {k : AV → St → Prop} :
 callT G f_r04_allFall [.agg [.lst (x.A.map I), .lst (x.X.map I)], .lst (l.map Bo)] fr roots b ss σ k = k (Bo (decide (AllDie x (inB l)))) σ := (allFall_ok x l h).rule
structure SpB (s : Spc) : Prop where
 sz : s.S.length ≤ 1048576
 st : ∀ i < s.S.length, StB s.S[i]! s.S.length
def outN (l : List Bool) : Nat := (l.filter fun b => !b).length
theorem outN_set {l : List Bool} {i : Nat} (hi : i < l.length) (h : l[i]! = false) : outN (l.set i true) + 1 = outN l := by
 induction l generalizing i with
 | nil => simp at hi
 | cons b l ih =>
   cases i with
   | zero => simp at h; subst h; simp [outN]
   | succ i =>
     have := ih (i := i) (by simpa using hi) (by simpa using h)
     cases b <;> simp_all [outN] <;> omega
theorem set_getB {l : List Bool} {i j : Nat} : (l.set i true)[j]! = if i = j ∧ i < l.length then true else l[j]! := by
 simp only [List.getElem!_eq_getElem?_getD, List.getElem?_set]
 by_cases h : i = j
 ·subst h
  by_cases h2 : i < l.length
  ·simp [h2]
  ·simp [h2]
 ·simp [h]
open Classical in
noncomputable def holL (s : Spc) : List Bool := (List.range s.S.length).map fun x => decide (Hol s x)
open Classical in
theorem holL_of {s : Spc} {l : List Bool} (hl : l.length = s.S.length) (h1 : ∀ x < s.S.length, inB l x → Hol s x) (h2 : ClosedH s (inB l)) : l = holL s := by
 apply List.ext_getElem (by simp [holL, hl])
 intro i hi hi2
 have hi3 : i < s.S.length := by omega
 have := hol_iff h1 h2 hi3
 unfold inB at this
 rw [getElem!_pos l i hi] at this
 simp only [holL, List.getElem_map, List.getElem_range]
 cases hb : l[i] <;> simp_all
theorem map_setB {l : List Bool} {i : Nat} {v : Bool} : (l.map Bo).set i (.bool v) = (l.set i v).map Bo := by rw [List.map_set]
theorem AllDieB {x : Stt} {n : Nat} {P Q : Nat → Prop} (h : AllDie x P) (hb : StB x n) (hq : ∀ k < n, P k → Q k) : AllDie x Q := by
 intro i hi
 obtain ⟨a, h1, h2, h3, h4⟩ := h i hi
 exact ⟨a, h1, h2, h3, hq _ (by have := hb.x a h1; omega) h4⟩
open Classical in
theorem hollowR_ok (s : Spc) (h : SpB s) : Fn G f_r04_Hollow [eSp s] (.lst ((holL s).map Bo)) := by
 refine FnP.mk' g_r04_Hollow rfl rfl ?_
 have hS := h.sz
 simp only [go_sem, ↓reduceIte, ↓gA, ↓gB, ↓gC, ↓gD, ↓cA, ↓cB, c_r04_Hollow, eSp]
 refine ⟨by omega, ?_⟩
 refine wp_loopQ (fun (g : List Bool × Bool) σ => g.1.length = s.S.length ∧ (∀ x < s.S.length, inB g.1 x → Hol s x) ∧ (g.2 = false → ClosedH s (inB g.1)) ∧ ∃ a c, σ = ⟨aT .undef 35 [(1, .ptr 0 1 [] 0 0 0), (3, .sl 1 1 [] 0 0 s.S.length), (4, Bo g.2)], [⟨1, 0, .own 2 [.agg [.lst (s.acts.map .str), .lst (s.S.map eSt)]]⟩, ⟨1, 0, .own 1 (g.1.map Bo)⟩, ⟨a, c, .gone⟩], []⟩) (fun g => outN g.1 + outN g.1 + if g.2 then 1 else 0) ?_ (List.replicate s.S.length false, true) ?_
 ·rintro ⟨l, ag⟩ σ ⟨hl, hin, hcl, a, c, rfl⟩ N Q hQ hN
  simp only at hl hin hcl
  cases ag with
  | false =>
    subst hQ
    simp only [go_sem, ↓reduceIte, ↓gA, ↓gB, ↓gC, ↓gD, ↓cA, ↓cB]
    rw [← holL_of hl hin (hcl rfl)]
    rw [if_pos (by omega), ← hl, ← List.length_map (f := Bo), List.take_length]
    simp only [go_sem, ↓reduceIte, ↓gA, ↓gB, ↓gC, ↓gD, ↓cA, ↓cB, List.map_map]
    rfl
  | true =>
    simp only [go_sem, ↓reduceIte, ↓gA, ↓gB, ↓gC, ↓gD, ↓cA, ↓cB]
    refine wp_loopQ (fun (g : Nat × List Bool × Bool) σ => g.1 ≤ s.S.length ∧ g.2.1.length = s.S.length ∧ (∀ x < s.S.length, inB g.2.1 x → Hol s x) ∧ (g.2.2 = false → g.2.1 = l ∧ ∀ x < g.1, AllDie s.S[x]! (inB l) → inB l x) ∧ (g.2.2 = true → outN g.2.1 < outN l) ∧ ∃ a c, σ = ⟨aT .undef 35 [(1, .ptr 0 1 [] 0 0 0), (3, .sl 1 1 [] 0 0 s.S.length), (4, Bo g.2.2), (13, .lst (s.S.map eSt)), (14, I s.S.length), (15, I g.1)], [⟨1, 0, .own 2 [.agg [.lst (s.acts.map .str), .lst (s.S.map eSt)]]⟩, ⟨1, 0, .own 1 (g.2.1.map Bo)⟩, ⟨a, c, .gone⟩], []⟩) (fun g => s.S.length - g.1) ?_ (0, l, false) ?_
    ·rintro ⟨i, l1, ag⟩ σ ⟨hi, hl1, hin1, hno, hye, a, c, rfl⟩ N2 Q2 hQ2 hN2
     simp only at hi hl1 hin1 hno hye
     by_cases hlt : i < s.S.length
     ·have hst := h.st i hlt
      simp only [go_sem, ↓reduceIte, ↓gA, ↓gB, ↓gC, ↓gD, ↓cA, ↓cB, eSt, wrap_succ hlt (by omega), Int.ofNat_lt, hlt, hl1]
      simp only [go_sem, ↓reduceIte, ↓gA, ↓gB, ↓gC, ↓gD, ↓cA, ↓cB, allFall_r (show StB s.S[i]! l1.length by rw [hl1]; exact hst), map_setB, wrap_succ hlt (show s.S.length ≤ 1000000000 by omega), hl1, Int.ofNat_lt, hlt]
      refine ⟨fun hb => ⟨fun hd => ?_, fun hd => ?_⟩, fun hb => ?_⟩
      ·refine hN2 (i + 1, l1.set i true, true) _ (by simp only; omega) ⟨by simp only; omega, by simpa using hl1, fun x hx hix => ?_, (by intro h; cases h), fun _ => ?_, a + 1, 0, ?_⟩
       ·simp only [inB, set_getB] at hix
        split at hix
        ·rename_i hc
         rw [← hc.1]
         exact Hol.closed s i hlt (AllDieB hd hst hin1)
        ·exact hin1 x hx hix
       ·simp only
        have h1 := outN_set (l := l1) (i := i) (by omega) hb
        cases ag with
        | true => have := hye rfl; omega
        | false => rw [(hno rfl).1] at h1 ⊢; omega
       ·simp only [go_sem, ↓reduceIte, ↓gA, ↓gB, ↓gC, ↓gD, ↓cA, ↓cB]
      ·refine hN2 (i + 1, l1, ag) _ (by simp only; omega) ⟨by simp only; omega, hl1, hin1, fun h => ⟨(hno h).1, forall_lt_succ (hno h).2 (fun hd2 => ?_)⟩, hye, a + 1, 0, ?_⟩
       ·rw [(hno h).1] at hd; simp_all
       ·simp only [go_sem, ↓reduceIte, ↓gA, ↓gB, ↓gC, ↓gD, ↓cA, ↓cB]
      ·refine hN2 (i + 1, l1, ag) _ (by simp only; omega) ⟨by simp only; omega, hl1, hin1, fun h => ⟨(hno h).1, forall_lt_succ (hno h).2 (fun hd2 => ?_)⟩, hye, a + 1, 0, ?_⟩
       ·rw [(hno h).1] at hb; exact hb
       ·simp only [go_sem, ↓reduceIte, ↓gA, ↓gB, ↓gC, ↓gD, ↓cA, ↓cB]
     ·have hil : i = s.S.length := by omega
      subst hQ2
      simp only [go_sem, ↓reduceIte, ↓gA, ↓gB, ↓gC, ↓gD, ↓cA, ↓cB, Int.ofNat_lt, hlt]
      refine hN (l1, ag) _ ?_ ⟨hl1, hin1, fun h => ?_, a, c, ?_⟩
      ·simp only
       cases ag with
       | true => have := hye rfl; simp; omega
       | false => rw [(hno rfl).1]; simp
      ·obtain ⟨e1, e2⟩ := hno h
       simp only [e1]
       rw [hil] at e2; exact e2
      ·simp only [go_sem, ↓reduceIte, ↓gA, ↓gB, ↓gC, ↓gD, ↓cA, ↓cB]
    ·exact ⟨by simp, hl, hin, fun _ => ⟨rfl, fun x hx => absurd hx (by simp)⟩, (by intro h; cases h), a, c, by simp only [go_sem, ↓reduceIte, ↓gA, ↓gB, ↓gC, ↓gD, ↓cA, ↓cB]⟩
 ·refine ⟨by simp, fun x hx h => ?_, (by intro h; cases h), 0, 0, ?_⟩
  ·simp only [inB, List.getElem!_eq_getElem?_getD, List.getElem?_replicate] at h
   split at h <;> simp at h
  ·simp only [go_sem, ↓reduceIte, ↓gA, ↓gB, ↓gC, ↓gD, ↓cA, ↓cB, List.map_replicate]
open Classical in
theorem hollowR_r {s : Spc} (h : SpB s) {roots : List Nat} {b : Nat} {ss : List Nat} {σ : St} {k : AV → St → Prop} :
 callT G f_r04_Hollow [.agg [.lst (s.acts.map .str), .lst (s.S.map eSt)]] true roots b ss σ k = k (.lst ((holL s).map Bo)) σ := (hollowR_ok s h).rule
end Go.Mw
/- Ladders of hollow states, plainly. -/
namespace Go.Mw
set_option maxRecDepth 100000
theorem getS {α : Type} [Inhabited α] {l : List α} {i j : Nat} {v : α} : (l.set i v)[j]! = if i = j ∧ i < l.length then v else l[j]! := by
 simp only [List.getElem!_eq_getElem?_getD, List.getElem?_set]
 by_cases h : i = j
 ·subst h
  by_cases h2 : i < l.length
  ·simp [h2]
  ·simp [h2]
 ·simp [h]
theorem getS1 {α : Type} [Inhabited α] {l : List α} {i j : Nat} {v : α} (h : i < l.length) : (l.set i v)[j]! = if i = j then v else l[j]! := by
 rw [getS]; by_cases e : i = j
 ·rw [if_pos ⟨e, h⟩, if_pos e]
 ·rw [if_neg (fun h => e h.1), if_neg e]
theorem getA {α : Type} [Inhabited α] {l k : List α} {j : Nat} : (l ++ k)[j]! = if j < l.length then l[j]! else k[j - l.length]! := by
 simp only [List.getElem!_eq_getElem?_getD, List.getElem?_append]
 split <;> rfl
theorem outN_zero {l : List Bool} (h : outN l = 0) : ∀ i < l.length, l[i]! = true := by
 intro i hi
 cases hb : l[i]! with
 | true => rfl
 | false => have := outN_set hi hb; omega
theorem outN_pos {l : List Bool} {i : Nat} (hi : i < l.length) (h : l[i]! = false) : 1 ≤ outN l := by have := outN_set hi h; omega
theorem outN_rep {n : Nat} : outN (List.replicate n false) = n := by simp [outN, List.filter_replicate]
structure IsLad (s : Spc) (l : List Nat) : Prop where
 lt : ∀ x ∈ l, x < s.S.length
 nd : l.Nodup
 up : ∀ j < l.length, AllDie s.S[l[j]!]! (· ∈ l.take j)
theorem IsLad.hol {s : Spc} {l : List Nat} (h : IsLad s l) : ∀ x ∈ l, Hol s x := by
 have key : ∀ n, ∀ j < l.length, j < n → Hol s l[j]! := by
  intro n
  induction n with
  | zero => intro j _ h; omega
  | succ n ih =>
    intro j hj hn
    refine Hol.closed s _ (h.lt _ ?_) ((h.up j hj).mono fun k hk => ?_)
    ·rw [getElem!_pos l j hj]; exact List.getElem_mem hj
    ·obtain ⟨i, hi, e⟩ := List.mem_iff_getElem.1 hk
     rw [List.getElem_take] at e
     rw [List.length_take] at hi
     have := ih i (by omega) (by omega)
     rw [getElem!_pos l i (by omega), e] at this
     exact this
 intro x hx
 obtain ⟨j, hj, e⟩ := List.mem_iff_getElem.1 hx
 have := key (j + 1) j hj (by omega)
 rw [getElem!_pos l j hj, e] at this
 exact this
structure RungI (s : Spc) (left : List Nat) (dead : List (List Bool)) (out : List Nat) (T : Nat) (C : Nat → Nat → Prop) : Prop where
 ll : left.length = s.S.length
 dl : dead.length = s.S.length
 dx : ∀ x < s.S.length, dead[x]!.length = s.S[x]!.A.length
 lz : ∀ x < s.S.length, left[x]! = outN dead[x]!
 oo : ∀ x < s.S.length, x ∈ out ↔ left[x]! = 0
 tl : T ≤ out.length
 lad : IsLad s out
 sd : ∀ x < s.S.length, ∀ m < s.S[x]!.A.length, dead[x]![m]! = true → Dies s.S[x]! (· ∈ out.take T) s.S[x]!.A[m]!
 cp : ∀ x < s.S.length, ∀ a, C x a → ∀ m < s.S[x]!.A.length, hasA s.S[x]!.A[m]! a = true → dead[x]![m]! = true
theorem RungI.step {s : Spc} {left : List Nat} {dead : List (List Bool)} {out : List Nat} {T : Nat} {C : Nat → Nat → Prop} (h : RungI s left dead out T C) {x m : Nat} (hx : x < s.S.length) (hm : m < s.S[x]!.A.length)
 (hf : dead[x]![m]! = false) (hd : Dies s.S[x]! (· ∈ out.take T) s.S[x]!.A[m]!) :
 RungI s (left.set x (left[x]! - 1)) (dead.set x (dead[x]!.set m true)) (if left[x]! - 1 = 0 then out ++ [x] else out) T C := by
 have hxl : x < left.length := by rw [h.ll]; exact hx
 have hxd : x < dead.length := by rw [h.dl]; exact hx
 have hml : m < dead[x]!.length := by rw [h.dx x hx]; exact hm
 have hz := h.lz x hx
 have hs := outN_set hml hf
 have hne : x ∉ out := fun hh => by have := (h.oo x hx).1 hh; omega
 have htk : (out ++ [x]).take T = out.take T := by rw [List.take_append_of_le_length h.tl]
 have gd : ∀ y, (dead.set x (dead[x]!.set m true))[y]! = if x = y then dead[x]!.set m true else dead[y]! := fun y => getS1 hxd
 have gl : ∀ y, (left.set x (left[x]! - 1))[y]! = if x = y then left[x]! - 1 else left[y]! := fun y => getS1 hxl
 have gm : ∀ m', (dead[x]!.set m true)[m']! = if m = m' then true else dead[x]![m']! := fun m' => getS1 hml
 have hsd : ∀ m' < s.S[x]!.A.length, (dead[x]!.set m true)[m']! = true → Dies s.S[x]! (· ∈ out.take T) s.S[x]!.A[m']! := by
  intro m' hm' hh
  rw [gm] at hh
  split at hh
  ·rename_i e; subst e; exact hd
  ·exact h.sd x hx m' hm' hh
 refine ⟨by simp [h.ll], by simp [h.dl], fun y hy => ?_, fun y hy => ?_, fun y hy => ?_, ?_, ?_, fun y hy m' hm' hh => ?_, fun y hy a hC m' hm' hh => ?_⟩
 ·rw [gd]; split
  ·rename_i e; subst e; rw [List.length_set]; exact h.dx x hx
  ·exact h.dx y hy
 ·rw [gd, gl]; split
  ·rename_i e; subst e; omega
  ·exact h.lz y hy
 ·rw [gl]
  by_cases e : x = y
  ·subst e
   rw [if_pos rfl]
   split
   ·rename_i h0; exact ⟨fun _ => h0, fun _ => by simp only [List.mem_append, List.mem_singleton, or_true]⟩
   ·rename_i h0; exact ⟨fun h => absurd h hne, fun h => absurd h h0⟩
  ·rw [if_neg e, ← h.oo y hy]
   split
   ·simp only [List.mem_append, List.mem_singleton]
    exact ⟨fun hh => hh.resolve_right (fun e2 => e e2.symm), .inl⟩
   ·rfl
 ·have := h.tl; split <;> simp <;> omega
 ·split
  ·rename_i h0
   refine ⟨fun y hy => ?_, ?_, fun j hj => ?_⟩
   ·simp only [List.mem_append, List.mem_singleton] at hy
    rcases hy with hy | rfl
    ·exact h.lad.lt y hy
    ·exact hx
   ·rw [List.nodup_append]
    refine ⟨h.lad.nd, by simp, fun y hy z hz e => ?_⟩
    simp only [List.mem_singleton] at hz
    subst hz; subst e; exact hne hy
   ·rw [getA]
    split
    ·rename_i hj2
     rw [List.take_append_of_le_length (by omega)]
     exact h.lad.up j hj2
    ·rename_i hj2
     have hj3 : j = out.length := by simp at hj; omega
     subst hj3
     simp only [Nat.sub_self, List.take_left]
     have e0 : ([x] : List Nat)[0]! = x := rfl
     rw [e0]
     intro m' hm'
     have hall : outN (dead[x]!.set m true) = 0 := by omega
     have := outN_zero hall m' (by rw [List.length_set, h.dx x hx]; exact hm')
     exact (hsd m' hm' this).mono fun k hk => List.mem_of_mem_take hk
  ·exact h.lad
 ·have e2 : ∀ P : Nat → Prop, (∀ k, k ∈ out.take T → P k) → Dies s.S[y]! (· ∈ out.take T) s.S[y]!.A[m']! → Dies s.S[y]! P s.S[y]!.A[m']! := fun P hP hd => hd.mono hP
  have e3 : (if left[x]! - 1 = 0 then out ++ [x] else out).take T = out.take T := by split <;> first | exact htk | rfl
  rw [e3]
  rw [gd] at hh
  split at hh
  ·rename_i e; subst e; exact hsd m' hm' hh
  ·exact h.sd y hy m' hm' hh
 ·rw [gd]
  split
  ·rename_i e; subst e
   rw [gm]; split
   ·rfl
   ·exact h.cp x hx a hC m' hm' hh
  ·exact h.cp y hy a hC m' hm' hh
theorem RungI.fin {s : Spc} {left : List Nat} {dead : List (List Bool)} {out : List Nat} {C : Nat → Nat → Prop} (h : RungI s left dead out out.length C)
 (hC : ∀ x < s.S.length, ∀ a < s.S[x]!.X.length, 0 ≤ s.S[x]!.X[a]! → s.S[x]!.X[a]!.toNat ∈ out → C x a) : IsLad s out ∧ ∀ x < s.S.length, x ∈ out ↔ Hol s x := by
 refine ⟨h.lad, fun x hx => hol_iff (P := (· ∈ out)) (fun x _ hx => h.lad.hol x hx) (fun x hx hd => ?_) hx⟩
 show x ∈ out
 rw [h.oo x hx, h.lz x hx]
 have : ∀ m < dead[x]!.length, dead[x]![m]! = true := by
  intro m hm
  rw [h.dx x hx] at hm
  obtain ⟨a, h1, h2, h3, h4⟩ := hd m hm
  exact h.cp x hx a (hC x hx a h1 h2 h4) m hm h3
 have key : ∀ l : List Bool, (∀ m < l.length, l[m]! = true) → outN l = 0 := by
  intro l
  induction l with
  | nil => intro _; rfl
  | cons b l ih =>
    intro hh
    have h0 := hh 0 (by simp)
    have h1 := ih (fun m hm => by have := hh (m + 1) (by simpa using hm); simpa using this)
    simp at h0; subst h0
    simpa [outN] using h1
 exact key _ this
theorem RungI.take {s : Spc} {left : List Nat} {dead : List (List Bool)} {out : List Nat} {T T' : Nat} {C C' : Nat → Nat → Prop} (h : RungI s left dead out T C) (hT : T ≤ T') (hl : T' ≤ out.length) (hC : ∀ x a, C' x a → C x a) : RungI s left dead out T' C' :=
 ⟨h.ll, h.dl, h.dx, h.lz, h.oo, hl, h.lad, fun x hx m hm hd => (h.sd x hx m hm hd).mono fun k hk => by
  have : out.take T <+: out.take T' := by rw [show T = min T T' by omega, ← List.take_take]; exact List.take_prefix _ _
  exact this.subset hk, fun x hx a hc => h.cp x hx a (hC x a hc)⟩
end Go.Mw
/- Ladders of hollow states, as the program makes them. -/
namespace Go.Mw
set_option maxRecDepth 100000
theorem freeSites_b {b : Nat} {ks : List Nat} {h : List Ob} : freeSites b ks h = freeSites 0 (ks.map (b + ·)) h := by
 simp only [freeSites, List.map_map]; congr 1; apply List.map_congr_left; intro k _; simp
theorem headS_b {nt b : Nat} {L ks : List Nat} {d : AV} {l : List (Nat × AV)} {h : List Ob} {lp : List Lp} : headS (rest nt L) ks b ⟨aT d nt l, h, lp⟩ = ⟨aT .undef nt (L.map fun k => (k, look d k l)), freeL (ks.map (b + ·)) 0 h, lp⟩ := by
 simp only [headS, kill_rest aT_len, keepL_aT]; rw [freeSites_b, free_sites]
attribute [go_sem] headS_b
def rowB (l : List Bool) : AV := .own 1 (l.map Bo)
def eN (a : Nat) : AV := I a
def lowH (o0 o1 : Ob) (z2 : Nat) (left : List Nat) (o3 : Ob) (z4 : Nat) (dead : List (List Bool)) (o5 : Ob) (z6 : Nat) (out : List Nat) (o7 o8 o9 o10 o11 o12 o13 : Ob) : List Ob :=
 [o0, o1, ⟨1, z2, .own 1 [.own 1 (left.map eN)]⟩, o3, ⟨1, z4, .own 1 [.own 1 (dead.map rowB)]⟩, o5, ⟨1, z6, .own 1 [cellv .nils 1 (out.map eN)]⟩, o7, o8, o9, o10, o11, o12, o13]
theorem map_setE {l : List Nat} {i v : Nat} : (l.map eN).set i (.int .i64 (v : Nat)) = (l.set i v).map eN := by rw [List.map_set]; rfl
theorem map_setR {l : List (List Bool)} {i : Nat} {v : List Bool} : (l.map rowB).set i (.own 1 (v.map Bo)) = (l.set i v).map rowB := by rw [List.map_set]; rfl
theorem prefix_take {l k : List Nat} {T : Nat} (h : l <+: k) (hT : T ≤ l.length) : k.take T = l.take T := by
 obtain ⟨r, rfl⟩ := h
 rw [List.take_append_of_le_length hT]
theorem nodup_len : ∀ {n : Nat} {l : List Nat}, l.Nodup → (∀ x ∈ l, x < n) → l.length ≤ n := by
 intro n
 induction n with
 | zero =>
   intro l _ h
   cases l with
   | nil => simp
   | cons x l => have := h x (List.mem_cons_self ..); omega
 | succ n ih =>
   intro l hn h
   have h1 : (l.erase n).length ≤ n := ih (hn.erase n) (fun x hx => by
    have h2 := (hn.mem_erase_iff).1 hx
    have := h x h2.2
    omega)
   have h2 := List.length_erase (a := n) (l := l)
   by_cases hm : n ∈ l
   ·rw [if_pos hm] at h2; omega
   ·rw [if_neg hm] at h2; omega
theorem lower_ok (s : Spc) (h : SpB s) (x a : Nat) (hx : x < s.S.length) (ha : a < s.S[x]!.X.length) (left : List Nat) (dead : List (List Bool)) (out : List Nat) (T : Nat) (C : Nat → Nat → Prop) (hI : RungI s left dead out T C)
 (h0 : 0 ≤ s.S[x]!.X[a]!) (hT : s.S[x]!.X[a]!.toNat ∈ out.take T)
 (z2 z4 z6 : Nat) (o1 o3 o5 o7 o8 o9 o10 o11 o12 o13 : Ob) (t : List AV) (K : AV → St → Prop)
 (hK : ∀ left' dead' out' z2 z4 z6, RungI s left' dead' out' T (fun x' a' => C x' a' ∨ (x' = x ∧ a' = a)) → out <+: out' → K (.tup []) ⟨t, lowH ⟨1, 0, .own 2 [.agg [.lst (s.acts.map .str), .lst (s.S.map eSt)]]⟩ o1 z2 left' o3 z4 dead' o5 z6 out' o7 o8 o9 o10 o11 o12 o13, []⟩) :
 WpCall G f_prune_rungs_1 [I x, I a, .ptr 0 1 [] 0 0 0, .ptr 4 1 [] 0 0 0, .ptr 2 1 [] 0 0 0, .ptr 6 1 [] 0 0 0] 0 [] ⟨t, lowH ⟨1, 0, .own 2 [.agg [.lst (s.acts.map .str), .lst (s.S.map eSt)]]⟩ o1 z2 left o3 z4 dead o5 z6 out o7 o8 o9 o10 o11 o12 o13, []⟩ K := by
 have hst := h.st x hx
 have hS := h.sz
 have hA := hst.la
 refine wpCall_S g_prune_rungs_1 rfl ?_
 rw [entry_aT (by simp)]
 simp only [go_sem, ↓reduceIte, ↓gA, ↓gB, ↓gC, ↓gD, ↓cA, ↓cB, c_prune_rungs_1, lowH, hx, Int.ofNat_lt, eSt]
 refine wp_loopQ (fun (m : Nat) σ => m ≤ s.S[x]!.A.length ∧ ∃ left' dead' out', RungI s left' dead' out' T C ∧ out <+: out' ∧ (∀ m' < m, hasA s.S[x]!.A[m']! a = true → dead'[x]![m']! = true) ∧ ∃ z2 z4 z6 a14 c14 a15 c15, σ = ⟨aT .undef 59 [(0, I x), (1, I a), (3, .ptr 4 1 [] 0 0 0), (4, .ptr 2 1 [] 0 0 0), (5, .ptr 6 1 [] 0 0 0), (15, .lst (s.S[x]!.A.map I)), (16, I s.S[x]!.A.length), (17, I m)],
  lowH ⟨1, 0, .own 2 [.agg [.lst (s.acts.map .str), .lst (s.S.map eSt)]]⟩ o1 z2 left' o3 z4 dead' o5 z6 out' o7 o8 o9 o10 o11 o12 o13 ++ [⟨a14, c14, .gone⟩, ⟨a15, c15, .gone⟩], []⟩) (fun m => s.S[x]!.A.length - m) ?_ 0 ?_
 ·rintro m σ ⟨hm, left', dead', out', hI', hpre, hdone, z2, z4, z6, a14, c14, a15, c15, rfl⟩ N Q hQ hN
  by_cases hlt : m < s.S[x]!.A.length
  ·obtain ⟨sn, e, hs⟩ := hst.nat hlt
   have hxd : x < dead'.length := by rw [hI'.dl]; exact hx
   have hxl : x < left'.length := by rw [hI'.ll]; exact hx
   have hml : m < dead'[x]!.length := by rw [hI'.dx x hx]; exact hlt
   simp only [go_sem, ↓reduceIte, ↓gA, ↓gB, ↓gC, ↓gD, ↓cA, ↓cB, lowH, wrap_succ hlt (by omega), Int.ofNat_lt, hlt, e, has_nat (show sn < 2 ^ 63 by omega), rowB, eN, hxd, hxl, hml, map_setB, map_setR]
   refine ⟨fun hb => ⟨fun hf => ?_, fun hf => ?_⟩, fun hb => ?_⟩
   ·have hz := hI'.lz x hx
    have hp := outN_pos hml hf
    have hzl : left'[x]! ≤ 1048576 := by
     have h1 : outN dead'[x]! ≤ dead'[x]!.length := List.length_filter_le _ _
     have h2 := hI'.dx x hx
     omega
    have ew : IntKind.i64.wrap ((left'[x]! : Int) - 1) = ((left'[x]! - 1 : Nat) : Int) := by rw [wrapI] <;> omega
    have hdie : Dies s.S[x]! (· ∈ out'.take T) s.S[x]!.A[m]! := by
     refine ⟨a, ha, h0, by rw [e]; exact hb, ?_⟩
     rw [prefix_take hpre hI.tl]; exact hT
    have hst2 := hI'.step hx hlt hf hdie
    have hgl : (left'.set x (left'[x]! - 1))[x]! = left'[x]! - 1 := by rw [getS1 hxl, if_pos rfl]
    have hol : out'.length ≤ 1048576 := by
     have := nodup_len hI'.lad.nd hI'.lad.lt; omega
    simp only [go_sem, ↓reduceIte, ↓gA, ↓gB, ↓gC, ↓gD, ↓cA, ↓cB, ew, map_setE, hgl, hxl, List.length_set, eN]
    have gd : (dead'.set x (dead'[x]!.set m true))[x]! = dead'[x]!.set m true := by rw [getS1 hxd, if_pos rfl]
    have hdn : ∀ m' < m + 1, hasA s.S[x]!.A[m']! a = true → (dead'.set x (dead'[x]!.set m true))[x]![m']! = true := by
     rw [gd]
     refine forall_lt_succ (fun m' hm' hb' => ?_) (fun _ => by rw [getS1 hml, if_pos rfl])
     rw [getS1 hml]; split
     ·rfl
     ·exact hdone m' hm' hb'
    refine ⟨fun h2 => ⟨by omega, ?_⟩, fun h2 => ?_⟩
    ·have h3 : left'[x]! - 1 = 0 := by have : ((left'[x]! - 1 : Nat) : Int) = 0 := by simpa using h2
                                       omega
     rw [if_pos h3] at hst2
     refine hN (m + 1) _ (by omega) ⟨by omega, _, _, _, hst2, hpre.trans (List.prefix_append _ _), hdn, z2, z4, z6 + 1, a14 + 1, 0, a15 + 1, 0, ?_⟩
     simp only [go_sem, ↓reduceIte, ↓gA, ↓gB, ↓gC, ↓gD, ↓cA, ↓cB, lowH, wrap_succ hlt (show s.S[x]!.A.length ≤ 1000000000 by omega), List.map_append, eN]
    ·have h3 : ¬ left'[x]! - 1 = 0 := by have : ¬ ((left'[x]! - 1 : Nat) : Int) = 0 := by simpa using h2
                                         omega
     rw [if_neg h3] at hst2
     refine hN (m + 1) _ (by omega) ⟨by omega, _, _, _, hst2, hpre, hdn, z2, z4, z6, a14, c14, a15, c15, ?_⟩
     simp only [go_sem, ↓reduceIte, ↓gA, ↓gB, ↓gC, ↓gD, ↓cA, ↓cB, lowH, wrap_succ hlt (show s.S[x]!.A.length ≤ 1000000000 by omega)]
   ·refine hN (m + 1) _ (by omega) ⟨by omega, left', dead', out', hI', hpre, forall_lt_succ hdone (fun _ => hf), z2, z4, z6, a14, c14, a15, c15, ?_⟩
    simp only [go_sem, ↓reduceIte, ↓gA, ↓gB, ↓gC, ↓gD, ↓cA, ↓cB, lowH]
   ·refine hN (m + 1) _ (by omega) ⟨by omega, left', dead', out', hI', hpre, forall_lt_succ hdone (fun hc => ?_), z2, z4, z6, a14, c14, a15, c15, ?_⟩
    ·rw [e] at hc; unfold hasA at hc; rw [Int.toNat_natCast, hb] at hc; cases hc
    ·simp only [go_sem, ↓reduceIte, ↓gA, ↓gB, ↓gC, ↓gD, ↓cA, ↓cB, lowH]
  ·have hml : m = s.S[x]!.A.length := by omega
   subst hQ
   simp only [go_sem, ↓reduceIte, ↓gA, ↓gB, ↓gC, ↓gD, ↓cA, ↓cB, lowH, Int.ofNat_lt, hlt, resK]
   have := hK left' dead' out' z2 z4 z6 ⟨hI'.ll, hI'.dl, hI'.dx, hI'.lz, hI'.oo, hI'.tl, hI'.lad, hI'.sd, fun y hy a' hC m' hm' hh => ?_⟩ hpre
   ·simpa only [go_sem, lowH, resT] using this
   ·rcases hC with hC | ⟨rfl, rfl⟩
    ·exact hI'.cp y hy a' hC m' hm' hh
    ·exact hdone m' (by omega) hh
 ·exact ⟨by omega, left, dead, out, hI, List.prefix_refl _, fun m' hm' => absurd hm' (by omega), z2, z4, z6, 0, 0, 0, 0, by simp only [go_sem, ↓reduceIte, ↓gA, ↓gB, ↓gC, ↓gD, ↓cA, ↓cB, lowH]⟩
end Go.Mw
