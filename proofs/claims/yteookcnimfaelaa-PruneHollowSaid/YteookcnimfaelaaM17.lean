/- How simp steps through code: the rules in one set. -/
import Derived.Test.YteookcnimfaelaaM16
set_option linter.unusedVariables false
set_option linter.unusedSimpArgs false
namespace Go.Mw
def guardS (x : Option AV) (w : Bool) (A B C : Prop) (u : Tg (A, B, C) := tg) : Prop :=
 match x with
 | some (.bool v) => (v = w → A) ∧ (v = !w → B)
 | some (.tup []) => C
 | _ => False
theorem guardS_tup {w : Bool} {A B C : Prop} : guardS (some (.tup [])) w A B C = C := (rfl)
def guardT (v w : Bool) (A B : Prop) (u : Tg (A, B) := tg) : Prop := (v = w → A) ∧ (v = !w → B)
theorem guardS_T {v w : Bool} {A B C : Prop} : guardS (some (.bool v)) w A B C = guardT v w A B := (rfl)
theorem gA {A B : Prop} : guardT true true A B = A := by simp [guardT]
theorem gB {A B : Prop} : guardT true false A B = B := by simp [guardT]
theorem gC {A B : Prop} : guardT false true A B = B := by simp [guardT]
theorem gD {A B : Prop} : guardT false false A B = A := by simp [guardT]
theorem guardT_bool {v w : Bool} {A B : Prop} : guardT v w A B = ((v = w → A) ∧ (v = !w → B)) := (rfl)
def condT (v : Bool) (A B : Prop) (u : Tg (A, B) := tg) : Prop := (v = true → A) ∧ (v = false → B)
theorem condK_T {v : Bool} {A B : Prop} : condK (.bool v) A B = condT v A B := (rfl)
theorem cA {A B : Prop} : condT true A B = A := by simp [condT]
theorem cB {A B : Prop} : condT false A B = B := by simp [condT]
theorem condT_bool {v : Bool} {A B : Prop} : condT v A B = ((v = true → A) ∧ (v = false → B)) := (rfl)
theorem wpO_consS {G : Prg} {d : Option Nat} {i : Ins} {t : Nat} {want : Bool} {os : List Rop} {b : Nat} {T : List AV} {h : List Ob} {lp : List Lp} {K : St → Prop} :
 WpO G (⟨d, i, some (t, want)⟩ :: os) b ⟨T, h, lp⟩ K = guardS T[t]? want (WpO G (⟨d, i, none⟩ :: os) b ⟨T.set t (.bool want), h, lp⟩ K) (WpO G os b (St.put ⟨T.set t (.bool !want), h, lp⟩ d (.tup [])) K) (WpO G os b (St.put ⟨T, h, lp⟩ d (.tup [])) K) := by
 rw [wpO_consG]
 unfold guardK guardS
 simp only
 cases hx : T[t]? with
 | none => rfl
 | some x =>
   cases x with
   | bool v =>
     simp only
     cases v <;> cases want <;> simp only [reduceCtorEq, ne_eq, not_false_eq_true, not_true_eq_false, false_implies, true_implies, and_true, true_and, Bool.not_true, Bool.not_false, Bool.false_eq_true, Bool.true_eq_false, forall_const]
     all_goals rw [List.set_self hx]
   | tup l => cases l <;> rfl
   | _ => rfl
def resK (σ : St) (res : List (Nat × Option (Bool × Nat))) (k : List AV → Prop) (u : Tg k := tg) : Prop := match resT σ res with | some rs => k rs | none => False
theorem Done_nrm {res : List (Nat × Option (Bool × Nat))} {R : List AV → List Ob → Prop} {σ : St} : Done res R .nrm σ = resK σ res (fun rs => R rs σ.h) := (rfl)
theorem Done_ret {res : List (Nat × Option (Bool × Nat))} {R : List AV → List Ob → Prop} {σ : St} : Done res R .ret σ = resK σ res (fun rs => R rs σ.h) := (rfl)
theorem resK_nil {σ : St} {k : List AV → Prop} : resK σ [] k = k [] := (rfl)
theorem resK_t {σ : St} {t : Nat} {rs : List (Nat × Option (Bool × Nat))} {k : List AV → Prop} : resK σ ((t, none) :: rs) k = elK σ.t t (fun v => resK σ rs (fun vs => k (v :: vs))) := by
 simp only [resK, resT, elK]
 cases σ.t[t]? with
 | none => rfl
 | some v => simp only; cases resT σ rs <;> rfl
theorem resK_c {σ : St} {t : Nat} {ag : Bool} {n : Nat} {rs : List (Nat × Option (Bool × Nat))} {k : List AV → Prop} : resK σ ((t, some (ag, n)) :: rs) k = ldK σ.h ag n (σ.get (.t t)) (fun v => resK σ rs (fun vs => k (v :: vs))) := by
 have h := wpI_ld (G := fun _ => none) (b := 0) (σ := σ) (ag := ag) (n := n) (a := .t t) (k := fun v _ => resK σ rs (fun vs => k (v :: vs)))
 rw [← h]
 simp only [wpI, resK, resT]
 have hb : ax 0 (.ld ag n (.t t)) σ = ax 0 (.ld ag n (.t t)) σ := (rfl)
 cases hx : ax 0 (.ld ag n (.t t)) σ with
 | none => rfl
 | some p =>
   obtain ⟨v, hh⟩ := p
   simp only [stepK]
   cases resT σ rs <;> rfl
theorem pickK_congr {k : AV → Prop} {x x' : AV} {y y' : AV} {z z' : AV} (h0 : x = x') (h1 : y = y') (h2 : z = z') : pickK x y z k = pickK x' y' z' k := by cases h0; cases h1; cases h2; rfl
theorem binK_congr {op : BinOp} {k : AV → Prop} {x x' : AV} {y y' : AV} (h0 : x = x') (h1 : y = y') : binK op x y k = binK op x' y' k := by cases h0; cases h1; rfl
theorem beqK_congr {n : Bool} {k : AV → Prop} {x x' : AV} {y y' : AV} (h0 : x = x') (h1 : y = y') : beqK n x y k = beqK n x' y' k := by cases h0; cases h1; rfl
theorem unK_congr {op : UnOp} {k : AV → Prop} {x x' : AV} (h0 : x = x') : unK op x k = unK op x' k := by cases h0; rfl
theorem cviK_congr {κ : IntKind} {k : AV → Prop} {x x' : AV} (h0 : x = x') : cviK κ x k = cviK κ x' k := by cases h0; rfl
theorem eqaK_congr {n : Bool} {ks : List Nat} {k : AV → Prop} {x x' : AV} {y y' : AV} (h0 : x = x') (h1 : y = y') : eqaK n ks x y k = eqaK n ks x' y' k := by cases h0; cases h1; rfl
theorem extK_congr {i : Nat} {k : AV → Prop} {x x' : AV} (h0 : x = x') : extK x i k = extK x' i k := by cases h0; rfl
theorem lensK_congr {k : AV → Prop} {x x' : AV} (h0 : x = x') : lensK x k = lensK x' k := by cases h0; rfl
theorem lenlK_congr {k : AV → Prop} {h h' : List Ob} {x x' : AV} (h0 : h = h') (h1 : x = x') : lenlK h x k = lenlK h' x' k := by cases h0; cases h1; rfl
theorem nodeK_congr {r : Nat} {st : Nat} {p : Path} {ss : Nat} {k : AV → Prop} {h h' : List Ob} (h0 : h = h') : nodeK h r st p ss k = nodeK h' r st p ss k := by cases h0; rfl
theorem ownK_congr {k : Nat → List AV → Prop} {x x' : AV} (h0 : x = x') : ownK x k = ownK x' k := by cases h0; rfl
theorem obK_congr {k : Ob → Prop} {o o' : Option Ob} (h0 : o = o') : obK o k = obK o' k := by cases h0; rfl
theorem navK_congr {k : AV → Prop} {x x' : AV} {p p' : Path} (h0 : x = x') (h1 : p = p') : navK x p k = navK x' p' k := by cases h0; cases h1; rfl
theorem elK_congr {k : AV → Prop} {xs xs' : List AV} {i i' : Nat} (h0 : xs = xs') (h1 : i = i') : elK xs i k = elK xs' i' k := by cases h0; cases h1; rfl
theorem iadK_congr {es : Nat} {k : AV → Prop} {h h' : List Ob} {x x' : AV} {y y' : AV} (h0 : h = h') (h1 : x = x') (h2 : y = y') : iadK h es x y k = iadK h' es x' y' k := by cases h0; cases h1; cases h2; rfl
theorem idxK_congr {k : AV → Prop} {x x' : AV} {y y' : AV} (h0 : x = x') (h1 : y = y') : idxK x y k = idxK x' y' k := by cases h0; cases h1; rfl
theorem newK_congr {k : List Ob → Nat → Prop} {h h' : List Ob} {r r' : Nat} {c c' : AV} (h0 : h = h') (h1 : r = r') (h2 : c = c') : newK h r c k = newK h' r' c' k := by cases h0; cases h1; cases h2; rfl
theorem goneK_congr {p : Prop} {c c' : AV} (h0 : c = c') : goneK c p = goneK c' p := by cases h0; rfl
theorem setObK_congr {k : List Ob → Prop} {h h' : List Ob} {r r' : Nat} {p p' : Path} {v v' : AV} {bump bump' : Bool} (h0 : h = h') (h1 : r = r') (h2 : p = p') (h3 : v = v') (h4 : bump = bump') : setObK h r p v bump k = setObK h' r' p' v' bump' k := by cases h0; cases h1; cases h2; cases h3; cases h4; rfl
theorem updK_congr {k : AV → Prop} {x x' : AV} {p p' : Path} {v v' : AV} (h0 : x = x') (h1 : p = p') (h2 : v = v') : updK x p v k = updK x' p' v' k := by cases h0; cases h1; cases h2; rfl
theorem vcellsK_congr {n : Nat} {k : List AV → Prop} {h h' : List Ob} {v v' : AV} (h0 : h = h') (h1 : v = v') : vcellsK h n v k = vcellsK h' n v' k := by cases h0; cases h1; rfl
theorem takeCellK_congr {k : AV → List Ob → Prop} {h h' : List Ob} {v v' : AV} (h0 : h = h') (h1 : v = v') : takeCellK h v k = takeCellK h' v' k := by cases h0; cases h1; rfl
theorem takeCellsK_congr {k : List AV → List Ob → Prop} {h h' : List Ob} {vs vs' : List AV} (h0 : h = h') (h1 : vs = vs') : takeCellsK h vs k = takeCellsK h' vs' k := by cases h0; cases h1; rfl
theorem takeValK_congr {n : Nat} {k : AV → List Ob → Prop} {h h' : List Ob} {v v' : AV} (h0 : h = h') (h1 : v = v') : takeValK h n v k = takeValK h' n v' k := by cases h0; cases h1; rfl
theorem takeValsK_congr {n : Nat} {k : List AV → List Ob → Prop} {h h' : List Ob} {vs vs' : List AV} (h0 : h = h') (h1 : vs = vs') : takeValsK h n vs k = takeValsK h' n vs' k := by cases h0; cases h1; rfl
theorem mksK_congr {k : Int → Prop} {x x' : AV} {y y' : AV} (h0 : x = x') (h1 : y = y') : mksK x y k = mksK x' y' k := by cases h0; cases h1; rfl
theorem outvK_congr {r : Nat} {k : AV → Prop} {st st' : Nat} {p p' : Path} {ss ss' : Nat} {c c' : AV} (h0 : st = st') (h1 : p = p') (h2 : ss = ss') (h3 : c = c') : outvK r st p ss c k = outvK r st' p' ss' c' k := by cases h0; cases h1; cases h2; cases h3; rfl
theorem outLK_congr {r : Nat} {k : List AV → Prop} {st st' : Nat} {p p' : Path} {ss ss' : Nat} {i i' : Nat} {j j' : Nat} {cs cs' : List AV} (h0 : st = st') (h1 : p = p') (h2 : ss = ss') (h3 : i = i') (h4 : j = j') (h5 : cs = cs') : outLK r st p ss i j cs k = outLK r st' p' ss' i' j' cs' k := by cases h0; cases h1; cases h2; cases h3; cases h4; cases h5; rfl
theorem headK_congr {k : AV → Prop} {cs cs' : List AV} (h0 : cs = cs') : headK cs k = headK cs' k := by cases h0; rfl
theorem ldK_congr {ag : Bool} {n : Nat} {k : AV → Prop} {h h' : List Ob} {a a' : AV} (h0 : h = h') (h1 : a = a') : ldK h ag n a k = ldK h' ag n a' k := by cases h0; cases h1; rfl
theorem stoK_congr {n : Nat} {k : List Ob → Prop} {h h' : List Ob} {a a' : AV} {x x' : AV} (h0 : h = h') (h1 : a = a') (h2 : x = x') : stoK h n a x k = stoK h' n a' x' k := by cases h0; cases h1; cases h2; rfl
theorem fadK_congr {off : Nat} {k : AV → Prop} {h h' : List Ob} {x x' : AV} (h0 : h = h') (h1 : x = x') : fadK h off x k = fadK h' off x' k := by cases h0; cases h1; rfl
theorem fldK_congr {ag : Bool} {off : Nat} {n : Nat} {k : AV → Prop} {x x' : AV} (h0 : x = x') : fldK ag off n x k = fldK ag off n x' k := by cases h0; rfl
theorem iaaK_congr {len : Nat} {es : Nat} {k : AV → Prop} {h h' : List Ob} {x x' : AV} {y y' : AV} (h0 : h = h') (h1 : x = x') (h2 : y = y') : iaaK h len es x y k = iaaK h' len es x' y' k := by cases h0; cases h1; cases h2; rfl
theorem ixaK_congr {ag : Bool} {len : Nat} {es : Nat} {k : AV → Prop} {x x' : AV} {y y' : AV} (h0 : x = x') (h1 : y = y') : ixaK ag len es x y k = ixaK ag len es x' y' k := by cases h0; cases h1; rfl
theorem bldK_congr {ps : List (Nat × Nat × Opd)} {k : List AV → Prop} {σ σ' : St} {cs cs' : List AV} (h0 : σ = σ') (h1 : cs = cs') : bldK σ cs ps k = bldK σ' cs' ps k := by cases h0; cases h1; rfl
theorem mxnK_congr {mx : Bool} {k : AV → Prop} {x x' : AV} {y y' : AV} (h0 : x = x') (h1 : y = y') : mxnK mx x y k = mxnK mx x' y' k := by cases h0; cases h1; rfl
theorem nilcK_congr {n : Bool} {k : AV → Prop} {h h' : List Ob} {x x' : AV} {y y' : AV} (h0 : h = h') (h1 : x = x') (h2 : y = y') : nilcK h n x y k = nilcK h' n x' y' k := by cases h0; cases h1; cases h2; rfl
theorem appYK_congr {es : Nat} {k : List AV → List Ob → Prop} {h h' : List Ob} {y y' : AV} (h0 : h = h') (h1 : y = y') : appYK h es y k = appYK h' es y' k := by cases h0; cases h1; rfl
theorem appXK_congr {es : Nat} {k : List AV → List Ob → Prop} {h h' : List Ob} {x x' : AV} (h0 : h = h') (h1 : x = x') : appXK h es x k = appXK h' es x' k := by cases h0; cases h1; rfl
theorem appZ_congr {es : Nat} {bytes : Nat} {k : AV → List Ob → Prop} {x x' : AV} {xs xs' : List AV} {ys ys' : List AV} {h h' : List Ob} {r r' : Nat} (h0 : x = x') (h1 : xs = xs') (h2 : ys = ys') (h3 : h = h') (h4 : r = r') : appZ x xs ys es bytes h r k = appZ x' xs' ys' es bytes h' r' k := by cases h0; cases h1; cases h2; cases h3; cases h4; rfl
theorem resK_congr {res : List (Nat × Option (Bool × Nat))} {k : List AV → Prop} {σ σ' : St} (h0 : σ = σ') : resK σ res k = resK σ' res k := by cases h0; rfl
theorem guardS_congr {w : Bool} {A : Prop} {B : Prop} {C : Prop} {x x' : Option AV} (h0 : x = x') : guardS x w A B C = guardS x' w A B C := by cases h0; rfl
theorem bxfK_congr {k : AV → Prop} {x x' : AV} (h0 : x = x') : bxfK x k = bxfK x' k := by cases h0; rfl
attribute [congr] bxfK_congr pickK_congr binK_congr beqK_congr unK_congr cviK_congr eqaK_congr extK_congr lensK_congr lenlK_congr nodeK_congr ownK_congr obK_congr navK_congr elK_congr iadK_congr idxK_congr newK_congr goneK_congr setObK_congr updK_congr vcellsK_congr takeCellK_congr takeCellsK_congr takeValK_congr takeValsK_congr mksK_congr outvK_congr outLK_congr headK_congr ldK_congr stoK_congr fadK_congr fldK_congr iaaK_congr ixaK_congr bldK_congr mxnK_congr nilcK_congr appYK_congr appXK_congr appZ_congr resK_congr guardS_congr
def boundK (x : Option AV) (d m : Nat) (k : Nat → Prop) (u : Tg k := tg) : Prop := match bound x d m with | some i => k i | none => False
theorem boundK_none {d m : Nat} {q : Nat → Prop} : boundK none d m q = q d := (rfl)
theorem boundK_some {κ : IntKind} {i : Int} {d m : Nat} {q : Nat → Prop} : boundK (some (.int κ i)) d m q = ((0 ≤ i ∧ i ≤ (m : Int)) ∧ q i.toNat) := by
 simp only [boundK, bound]
 by_cases h : 0 ≤ i ∧ i ≤ (m : Int)
 ·rw [if_pos h]; simp [h]
 ·rw [if_neg h]; simp only [h, false_and]
theorem boundK_congr {x x' : Option AV} {d d' m m' : Nat} {k : Nat → Prop} (h1 : x = x') (h2 : d = d') (h3 : m = m') : boundK x d m k = boundK x' d' m' k := by cases h1; cases h2; cases h3; rfl
def sliK (h : List Ob) (es : Nat) (x : AV) (lo hi mx : Option AV) (k : AV → Prop) (u : Tg k := tg) : Prop :=
 match x with
 | .lst xs => match mx with
   | none => boundK hi xs.length xs.length (fun a => boundK lo 0 a (fun l => headOk es xs ∧ k (.lst ((xs.take a).drop l))))
   | some m => match m with
     | .int _ 0 => boundK hi 1 0 (fun a => a = 0 ∧ boundK lo 0 0 (fun _ => k .emp))
     | _ => False
 | .nils => match mx with
   | none => boundK hi 0 0 (fun _ => boundK lo 0 0 (fun _ => k .nils))
   | some m => match m with
     | .int _ 0 => boundK hi 0 0 (fun _ => boundK lo 0 0 (fun _ => hi.isSome = true ∧ k .nils))
     | _ => False
 | .emp => match mx with
   | none => boundK hi 0 0 (fun _ => boundK lo 0 0 (fun _ => k .emp))
   | some m => match m with
     | .int _ 0 => boundK hi 0 0 (fun _ => boundK lo 0 0 (fun _ => hi.isSome = true ∧ k .emp))
     | _ => False
 | .sl r st p ss off len => nodeK h r st p ss (fun nd => ownK nd (fun es' _ => es' = es ∧ match mx with
   | none => boundK hi len len (fun a => boundK lo 0 a (fun l => k (.sl r st p ss (off + l) (a - l))))
   | some m => match m with
     | .int _ 0 => boundK hi 1 0 (fun a => a = 0 ∧ boundK lo 0 0 (fun _ => k .emp))
     | _ => False))
 | _ => False
theorem wpI_sli {G : Prg} {b : Nat} {σ : St} {k : AV → St → Prop} {es : Nat} {x : Opd} {lo hi mx : Option Opd} (hm : mx = none) :
 wpI G (.sli es x lo hi mx) b σ k = sliK σ.h es (σ.get x) (lo.map σ.get) (hi.map σ.get) none (fun v => k v σ) := by
 subst hm
 simp only [wpI, ax, sliK, boundK, headOk]
 cases σ.get x <;> first | rfl | skip
 ·simp only [Option.map_none]
  cases bound (hi.map σ.get) 0 0 with
  | none => rfl
  | some a => simp only; cases bound (lo.map σ.get) 0 0 <;> rfl
 ·simp only [Option.map_none]
  cases bound (hi.map σ.get) 0 0 with
  | none => rfl
  | some a => simp only; cases bound (lo.map σ.get) 0 0 <;> rfl
 ·rename_i xs
  simp only
  cases bound (hi.map σ.get) xs.length xs.length with
  | none => rfl
  | some a =>
    simp only
    cases bound (lo.map σ.get) 0 a with
    | none => rfl
    | some l =>
      simp only
      by_cases hc : (xs.head?.all fun e : AV => e.cells.length == es) = true
      ·rw [if_pos hc]; simp [hc, stepK]
      ·rw [if_neg hc]; simp [hc, stepK]
 ·rename_i r st p ss off len
  simp only [nodeK, ownK]
  cases node σ.h r st p ss with
  | none => rfl
  | some nd =>
    cases nd with
    | own es' xs =>
      simp only
      by_cases he : es' = es
      ·rw [if_pos he]; simp only [he, true_and]
       cases bound (hi.map σ.get) len len with
       | none => rfl
       | some a => simp only; cases bound (lo.map σ.get) 0 a <;> rfl
      ·rw [if_neg he]; simp only [he, false_and, stepK]
    | _ => rfl
theorem sliK_lst {h : List Ob} {es : Nat} {xs : List AV} {lo hi : Option AV} {q : AV → Prop} : sliK h es (.lst xs) lo hi none q = boundK hi xs.length xs.length (fun a => boundK lo 0 a (fun l => headOk es xs ∧ q (.lst ((xs.take a).drop l)))) := (rfl)
theorem sliK_sl {h : List Ob} {es r st ss off len : Nat} {p : Path} {lo hi : Option AV} {q : AV → Prop} : sliK h es (.sl r st p ss off len) lo hi none q = nodeK h r st p ss (fun nd => ownK nd (fun es' _ => es' = es ∧ boundK hi len len (fun a => boundK lo 0 a (fun l => q (.sl r st p ss (off + l) (a - l)))))) := (rfl)
theorem sliK_congr {h h' : List Ob} {es : Nat} {x x' : AV} {lo lo' hi hi' mx mx' : Option AV} {k : AV → Prop} (h1 : h = h') (h2 : x = x') (h3 : lo = lo') (h4 : hi = hi') (h5 : mx = mx') : sliK h es x lo hi mx k = sliK h' es x' lo' hi' mx' k := by cases h1; cases h2; cases h3; cases h4; cases h5; rfl
attribute [congr] sliK_congr boundK_congr
theorem wpY_congr {G : Prg} {l : Nat} {xs ys : List AV} {σ τ : St} {K : AV → St → Prop} (hx : xs = ys) (h : σ = τ) : WpY G l xs σ K = WpY G l ys τ K := by rw [h, hx]
attribute [congr] wpY_congr
section
variable {G : Prg} {b : Nat} {σ : St} {k : AV → St → Prop}
theorem wpI_call {f : FuncId} {xs : List Opd} {ss : List Nat} : wpI G (.call f xs ss) b σ k = WpCall G f (σ.gets xs) b ss σ k := (rfl)
def calvK (G : Prg) (x : AV) (xs : List AV) (b : Nat) (ss : List Nat) (σ : St) (k : AV → St → Prop) (u : Tg k := tg) : Prop :=
 match x with
 | .fn f cs => WpCall G f (xs ++ cs) b ss σ k
 | .yld l => WpY G l xs σ k
 | _ => False
theorem wpI_calv {x : Opd} {xs : List Opd} {ss : List Nat} : wpI G (.calv x xs ss) b σ k = calvK G (σ.get x) (σ.gets xs) b ss σ k := (rfl)
theorem calvK_fn {f : FuncId} {cs xs : List AV} {ss : List Nat} : calvK G (.fn f cs) xs b ss σ k = WpCall G f (xs ++ cs) b ss σ k := (rfl)
theorem calvK_yld {l : Nat} {xs : List AV} {ss : List Nat} : calvK G (.yld l) xs b ss σ k = WpY G l xs σ k := (rfl)
theorem calvK_congr {x x' : AV} {xs xs' : List AV} {ss : List Nat} {τ : St} (h1 : x = x') (h2 : xs = xs') (h3 : σ = τ) : calvK G x xs b ss σ k = calvK G x' xs' b ss τ k := by rw [h1, h2, h3]
attribute [congr] calvK_congr
end
theorem get_t {T : List AV} {h : List Ob} {lp : List Lp} {n : Nat} : St.get ⟨T, h, lp⟩ (.t n) = T.getD n .undef := (rfl)
theorem get_c {σ : St} {v : AV} : σ.get (.c v) = v := (rfl)
theorem put_some {T : List AV} {h : List Ob} {lp : List Lp} {d : Nat} {v : AV} : St.put ⟨T, h, lp⟩ (some d) v = ⟨T.set d v, h, lp⟩ := (rfl)
theorem put_none {T : List AV} {h : List Ob} {lp : List Lp} {v : AV} : St.put ⟨T, h, lp⟩ none v = ⟨T, h, lp⟩ := (rfl)
theorem gets_nil {σ : St} : σ.gets [] = [] := (rfl)
theorem gets_cons {σ : St} {x : Opd} {xs : List Opd} : σ.gets (x :: xs) = σ.get x :: σ.gets xs := (rfl)
theorem headS_eq {nt : Nat} {L ks : List Nat} {d : AV} {l : List (Nat × AV)} {h : List Ob} {lp : List Lp} : headS (rest nt L) ks 0 ⟨aT d nt l, h, lp⟩ = ⟨aT .undef nt (L.map fun k => (k, look d k l)), freeL ks 0 h, lp⟩ := by
 simp only [headS, kill_rest aT_len, free_sites, keepL_aT]
/-! #### values -/
theorem cells_agg {cs : List AV} : (AV.agg cs).cells = cs := (rfl)
theorem cells_int {κ : IntKind} {n : Int} : (AV.int κ n).cells = [.int κ n] := (rfl)
theorem cells_bool {v : Bool} : (AV.bool v).cells = [.bool v] := (rfl)
theorem cells_str {v : ByteArray} : (AV.str v).cells = [.str v] := (rfl)
theorem cells_lst {v : List AV} : (AV.lst v).cells = [.lst v] := (rfl)
theorem cells_nils : AV.nils.cells = [.nils] := (rfl)
theorem cells_emp : AV.emp.cells = [.emp] := (rfl)
theorem cells_undef : AV.undef.cells = [.undef] := (rfl)
theorem cells_own {es : Nat} {xs : List AV} : (AV.own es xs).cells = [.own es xs] := (rfl)
theorem cells_ownm {es : List (AV × AV)} : (AV.ownm es).cells = [.ownm es] := (rfl)
theorem cells_sl {r st : Nat} {p : Path} {ss off len : Nat} : (AV.sl r st p ss off len).cells = [.sl r st p ss off len] := (rfl)
theorem cells_fn {f : FuncId} {cs : List AV} : (AV.fn f cs).cells = [.fn f cs] := (rfl)
theorem cells_pfro {cs : List AV} : (AV.pfro cs).cells = [.pfro cs] := (rfl)
theorem cells_gone : AV.gone.cells = [.gone] := (rfl)
theorem void_one {e : AV} (he : e.void = true) : e.cells = [e] := by cases e <;> first | rfl | (simp [AV.void] at he)
theorem cells_cellv {e : AV} {es : Nat} {xs : List AV} (he : e.void = true) : (cellv e es xs).cells = [cellv e es xs] := by
 unfold cellv; split
 ·exact void_one he
 ·rfl
theorem cells_cellg {e : AV} {xs : List AV} (he : e.void = true) : (cellg e xs).cells = [cellg e xs] := by
 unfold cellg; split
 ·exact void_one he
 ·rfl
theorem cells_rowv {e : AV} {es r st : Nat} {xs : List AV} (he : e.void = true) : (rowv e es r st xs).cells = [rowv e es r st xs] := by
 unfold rowv; split
 ·exact void_one he
 ·rfl
theorem cells_rowc {e : AV} {es r st ss : Nat} {p : Path} {xs : List AV} (he : e.void = true) : (rowc e es r st p ss xs).cells = [rowc e es r st p ss xs] := by
 unfold rowc; split
 ·exact void_one he
 ·rfl
theorem void_nils : AV.nils.void = true := (rfl)
theorem void_emp : AV.emp.void = true := (rfl)
theorem plain_int {κ : IntKind} {n : Int} : (AV.int κ n).plain = true := (rfl)
theorem plain_bool {v : Bool} : (AV.bool v).plain = true := (rfl)
theorem plain_str {v : ByteArray} : (AV.str v).plain = true := (rfl)
theorem plain_lst {v : List AV} : (AV.lst v).plain = true := (rfl)
theorem plain_nils : AV.nils.plain = true := (rfl)
theorem plain_emp : AV.emp.plain = true := (rfl)
theorem plain_undef : AV.undef.plain = true := (rfl)
theorem plain_pfro {cs : List AV} : (AV.pfro cs).plain = true := (rfl)
theorem one_int {h : List Ob} {κ : IntKind} {n : Int} : oneK h (.int κ n) = True := by simp [oneK, okOne, AV.plain]
theorem one_bool {h : List Ob} {v : Bool} : oneK h (.bool v) = True := by simp [oneK, okOne, AV.plain]
theorem one_str {h : List Ob} {v : ByteArray} : oneK h (.str v) = True := by simp [oneK, okOne, AV.plain]
theorem one_lst {h : List Ob} {v : List AV} : oneK h (.lst v) = True := by simp [oneK, okOne, AV.plain]
theorem one_nils {h : List Ob} : oneK h .nils = True := by simp [oneK, okOne, AV.plain]
theorem one_emp {h : List Ob} : oneK h .emp = True := by simp [oneK, okOne, AV.plain]
theorem one_pfro {h : List Ob} {v : List AV} : oneK h (.pfro v) = True := by simp [oneK, okOne, AV.plain]
theorem one_sl {h : List Ob} {r st : Nat} {p : Path} {ss off len : Nat} : oneK h (.sl r st p ss off len) = nodeK h r st p ss (fun nd => ownK nd (fun _ _ => True)) := by
 simp only [oneK, okOne, nodeK, ownK]
 cases node h r st p ss with
 | none => simp
 | some nd => cases nd <;> simp
theorem one_row {e : AV} {h : List Ob} {es r st : Nat} {xs : List AV} (he : e.void = true) (hr : isRow h[r]? st es xs) : oneK h (rowv e es r st xs) = True := by
 unfold rowv
 by_cases hx : xs = []
 ·rw [if_pos hx]; cases e <;> first | exact one_nils | exact one_emp | (simp [AV.void] at he)
 ·rw [if_neg hx, one_sl]; simp only [nodeK, isRow_node hr hx, ownK]
theorem one_cell {e : AV} {h : List Ob} {es r st ss : Nat} {p : Path} {xs : List AV} (he : e.void = true) (hr : isCell h r st p ss e es xs) : oneK h (rowc e es r st p ss xs) = True := by
 unfold rowc
 by_cases hx : xs = []
 ·rw [if_pos hx]; cases e <;> first | exact one_nils | exact one_emp | (simp [AV.void] at he)
 ·rw [if_neg hx, one_sl]; simp only [nodeK, isCell_node hr hx, ownK]
theorem isNode_int {κ : IntKind} {n : Int} : isNode (.int κ n) = false := (rfl)
theorem isNode_bool {v : Bool} : isNode (.bool v) = false := (rfl)
theorem isNode_str {v : ByteArray} : isNode (.str v) = false := (rfl)
theorem isNode_lst {v : List AV} : isNode (.lst v) = false := (rfl)
theorem isNode_nils : isNode .nils = false := (rfl)
theorem isNode_emp : isNode .emp = false := (rfl)
theorem isNode_pfro {v : List AV} : isNode (.pfro v) = false := (rfl)
theorem isNode_fn {f : FuncId} {v : List AV} : isNode (.fn f v) = false := (rfl)
theorem isNode_own {es : Nat} {xs : List AV} : isNode (.own es xs) = true := (rfl)
theorem isNode_gone : isNode .gone = false := (rfl)
theorem isNode_undef : isNode .undef = false := (rfl)
theorem setCellOf_agg {cs : List AV} {j : Nat} {c : AV} : setCellOf (.agg cs) j c = .agg (cs.set j c) := (rfl)
theorem setCellOf_one' {e : AV} (he : e.cells = [e]) {j : Nat} {c : AV} : setCellOf e j c = c := by
 cases e <;> first | rfl | skip
 rename_i cs
 simp only [AV.cells] at he
 have h2 := congrArg SizeOf.sizeOf he
 simp at h2; omega
theorem setCells_nil {e : AV} {j : Nat} : setCells e j [] = e := (rfl)
theorem setCells_cons {e : AV} {j : Nat} {c : AV} {cs : List AV} : setCells e j (c :: cs) = setCells (setCellOf e j c) (j + 1) cs := (rfl)
theorem packV_one {v : AV} : packV [v] = v := (rfl)
theorem packV_nil : packV [] = .tup [] := (rfl)
theorem packV_two {v w : AV} {vs : List AV} : packV (v :: w :: vs) = .tup (v :: w :: vs) := (rfl)
section
variable {B : Nat} {h : List Ob}
theorem treeBL_nil : treeBL B h [] = [] := (rfl)
theorem treeBL_cons {x : AV} {xs : List AV} : treeBL B h (x :: xs) = treeB B h x :: treeBL B h xs := (rfl)
theorem treeB_int {κ : IntKind} {n : Int} : treeB B h (.int κ n) = .int κ n := (rfl)
theorem treeB_bool {v : Bool} : treeB B h (.bool v) = .bool v := (rfl)
theorem treeB_str {v : ByteArray} : treeB B h (.str v) = .str v := (rfl)
theorem treeB_lst {v : List AV} : treeB B h (.lst v) = .lst v := (rfl)
theorem treeB_pfro {v : List AV} : treeB B h (.pfro v) = .pfro v := (rfl)
theorem treeB_nils : treeB B h .nils = .lst [] := (rfl)
theorem treeB_emp : treeB B h .emp = .lst [] := (rfl)
theorem treeB_ne : treeB B h .ne = .lst [] := (rfl)
theorem treeB_agg {v : List AV} : treeB B h (.agg v) = .agg (treeBL B h v) := (rfl)
theorem treeB_tup {v : List AV} : treeB B h (.tup v) = .tup (treeBL B h v) := (rfl)
theorem treeB_fn {f : FuncId} {v : List AV} : treeB B h (.fn f v) = .fn f (treeBL B h v) := (rfl)
theorem treeB_undef : treeB B h .undef = .undef := (rfl)
theorem treeB_nilp : treeB B h .nilp = .nilp := (rfl)
def slV (nd : Option AV) (off len : Nat) : AV := match nd with | some (.own _ xs) => if off + len ≤ xs.length then .lst (((xs.drop off).take len).map frz) else .undef | _ => .undef
def ptrV (nd : Option AV) (i j : Nat) : AV := match nd with | some (.own _ xs) => (match xs[i]? with | some e => .pfro ((e.cells.drop j).map frz) | none => .undef) | _ => .undef
theorem treeB_sl {r st : Nat} {p : Path} {ss off len : Nat} : treeB 0 h (.sl r st p ss off len) = slV (node h r st p ss) off len := by
 simp only [treeB, Nat.not_lt_zero, if_false, tree, slV]
 cases node h r st p ss with
 | none => rfl
 | some nd => cases nd <;> rfl
theorem treeB_ptr {r st : Nat} {p : Path} {ss i j : Nat} : treeB 0 h (.ptr r st p ss i j) = ptrV (node h r st p ss) i j := by
 simp only [treeB, Nat.not_lt_zero, if_false, tree, ptrV]
 cases node h r st p ss with
 | none => rfl
 | some nd => cases nd <;> rfl
theorem slV_own {es : Nat} {xs : List AV} {off len : Nat} : slV (some (.own es xs)) off len = if off + len ≤ xs.length then .lst (((xs.drop off).take len).map frz) else .undef := (rfl)
theorem ptrV_0 {es : Nat} {e : AV} {xs : List AV} {j : Nat} : ptrV (some (.own es (e :: xs))) 0 j = .pfro ((e.cells.drop j).map frz) := (rfl)
theorem treeB_row {e : AV} {es r st : Nat} {xs : List AV} (he : e.void = true) (hr : isRow h[r]? st es xs) : treeB 0 h (rowv e es r st xs) = .lst (xs.map frz) := by
 unfold rowv
 by_cases hx : xs = []
 ·subst hx; rw [if_pos rfl]; cases e <;> first | rfl | (simp [AV.void] at he)
 ·rw [if_neg hx, treeB_sl, isRow_node hr hx, slV_own]; simp
theorem treeB_cell {e : AV} {es r st ss : Nat} {p : Path} {xs : List AV} (he : e.void = true) (hr : isCell h r st p ss e es xs) : treeB 0 h (rowc e es r st p ss xs) = .lst (xs.map frz) := by
 unfold rowc
 by_cases hx : xs = []
 ·subst hx; rw [if_pos rfl]; cases e <;> first | rfl | (simp [AV.void] at he)
 ·rw [if_neg hx, treeB_sl, isCell_node hr hx, slV_own]; simp
end
theorem frz_int {κ : IntKind} {n : Int} : frz (.int κ n) = .int κ n := (rfl)
theorem frz_bool {v : Bool} : frz (.bool v) = .bool v := (rfl)
theorem frz_str {v : ByteArray} : frz (.str v) = .str v := (rfl)
theorem frz_lst {v : List AV} : frz (.lst v) = .lst v := (rfl)
theorem frz_pfro {v : List AV} : frz (.pfro v) = .pfro v := (rfl)
theorem frz_nils : frz .nils = .lst [] := (rfl)
theorem frz_emp : frz .emp = .lst [] := (rfl)
theorem frz_undef : frz .undef = .undef := (rfl)
theorem frz_agg {v : List AV} : frz (.agg v) = .agg (v.map frz) := by simp [frz, frzL_map]
theorem frz_own {es : Nat} {v : List AV} : frz (.own es v) = .lst (v.map frz) := by simp [frz, frzL_map]
theorem frz_fn {f : FuncId} {v : List AV} : frz (.fn f v) = .fn f (v.map frz) := by simp [frz, frzL_map]
theorem frz_cellv {e : AV} {es : Nat} {xs : List AV} (he : e.void = true) : frz (cellv e es xs) = .lst (xs.map frz) := by
 unfold cellv
 by_cases hx : xs = []
 ·subst hx; rw [if_pos rfl]; cases e <;> first | rfl | (simp [AV.void] at he)
 ·rw [if_neg hx, frz_own]
theorem node_eval {h : List Ob} {r st : Nat} {p : Path} {ss : Nat} : node h r st p ss = match h[r]? with | some o => if o.st = st ∧ (p = [] ∨ o.ss = ss) then nav o.c p else none | none => none := (rfl)
theorem nav_nil' {x : AV} : nav x [] = some x := by simp [nav]
theorem nav_own {es : Nat} {xs : List AV} {i j : Nat} {p : Path} : nav (.own es xs) ((i, j) :: p) = match xs[i]? with | some e => (match e.cells[j]? with | some c => nav c p | none => none) | none => none := (rfl)
theorem flats_int {κ : IntKind} {n : Int} : (AV.int κ n).flats = true := (rfl)
theorem flats_bool {v : Bool} : (AV.bool v).flats = true := (rfl)
theorem flats_str {v : ByteArray} : (AV.str v).flats = true := (rfl)
theorem freeL_nil {L : List Nat} {k : Nat} : freeL L k [] = [] := (rfl)
theorem freeL_cons {L : List Nat} {k : Nat} {o : Ob} {t : List Ob} : freeL L k (o :: t) = (if L.contains k then { o with c := .gone } else o) :: freeL L (k + 1) t := (rfl)
theorem entry_eq {nt ns : Nat} {xs : List AV} (h : xs.length ≤ nt) : entry nt ns xs = { t := aT (.tup []) nt (idxL 0 xs), h := List.replicate ns goneOb, lp := [] } := by
 unfold entry; rw [entry_aT h]
theorem idxL_nil {k : Nat} : idxL k [] = [] := (rfl)
theorem idxL_cons {k : Nat} {x : AV} {xs : List AV} : idxL k (x :: xs) = (k, x) :: idxL (k + 1) xs := (rfl)
theorem look_cons {d : AV} {k j : Nat} {v : AV} {l : List (Nat × AV)} : look d k ((j, v) :: l) = if j = k then v else look d k l := (rfl)
theorem look_nil {d : AV} {k : Nat} : look d k [] = d := (rfl)
theorem elK_aT {d : AV} {nt k : Nat} {l : List (Nat × AV)} {q : AV → Prop} (h : k < nt) : elK (aT d nt l) k q = q (look d k l) := by
 simp only [elK, aT_get h]
theorem isRow_row {st ss es : Nat} {xs : List AV} : isRow (some ⟨st, ss, rowo es xs⟩) st es xs = True := by simp [isRow]
theorem isCell_eq {h : List Ob} {r st ss es : Nat} {p : Path} {e : AV} {xs : List AV} : isCell h r st p ss e es xs = nodeK h r st p ss (fun nd => nd = cellv e es xs) := (rfl)
theorem rowv_app {e : AV} {es r st : Nat} {xs : List AV} {y : AV} : rowv e es r st (xs ++ [y]) = .sl r st [] 0 0 (xs.length + 1) := by simp [rowv]
theorem rowo_app {es : Nat} {xs : List AV} {y : AV} : rowo es (xs ++ [y]) = .own es (xs ++ [y]) := by simp [rowo]
theorem cellv_app {e : AV} {es : Nat} {xs : List AV} {y : AV} : cellv e es (xs ++ [y]) = .own es (xs ++ [y]) := by simp [cellv]
theorem rowv_nil {e : AV} {es r st : Nat} : rowv e es r st [] = e := by simp [rowv]
theorem rowo_nil {es : Nat} : rowo es [] = .gone := by simp [rowo]
theorem cellv_nil {e : AV} {es : Nat} : cellv e es [] = e := by simp [cellv]
theorem ownK_rowo {es : Nat} {xs : List AV} {q : Nat → List AV → Prop} : ownK (rowo es xs) q = (xs ≠ [] ∧ q es xs) := by
 unfold rowo; by_cases h : xs = [] <;> simp [h, ownK]
theorem ownK_cellv {e : AV} {es : Nat} {xs : List AV} {q : Nat → List AV → Prop} (he : e.void = true) : ownK (cellv e es xs) q = (xs ≠ [] ∧ q es xs) := by
 unfold cellv; by_cases h : xs = []
 ·cases e <;> first | (simp [AV.void] at he; done) | simp [h, ownK]
 ·simp [h, ownK]
theorem iadK_row {e : AV} {h : List Ob} {es r st : Nat} {xs : List AV} {κ : IntKind} {i : Int} {q : AV → Prop} (he : e.void = true) (hr : isRow h[r]? st es xs) :
 iadK h es (rowv e es r st xs) (.int κ i) q = ((0 ≤ i ∧ i < (xs.length : Int)) ∧ q (.ptr r st [] 0 i.toNat 0)) := by
 unfold rowv
 by_cases hx : xs = []
 ·subst hx; rw [if_pos rfl]
  have h0 : ¬ (0 ≤ i ∧ i < (([] : List AV).length : Int)) := by simp
  simp only [h0, false_and]
  cases e <;> first | (simp [AV.void] at he; done) | rfl
 ·rw [if_neg hx, iadK_sl]; simp only [nodeK, isRow_node hr hx, ownK, true_and, Nat.zero_add]
theorem iadK_cell {e : AV} {h : List Ob} {es r st ss : Nat} {p : Path} {xs : List AV} {κ : IntKind} {i : Int} {q : AV → Prop} (he : e.void = true) (hr : isCell h r st p ss e es xs) :
 iadK h es (rowc e es r st p ss xs) (.int κ i) q = ((0 ≤ i ∧ i < (xs.length : Int)) ∧ q (.ptr r st p ss i.toNat 0)) := by
 unfold rowc
 by_cases hx : xs = []
 ·subst hx; rw [if_pos rfl]
  have h0 : ¬ (0 ≤ i ∧ i < (([] : List AV).length : Int)) := by simp
  simp only [h0, false_and]
  cases e <;> first | (simp [AV.void] at he; done) | rfl
 ·rw [if_neg hx, iadK_sl]; simp only [nodeK, isCell_node hr hx, ownK, true_and, Nat.zero_add]
theorem navK_cellv {e : AV} {es : Nat} {xs : List AV} {i j : Nat} {p : Path} {q : AV → Prop} (he : e.void = true) : navK (cellv e es xs) ((i, j) :: p) q = elK xs i (fun x => elK x.cells j (fun c => navK c p q)) := by
 unfold cellv; by_cases h : xs = []
 ·subst h
  rw [if_pos rfl]
  cases e <;> first | (simp [AV.void] at he; done) | (simp [navK, nav, elK]; done)
 ·rw [if_neg h, navK_cons]
theorem navK_rowo {es : Nat} {xs : List AV} {i j : Nat} {p : Path} {q : AV → Prop} : navK (rowo es xs) ((i, j) :: p) q = elK xs i (fun x => elK x.cells j (fun c => navK c p q)) := by
 unfold rowo; by_cases h : xs = []
 ·subst h; simp [navK, nav, elK]
 ·rw [if_neg h, navK_cons]
theorem yob_plain {ys : List AV} {o : Ob} (h : allPlain2 ys = true) : yob ys o = o := by simp [yob, h]
theorem yob_ss {ys : List AV} {o : Ob} : (yob ys o).ss = o.ss := by unfold yob; split <;> rfl
theorem take_all {xs : List AV} {n : Nat} (h : xs.length = n) : xs.take n = xs := by rw [List.take_of_length_le (by omega)]
theorem allPlain2_nil : allPlain2 [] = true := (rfl)
theorem allPlain2_cons {y : AV} {ys : List AV} : allPlain2 (y :: ys) = (y.cells.all AV.plain && allPlain2 ys) := (rfl)
theorem map_frz {α : Type} {f : α → AV} {l : List α} (h : ∀ x, frz (f x) = f x) : (l.map f).map frz = l.map f := by
 rw [List.map_map]; exact List.map_congr_left (fun x _ => h x)
theorem goneOb_eq : goneOb = ⟨0, 0, .gone⟩ := (rfl)
end Go.Mw
/- How simp steps through code: the set. -/
namespace Go.Mw
attribute [go_sem] wp_seq wp_reg wp_drw0 wp_blk wp_skip wp_exit wp_ret wp_condC wpO_nil wpO_cons wpO_consS guardS_tup
 wpI_mov wpI_pick pickK_bool wpI_bin bin_add bin_sub bin_mul bin_quo bin_rem bin_and bin_or bin_xor bin_andNot bin_shl bin_shr bin_eql bin_neq bin_lss bin_leq bin_gtr bin_geq bin_seql bin_sneq bin_slss bin_sadd
 wpI_beq beqK_bool wpI_un un_not un_neg wpI_cvi cviK_int wpI_mkf wpI_eqa eqaK_i1 eqaK_i2 wpI_ext extK_0 extK_s wpI_bxf bxfK_lst wpI_lens lensK_str wpI_lenl lenlK_lst lenlK_nils lenlK_emp lenlK_ne lenlK_sl
 ownK_own obK_some nodeK_eq navK_nil navK_cons elK_map elK_0 elK_s elK_nil wpI_iad iadK_lst iadK_sl wpI_idx idxK_str
 newK_eq goneK_gone allPlain_nil allPlain_cons wpI_alc updK_nil updK_cons setObK_eq vcellsK_agg takeCellsK_nil takeCellsK_cons takeCellK_sl takeValK_eq takeValsK_nil takeValsK_cons remake_agg
 wpI_box wpI_bsl wpI_mkm mksK_int wpI_mks outvK_own outvK_ownm outLK_nil outLK_cons headK_cons wpI_ld ldK_pfro ldK_ptr wpI_sto stoK_ptr wpI_fad fadK_pfro fadK_ptr wpI_fld fldK_agg wpI_iaa iaaK_pfro iaaK_ptr
 bldK_nil bldK_cons wpI_bld wpI_mxn mxnK_int wpI_nilc nilcK_nils nilcK_ne nilcK_lst wpI_ixa ixaK_agg
 wpI_app appYK_nils appYK_emp appYK_ne appYK_lst headOk_nil headOk_cons appXK_nils appXK_emp appXK_sl appZ_cons freeAt_gone freeAt_goneOb stOf_some ssOf_some isRow_some
 Done_nrm Done_ret resK_nil resK_t resK_c wpI_call wpI_calv calvK_fn calvK_yld get_t get_c put_some put_none gets_nil gets_cons
 cells_agg cells_int cells_bool cells_str cells_lst cells_nils cells_emp cells_undef cells_own cells_ownm cells_sl cells_fn cells_pfro cells_gone void_nils void_emp plain_int plain_bool plain_str plain_lst plain_nils plain_emp plain_undef plain_pfro
 one_int one_bool one_str one_lst one_nils one_emp one_pfro one_sl isNode_int isNode_bool isNode_str isNode_lst isNode_nils isNode_emp isNode_pfro isNode_fn isNode_own isNode_gone isNode_undef
 setCellOf_agg setCells_nil setCells_cons packV_one packV_nil packV_two treeBL_nil treeBL_cons treeB_int treeB_bool treeB_str treeB_lst treeB_pfro treeB_nils treeB_emp treeB_ne treeB_agg treeB_tup treeB_fn treeB_undef treeB_nilp treeB_sl treeB_ptr
 slV_own ptrV_0 frz_int frz_bool frz_str frz_lst frz_pfro frz_nils frz_emp frz_undef frz_agg frz_own frz_fn node_eval nav_nil' nav_own flats_int flats_bool flats_str goneOb_eq
 freeL_nil freeL_cons entry_eq idxL_nil idxL_cons look_cons look_nil aT_len aT_get aT_getD aT_set elK_aT headS_eq
attribute [go_sem] ownK_rowo ownK_cellv iadK_row iadK_cell navK_cellv navK_rowo
attribute [go_sem] yob_plain yob_st yob_ss take_all allPlain2_nil allPlain2_cons map_frz
attribute [go_sem] isRow_row lenlK_row one_row treeB_row isCell_eq lenlK_cell one_cell treeB_cell appXK_row isLst_row takeCellK_row outvK_cell appXK_cell isLst_cell isNode_cellg takeCellK_cell cells_cellv cells_cellg cells_rowv cells_rowc frz_cellv appYK_sl appZ_nils appZ_emp rowv_app rowo_app cellv_app rowv_nil rowo_nil cellv_nil
attribute [go_sem] guardS_T guardT_bool condK_T condT_bool
attribute [go_sem] boundK_none boundK_some wpI_sli sliK_lst sliK_sl headOk_map Option.map_some Option.map_none
attribute [go_sem] vcellsK_one takeCellK_plain remake_one outvK_plain setCellOf_one'
attribute [go_sem] List.set_cons_zero List.set_cons_succ List.getElem?_cons_zero List.getElem?_cons_succ List.getD_cons_zero List.getD_cons_succ List.length_cons List.length_nil List.length_map List.map_cons List.map_nil List.cons_append List.nil_append List.append_nil
 List.take_zero List.take_succ_cons List.drop_zero List.drop_succ_cons List.take_nil List.drop_nil List.any_cons List.any_nil List.all_cons List.all_nil List.length_append List.length_replicate List.contains_cons List.contains_nil
 Nat.zero_add Nat.add_zero if_true if_false true_and and_true false_and and_false eq_self not_true_eq_false not_false_eq_true Bool.false_eq_true Bool.true_eq_false decide_true decide_false Bool.not_true Bool.not_false Bool.or_false Bool.or_true Bool.false_or Bool.true_or Bool.and_true Bool.true_and Bool.and_false Bool.false_and
 false_implies true_implies implies_true forall_const decide_eq_true_eq decide_eq_false_iff_not or_true true_or or_false false_or and_self ite_self Bool.not_eq_true' Bool.not_eq_false' beq_self_eq_true Int.toNat_natCast Int.natCast_nonneg reduceCtorEq ite_true ite_false Nat.le_refl ne_eq
attribute [go_sem] Nat.reduceAdd Nat.reduceMul Nat.reduceSub Nat.reduceEqDiff Nat.reduceLT Nat.reduceLeDiff Nat.reduceBEq Nat.reduceBNe Nat.reduceGT Int.reduceAdd Int.reduceSub Int.reduceMul Int.reduceLT Int.reduceLE Int.reduceEq Int.reduceNeg Int.reduceToNat Int.reduceBEq List.reduceReplicate Int.reducePow Int.cast_ofNat_Int Int.reduceNe Int.reduceBNe
end Go.Mw
/- Calls by value, as rules for simp. -/
namespace Go.Mw
def callX (G : Prg) (n : Nat) (F : IF) (xs : List AV) (fr : Bool) (roots : List Nat) (b : Nat) (ss : List Nat) (h : List Ob) : Option (AV × List Ob) :=
 if splits F xs then match runF G n F [.nils] [] [], runF G n F [.ne] [] [] with
  | some ([x], _), some ([y], _) => if x.void && y.void then some (if F.fo && !ss.isEmpty then .emp else .lst [], h) else none
  | _, _ => none
 else match runF G n F xs [] [] with
  | some (rs, σ1) => give (F.fo && !ss.isEmpty) 0 σ1.h (if fr || rs.all AV.flats then h else dropRoots h roots) b ss rs
  | none => none
theorem callX_mono {G : Prg} {n m : Nat} (hn : n ≤ m) {F : IF} {xs : List AV} {fr : Bool} {roots : List Nat} {b : Nat} {ss : List Nat} {h : List Ob} {r : AV × List Ob} (hx : callX G n F xs fr roots b ss h = some r) :
 callX G m F xs fr roots b ss h = some r := by
 have M := (monoLe (G := G) hn).2.2.2.1
 unfold callX at hx ⊢
 split at hx
 ·rename_i hs
  rw [if_pos hs]
  split at hx
  ·rename_i x σ1 y σ2 e1 e2
   rw [M _ _ _ _ _ e1, M _ _ _ _ _ e2]; exact hx
  ·cases hx
 ·rename_i hs
  rw [if_neg hs]
  split at hx
  ·rename_i rs σ1 e1
   rw [M _ _ _ _ _ e1]; exact hx
  ·cases hx
def callT (G : Prg) (f : FuncId) (xs : List AV) (fr : Bool) (roots : List Nat) (b : Nat) (ss : List Nat) (σ : St) (k : AV → St → Prop) (u : Tg k := tg) : Prop :=
 ∃ F n v h, G f = some F ∧ xs.length = F.np ∧ callX G n F xs fr roots b ss σ.h = some (v, h) ∧ k v { σ with h }
theorem callT_congr {G : Prg} {f : FuncId} {b : Nat} {ss : List Nat} {k : AV → St → Prop} {xs xs' : List AV} {fr fr' : Bool} {roots roots' : List Nat} {σ σ' : St} (h1 : xs = xs') (h2 : fr = fr') (h3 : roots = roots') (h4 : σ = σ') :
 callT G f xs fr roots b ss σ k = callT G f xs' fr' roots' b ss σ' k := by rw [h1, h2, h3, h4]
attribute [congr] callT_congr
def PureF (G : Prg) (f : FuncId) : Prop := ∃ F, G f = some F ∧ F.pure = true
theorem wpCall_T {G : Prg} {f : FuncId} {ys : List AV} {b : Nat} {ss : List Nat} {σ : St} {k : AV → St → Prop} (hp : PureF G f) :
 WpCall G f ys b ss σ k = callT G f (treeBL 0 σ.h ys) (ys.all AV.free) (rootsL ys) b ss σ k := by
 obtain ⟨F, hF, hpu⟩ := hp
 refine propext ⟨fun ⟨n, v, σ', h, q⟩ => ?_, fun ⟨F', n, v, h, e1, e2, e3, q⟩ => ?_⟩
 ·cases n with
  | zero => simp [callF] at h
  | succ n =>
    rw [callF, hF] at h
    simp only [hpu, if_true] at h
    split at h
    ·rename_i hl
     refine ⟨F, n, v, σ'.h, hF, by rw [treeBL_len]; exact hl, ?_, ?_⟩
     ·unfold callX
      split at h
      ·rename_i hs
       rw [if_pos hs]
       split at h
       ·rename_i x1 s1 x2 s2 e1 e2
        rw [e1, e2]
        simp only at h ⊢
        split at h
        ·rename_i hv; rw [if_pos hv]; simp only [Option.some.injEq, Prod.mk.injEq] at h; obtain ⟨rfl, rfl⟩ := h; rfl
        ·cases h
       ·cases h
      ·rename_i hs
       rw [if_neg hs]
       split at h
       ·rename_i rs s1 e1
        rw [e1]
        simp only at h ⊢
        split at h
        ·rename_i v1 h1 hg
         simp only [Option.some.injEq, Prod.mk.injEq] at h; obtain ⟨rfl, rfl⟩ := h; exact hg
        ·cases h
       ·cases h
     ·have : ({ σ with h := σ'.h } : St) = σ' := by
       split at h
       ·split at h
        ·split at h
         ·simp only [Option.some.injEq, Prod.mk.injEq] at h; obtain ⟨rfl, rfl⟩ := h; rfl
         ·cases h
        ·cases h
       ·split at h
        ·split at h
         ·simp only [Option.some.injEq, Prod.mk.injEq] at h; obtain ⟨rfl, rfl⟩ := h; rfl
         ·cases h
        ·cases h
      rw [this]; exact q
    ·cases h
 ·rw [hF] at e1; cases e1
  rw [treeBL_len] at e2
  refine ⟨n + 1, v, { σ with h }, ?_, q⟩
  rw [callF, hF]
  simp only [hpu, if_true, e2]
  unfold callX at e3
  split at e3
  ·rename_i hs
   rw [if_pos hs]
   split at e3
   ·rename_i x1 s1 x2 s2 e4 e5
    rw [e4, e5]
    simp only
    split at e3
    ·rename_i hv; rw [if_pos hv]; simp only [Option.some.injEq, Prod.mk.injEq] at e3; obtain ⟨rfl, rfl⟩ := e3; rfl
    ·cases e3
   ·cases e3
  ·rename_i hs
   rw [if_neg hs]
   split at e3
   ·rename_i rs s1 e4
    rw [e4]; simp only
    rw [e3]
   ·cases e3
theorem callT_of {G : Prg} {f : FuncId} {xs : List AV} {fr : Bool} {roots : List Nat} {b : Nat} {ss : List Nat} {σ : St} {k : AV → St → Prop} {F : IF} (hF : G f = some F) (hl : xs.length = F.np) {n : Nat} {v : AV} {h : List Ob}
 (hx : callX G n F xs fr roots b ss σ.h = some (v, h)) : callT G f xs fr roots b ss σ k = k v { σ with h } := by
 refine propext ⟨fun ⟨F', m, v', h', e1, e2, e3, q⟩ => ?_, fun q => ⟨F, n, v, h, hF, hl, hx, q⟩⟩
 rw [hF] at e1; cases e1
 have h1 := callX_mono (Nat.le_max_left n m) hx
 have h2 := callX_mono (Nat.le_max_right n m) e3
 rw [h1] at h2; cases h2
 exact q
theorem FnT.rule {G : Prg} {f : FuncId} {xs : List AV} {r : AV} (h : FnT G f xs r) {fr : Bool} {roots : List Nat} {b : Nat} {ss : List Nat} {σ : St} {k : AV → St → Prop} : callT G f xs fr roots b ss σ k = k r σ := by
 obtain ⟨F, n, rs, σ1, hf, h1, h2, h3, h4, hr, hR, hfl⟩ := h
 refine callT_of (n := n) (h := σ.h) hf h1 ?_
 unfold callX
 rw [h4]; simp only [Bool.false_eq_true, if_false, hr, hfl, Bool.or_true, if_true, give, h3, Bool.false_and, hR]
theorem Fn.rule {G : Prg} {f : FuncId} {xs : List AV} {r : AV} (h : Fn G f xs r) {roots : List Nat} {b : Nat} {ss : List Nat} {σ : St} {k : AV → St → Prop} : callT G f xs true roots b ss σ k = k r σ := by
 obtain ⟨F, n, rs, σ1, hf, h1, h2, h3, h4, hr, hR⟩ := h
 refine callT_of (n := n) (h := σ.h) hf h1 ?_
 unfold callX
 rw [h4]; simp only [Bool.false_eq_true, if_false, hr, Bool.true_or, if_true, give, h3, Bool.false_and, hR]
theorem Fn.rule2 {G : Prg} {f : FuncId} {xs : List AV} {r : AV} (h : Fn G f xs r) {roots : List Nat} {b : Nat} {ss : List Nat} {σ : St} {k : AV → St → Prop} (h1 : k r σ) (h2 : k r { σ with h := dropRoots σ.h roots }) : callT G f xs false roots b ss σ k := by
 obtain ⟨F, n, rs, σ1, hf, h1', h2', h3, h4, hr, hR⟩ := h
 refine ⟨F, n, r, if rs.all AV.flats then σ.h else dropRoots σ.h roots, hf, h1', ?_, ?_⟩
 ·unfold callX
  rw [h4]; simp only [Bool.false_eq_true, if_false, hr, Bool.false_or, give, h3, Bool.false_and, hR]
 ·split
  ·exact h1
  ·exact h2
structure FnS (G : Prg) (f : FuncId) (xs : List AV) (r : AV) : Prop where
 ok : ∃ F n, G f = some F ∧ xs.length = F.np ∧ F.pure = true ∧ callX G n F xs true [] 0 [] [] = some (r, [])
theorem FnS.rule {G : Prg} {f : FuncId} {xs : List AV} {r : AV} (h : FnS G f xs r) {roots : List Nat} {b : Nat} {σ : St} {k : AV → St → Prop} : callT G f xs true roots b [] σ k = k r σ := by
 obtain ⟨F, n, hf, h1, h2, hx⟩ := h
 refine callT_of (n := n) (h := σ.h) hf h1 ?_
 unfold callX at hx ⊢
 split at hx
 ·rename_i hs
  rw [if_pos hs]
  split at hx
  ·rename_i x1 s1 x2 s2 e4 e5
   split at hx
   ·rename_i hv; rw [if_pos hv]; simp only [Option.some.injEq, Prod.mk.injEq] at hx; rw [hx.1]
   ·cases hx
  ·cases hx
 ·rename_i hs
  rw [if_neg hs]
  split at hx
  ·rename_i rs s1 e4
   simp only [List.isEmpty_nil, Bool.not_true, Bool.and_false, give, Bool.true_or, if_true, Option.some.injEq, Prod.mk.injEq] at hx ⊢
   exact ⟨hx.1, trivial⟩
  ·cases hx
/-! #### is it free?, where does it point? -/
theorem free_int {κ : IntKind} {n : Int} : (AV.int κ n).free = true := (rfl)
theorem free_bool {v : Bool} : (AV.bool v).free = true := (rfl)
theorem free_str {v : ByteArray} : (AV.str v).free = true := (rfl)
theorem free_lst {v : List AV} : (AV.lst v).free = true := (rfl)
theorem free_nils : AV.nils.free = true := (rfl)
theorem free_emp : AV.emp.free = true := (rfl)
theorem free_pfro {v : List AV} : (AV.pfro v).free = true := (rfl)
theorem free_sl {r st : Nat} {p : Path} {ss off len : Nat} : (AV.sl r st p ss off len).free = false := (rfl)
theorem free_ptr {r st : Nat} {p : Path} {ss i j : Nat} : (AV.ptr r st p ss i j).free = false := (rfl)
theorem free_fn {f : FuncId} {v : List AV} : (AV.fn f v).free = v.all AV.free1 := (rfl)
def freeC (c : AV) : Bool := match c with | .fn _ ds => ds.all AV.free1 | c => c.free1
theorem free_agg {v : List AV} : (AV.agg v).free = v.all freeC := (rfl)
theorem freeC_fn {f : FuncId} {v : List AV} : freeC (.fn f v) = v.all AV.free1 := (rfl)
theorem freeC_int {κ : IntKind} {n : Int} : freeC (.int κ n) = true := (rfl)
theorem freeC_bool {v : Bool} : freeC (.bool v) = true := (rfl)
theorem freeC_str {v : ByteArray} : freeC (.str v) = true := (rfl)
theorem freeC_lst {v : List AV} : freeC (.lst v) = true := (rfl)
theorem freeC_nils : freeC .nils = true := (rfl)
theorem freeC_emp : freeC .emp = true := (rfl)
theorem freeC_pfro {v : List AV} : freeC (.pfro v) = true := (rfl)
theorem freeC_sl {r st : Nat} {p : Path} {ss off len : Nat} : freeC (.sl r st p ss off len) = false := (rfl)
theorem free1_int {κ : IntKind} {n : Int} : (AV.int κ n).free1 = true := (rfl)
theorem free1_bool {v : Bool} : (AV.bool v).free1 = true := (rfl)
theorem free1_str {v : ByteArray} : (AV.str v).free1 = true := (rfl)
theorem free1_lst {v : List AV} : (AV.lst v).free1 = true := (rfl)
theorem free1_pfro {v : List AV} : (AV.pfro v).free1 = true := (rfl)
theorem free1_ptr {r st : Nat} {p : Path} {ss i j : Nat} : (AV.ptr r st p ss i j).free1 = false := (rfl)
theorem free1_sl {r st : Nat} {p : Path} {ss off len : Nat} : (AV.sl r st p ss off len).free1 = false := (rfl)
attribute [go_sem] free_int free_bool free_str free_lst free_nils free_emp free_pfro free_sl free_ptr free_fn free_agg freeC_fn freeC_int freeC_bool freeC_str freeC_lst freeC_nils freeC_emp freeC_pfro freeC_sl free1_int free1_bool free1_str free1_lst free1_pfro free1_ptr free1_sl
structure FnQ (G : Prg) (f : FuncId) (xs : List AV) (R : List AV → List Ob → Prop) : Prop where
 ok : ∃ F n rs σ1, G f = some F ∧ xs.length = F.np ∧ F.pure = true ∧ splits F xs = false ∧ runF G n F xs [] [] = some (rs, σ1) ∧ R rs σ1.h ∧ F.fo = true
theorem FnQ.mk' {G : Prg} {f : FuncId} {xs : List AV} {R : List AV → List Ob → Prop} {np nt ns : Nat} {c : C} {res : List (Nat × Option (Bool × Nat))} {sp : Bool} (hf : G f = some ⟨np, nt, ns, c, res, true, true, sp⟩)
 (h1 : xs.length = np) (h4 : splits ⟨np, nt, ns, c, res, true, true, sp⟩ xs = false) (h : Wp G c 0 (entry nt ns xs) (Done res R)) : FnQ G f xs R := by
 obtain ⟨n, e, σ1, hx, hd⟩ := h
 have hx' : evC G n c ([] : List Ob).length { t := xs ++ List.replicate (nt - np) (.tup []), h := [] ++ List.replicate ns goneOb, lp := [] } = some (e, σ1) := by rw [← h1]; exact hx
 unfold Done at hd
 cases e with
 | ext i => exact hd.elim
 | nrm =>
   simp only at hd
   cases hr : resT σ1 res with
   | none => simp [hr] at hd
   | some rs => simp only [hr] at hd; exact ⟨_, n + 1, rs, σ1, hf, h1, rfl, h4, by rw [runF, hx']; simp only [hr], hd, rfl⟩
 | ret =>
   simp only at hd
   cases hr : resT σ1 res with
   | none => simp [hr] at hd
   | some rs => simp only [hr] at hd; exact ⟨_, n + 1, rs, σ1, hf, h1, rfl, h4, by rw [runF, hx']; simp only [hr], hd, rfl⟩
theorem FnQ.mono {G : Prg} {f : FuncId} {xs : List AV} {R S : List AV → List Ob → Prop} (h : FnQ G f xs R) (hs : ∀ rs h, R rs h → S rs h) : FnQ G f xs S := by
 obtain ⟨F, n, rs, σ1, hf, h1, h2, h4, hr, hR, h3⟩ := h
 exact ⟨F, n, rs, σ1, hf, h1, h2, h4, hr, hs _ _ hR, h3⟩
theorem FnQ.rule {G : Prg} {f : FuncId} {xs : List AV} {r : AV} (h : FnQ G f xs fun rs h => packV (treeBL 0 h rs) = r) {roots : List Nat} {b : Nat} {σ : St} {k : AV → St → Prop} : callT G f xs true roots b [] σ k = k r σ := by
 obtain ⟨F, n, rs, σ1, hf, h1, h2, h4, hr, hR, h3⟩ := h
 refine callT_of (n := n) (h := σ.h) hf h1 ?_
 unfold callX
 rw [h4]; simp only [Bool.false_eq_true, if_false, hr, Bool.true_or, if_true, give, List.isEmpty_nil, Bool.not_true, Bool.and_false, hR]
structure FnO (G : Prg) (f : FuncId) (xs : List AV) (es : Nat) (ys : List AV) : Prop where
 ok : ∃ F n r st p ss σ1, G f = some F ∧ xs.length = F.np ∧ F.pure = true ∧ F.fo = true ∧ splits F xs = false ∧ runF G n F xs [] [] = some ([.sl r st p ss 0 ys.length], σ1) ∧ node σ1.h r st p ss = some (.own es ys)
 pl : ys.all (fun e : AV => e.cells.all AV.plain) = true
theorem FnO.rule {G : Prg} {f : FuncId} {xs : List AV} {es : Nat} {ys : List AV} (h : FnO G f xs es ys) {fr : Bool} {roots : List Nat} {b s : Nat} {σ : St} {k : AV → St → Prop} :
 callT G f xs fr roots b [s] σ k = newK (if fr then σ.h else dropRoots σ.h roots) (b + s) (.own es ys) (fun h st => k (.sl (b + s) st [] 0 0 ys.length) { σ with h }) := by
 obtain ⟨⟨F, n, r, st, p0, sb, σ1, hf, h1, h2, h3, h4, hr, hn⟩, hp⟩ := h
 have hfl : ([AV.sl r st p0 sb 0 ys.length]).all AV.flats = false := rfl
 unfold newK
 cases hnew : newOb (if fr then σ.h else dropRoots σ.h roots) (b + s) (.own es ys) with
 | some p =>
   obtain ⟨h', st'⟩ := p
   refine callT_of (n := n) (h := h') hf h1 ?_
   unfold callX
   rw [h4]; simp only [Bool.false_eq_true, if_false, hr, hfl, Bool.or_false, give, h3, List.isEmpty_cons, Bool.not_false, Bool.true_and, Nat.zero_le, if_true, hn, hp, and_self, hnew]
 | none =>
   refine propext ⟨fun ⟨F', m, v, h', e1, e2, e3, q⟩ => ?_, False.elim⟩
   rw [hf] at e1; cases e1
   have e4 := callX_mono (Nat.le_max_right n m) e3
   unfold callX at e4
   rw [h4] at e4
   have hr2 := ((monoLe (G := G) (Nat.le_max_left n m)).2.2.2.1 _ _ _ _ _ hr)
   simp only [Bool.false_eq_true, if_false, hr2, hfl, Bool.or_false, give, h3, List.isEmpty_cons, Bool.not_false, Bool.true_and, Nat.zero_le, if_true, hn, hp, and_self, hnew, reduceCtorEq] at e4
theorem FnQ.rule2 {G : Prg} {f : FuncId} {xs : List AV} {κ : IntKind} {n : Int} {es : Nat} {ys : List AV} (h : FnQ G f xs fun rs h => ∃ r st p ss, rs = [.sl r st p ss 0 ys.length, .int κ n] ∧ node h r st p ss = some (.own es ys)) (hp : ys.all (fun e : AV => e.cells.all AV.plain) = true)
 {fr : Bool} {roots : List Nat} {b s : Nat} {σ : St} {k : AV → St → Prop} :
 callT G f xs fr roots b [s] σ k = newK (if fr then σ.h else dropRoots σ.h roots) (b + s) (.own es ys) (fun h st => k (.tup [.sl (b + s) st [] 0 0 ys.length, .int κ n]) { σ with h }) := by
 obtain ⟨F, m, rs, σ1, hf, h1, h2, h4, hr, ⟨r, st, p, ss, rfl, hn⟩, h3⟩ := h
 have hfl : ([AV.sl r st p ss 0 ys.length, .int κ n]).all AV.flats = false := rfl
 unfold newK
 cases hnew : newOb (if fr then σ.h else dropRoots σ.h roots) (b + s) (.own es ys) with
 | some q =>
   obtain ⟨h', st'⟩ := q
   refine callT_of (n := m) (h := h') hf h1 ?_
   unfold callX
   rw [h4]; simp only [Bool.false_eq_true, if_false, hr, hfl, Bool.or_false, give, h3, List.isEmpty_cons, Bool.not_false, Bool.true_and, Nat.zero_le, if_true, hn, hp, and_self, hnew]
 | none =>
   refine propext ⟨fun ⟨F', m2, v, h', e1, e2, e3, q⟩ => ?_, False.elim⟩
   rw [hf] at e1; cases e1
   have e4 := callX_mono (Nat.le_max_right m m2) e3
   unfold callX at e4
   rw [h4] at e4
   have hr2 := ((monoLe (G := G) (Nat.le_max_left m m2)).2.2.2.1 _ _ _ _ _ hr)
   simp only [Bool.false_eq_true, if_false, hr2, hfl, Bool.or_false, give, h3, List.isEmpty_cons, Bool.not_false, Bool.true_and, Nat.zero_le, if_true, hn, hp, and_self, hnew, reduceCtorEq] at e4
theorem FnQ.nil2 {G : Prg} {f : FuncId} {xs : List AV} {κ : IntKind} {n : Int} {v : AV} (hv : v = .nils ∨ v = .emp) (h : FnQ G f xs fun rs h => rs = [v, .int κ n]) {fr : Bool} {roots : List Nat} {b s : Nat} {σ : St} {k : AV → St → Prop} :
 callT G f xs fr roots b [s] σ k = k (.tup [v, .int κ n]) σ := by
 obtain ⟨F, m, rs, σ1, hf, h1, h2, h4, hr, rfl, h3⟩ := h
 refine callT_of (n := m) (h := σ.h) hf h1 ?_
 unfold callX
 rcases hv with rfl | rfl
 ·have hfl : ([AV.nils, .int κ n]).all AV.flats = true := rfl
  rw [h4]; simp only [Bool.false_eq_true, if_false, hr, hfl, Bool.or_true, if_true, give, h3, List.isEmpty_cons, Bool.not_false, Bool.true_and]
 ·have hfl : ([AV.emp, .int κ n]).all AV.flats = true := rfl
  rw [h4]; simp only [Bool.false_eq_true, if_false, hr, hfl, Bool.or_true, if_true, give, h3, List.isEmpty_cons, Bool.not_false, Bool.true_and]
theorem FnQ.nil1 {G : Prg} {f : FuncId} {xs : List AV} {v : AV} (hv : v = .nils ∨ v = .emp) (h : FnQ G f xs fun rs h => rs = [v]) {fr : Bool} {roots : List Nat} {b s : Nat} {σ : St} {k : AV → St → Prop} :
 callT G f xs fr roots b [s] σ k = k .emp σ := by
 obtain ⟨F, m, rs, σ1, hf, h1, h2, h4, hr, rfl, h3⟩ := h
 refine callT_of (n := m) (h := σ.h) hf h1 ?_
 unfold callX
 rcases hv with rfl | rfl
 ·have hfl : ([AV.nils]).all AV.flats = true := rfl
  rw [h4]; simp only [Bool.false_eq_true, if_false, hr, hfl, Bool.or_true, if_true, give, h3, List.isEmpty_cons, Bool.not_false, Bool.true_and]
 ·have hfl : ([AV.emp]).all AV.flats = true := rfl
  rw [h4]; simp only [Bool.false_eq_true, if_false, hr, hfl, Bool.or_true, if_true, give, h3, List.isEmpty_cons, Bool.not_false, Bool.true_and]
theorem FnQ.own1 {G : Prg} {f : FuncId} {xs : List AV} {es : Nat} {ys : List AV} (h : FnQ G f xs fun rs h => ∃ r st p ss, rs = [.sl r st p ss 0 ys.length] ∧ node h r st p ss = some (.own es ys)) (hp : ys.all (fun e : AV => e.cells.all AV.plain) = true) : FnO G f xs es ys := by
 obtain ⟨F, m, rs, σ1, hf, h1, h2, h4, hr, ⟨r, st, p, ss, rfl, hn⟩, h3⟩ := h
 exact ⟨⟨F, m, r, st, p, ss, σ1, hf, h1, h2, h3, h4, hr, hn⟩, hp⟩
end Go.Mw
