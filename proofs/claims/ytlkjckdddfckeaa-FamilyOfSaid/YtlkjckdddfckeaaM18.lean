/- Small things for the walks. -/
import Derived.Test.YtlkjckdddfckeaaM17
import Derived.IntWalk
set_option linter.unusedVariables false
set_option linter.unusedSimpArgs false
namespace Go.Mw
abbrev I (n : Int) : AV := .int .i64 n
abbrev Bo (b : Bool) : AV := .bool b
theorem wrapI {x : Int} (h1 : -9223372036854775808 ≤ x) (h2 : x ≤ 9223372036854775807) : IntKind.i64.wrap x = x := IntWalk.i64_in x ⟨h1, h2⟩
theorem wrap_succ {i n : Nat} (h : i < n) (hn : n ≤ 1000000000) : IntKind.i64.wrap ((i : Int) + 1) = ((i + 1 : Nat) : Int) := by rw [wrapI] <;> omega
def behind1 (N : St → Prop) (Q : Ex → St → Prop) (e : Ex) (σ : St) : Prop :=
 match e with
 | .nrm => N σ
 | e => Q e σ
theorem behind_nrm {N : St → Prop} {Q : Ex → St → Prop} {σ : St} : behind1 N Q .nrm σ = N σ := (rfl)
theorem behind_ext {N : St → Prop} {Q : Ex → St → Prop} {σ : St} {i : Nat} : behind1 N Q (.ext i) σ = Q (.ext i) σ := (rfl)
theorem behind_ret {N : St → Prop} {Q : Ex → St → Prop} {σ : St} : behind1 N Q .ret σ = Q .ret σ := (rfl)
attribute [go_sem] behind_nrm behind_ext behind_ret
theorem wp_loopQ {kt ks : List Nat} {c : C} {b : Nat} {Q : Ex → St → Prop} {α : Type} (I : α → St → Prop) (μ : α → Nat)
 (step : ∀ (x : α) (σ : St), I x σ → ∀ (N : St → Prop) (Q' : Ex → St → Prop), Q' = Q → (∀ y σ1, μ y < μ x → I y (headS kt ks b σ1) → N σ1) → Wp G c b σ (behind1 N Q'))
 {σ : St} (x : α) (h : I x (headS kt ks b σ)) : Wp G (.loop kt ks c) b σ Q := by
 refine wp_loop I μ (fun x σ hI => ?_) x h
 refine (step x σ hI (fun σ1 => ∃ y, μ y < μ x ∧ I y (headS kt ks b σ1)) Q rfl (fun y σ1 h1 h2 => ⟨y, h1, h2⟩)).mono (fun e σ1 h1 => ?_)
 cases e <;> exact h1
end Go.Mw
/- Names of actions. -/
namespace Go.Mw
def isLet (c : Int) : Bool := (97 ≤ c && c ≤ 122) || (65 ≤ c && c ≤ 90)
theorem letter_ok (c : Int) : FnT G f_act_letter [.int .u8 c] (Bo (isLet c)) := by
 refine FnP.mk' g_act_letter rfl rfl ?_
 simp only [go_sem, ↓reduceIte, ↓gA, ↓gB, ↓gC, ↓gD, ↓cA, ↓cB, c_act_letter]
 grind [isLet]
theorem letter_okR (c : Int) : FnT G f_r01_letter [.int .u8 c] (Bo (isLet c)) := by
 refine FnP.mk' g_r01_letter rfl rfl ?_
 simp only [go_sem, ↓reduceIte, ↓gA, ↓gB, ↓gC, ↓gD, ↓cA, ↓cB, c_r01_letter]
 grind [isLet]
section
variable {fr : Bool} {roots : List Nat} {b : Nat} {ss : List Nat} {σ : St} {k : AV → St → Prop}
theorem letter_r {c : Int} : callT G f_act_letter [.int .u8 c] fr roots b ss σ k = k (Bo (isLet c)) σ := (letter_ok c).rule
theorem letter_rR {c : Int} : callT G f_r01_letter [.int .u8 c] fr roots b ss σ k = k (Bo (isLet c)) σ := (letter_okR c).rule
attribute [go_sem] letter_r letter_rR
end
def ltr2 (c : Int) : Bool := isLet c || (48 ≤ c && c ≤ 57) || c == 45 || c == 95
def nameL (l : List UInt8) : Bool := decide (0 < l.length ∧ l.length ≤ 20 ∧ isLet (l[0]!).toNat = true ∧ ∀ i < l.length, ltr2 (l[i]!).toNat = true)
def nameOk (s : ByteArray) : Bool := nameL s.data.toList
theorem ba_len (s : ByteArray) : s.size = s.data.toList.length := by have : s.data.size = s.size := rfl; simp
theorem ba_nil (s : ByteArray) : s = { data := #[] } ↔ s.data.toList = [] := by
 constructor
 ·rintro rfl; rfl
 ·intro h; apply ByteArray.ext; apply Array.ext'; exact h
theorem nameL_false {l : List UInt8} {i : Nat} (hi : i < l.length) (h : ltr2 (l[i]!).toNat = false) : AV.bool false = Bo (nameL l) := by
 have : nameL l = false := by
  unfold nameL; rw [decide_eq_false_iff_not]
  rintro ⟨_, _, _, h4⟩
  rw [h4 i hi] at h; cases h
 rw [this]
theorem name_ok (s : ByteArray) : FnT G f_act_Name [.str s] (Bo (nameOk s)) := by
 refine FnP.mk' g_act_Name rfl rfl ?_
 simp only [go_sem, ↓reduceIte, ↓gA, ↓gB, ↓gC, ↓gD, ↓cA, ↓cB, c_act_Name]
 simp only [ba_len, ba_nil, nameOk]
 generalize hl : s.data.toList = l
 refine ⟨fun h0 => ⟨fun h20 => ⟨?_, fun hf => ?_, fun ht => ?_⟩, fun h20 => ?_⟩, fun h0 => ?_⟩
 ·cases l <;> simp_all
 ·grind [nameL]
 ·refine wp_loopQ (fun (i : Nat) σ => i ≤ l.length ∧ (∀ j < i, ltr2 (l[j]!).toNat = true) ∧ σ = ⟨aT .undef 46 [(0, .str s), (19, I l.length), (20, I i)], [], []⟩) (fun i => l.length - i) ?_ 0 ?_
  ·rintro i σ ⟨hi, hall, rfl⟩ N Q hQ hN
   by_cases hlt : i < l.length
   ·simp only [go_sem, ↓reduceIte, ↓gA, ↓gB, ↓gC, ↓gD, ↓cA, ↓cB, hl, wrap_succ hlt (by omega), Int.ofNat_lt, hlt]
    have hn : ltr2 (l[i]!).toNat = true → ∀ j < i + 1, ltr2 (l[j]!).toNat = true := fun hc j hj => by
     rcases Nat.lt_or_eq_of_le (Nat.le_of_lt_succ hj) with h | rfl
     ·exact hall j h
     ·exact hc
    have hb := fun h => nameL_false (l := l) hlt h
    (repeat' (first | intro _ | refine And.intro ?_ ?_)) <;> first
      | (refine hN (i + 1) _ (by omega) ⟨by omega, hn (by grind [ltr2]), ?_⟩; simp only [go_sem, ↓reduceIte, ↓gA, ↓gB, ↓gC, ↓gD, ↓cA, ↓cB]; done)
      | (subst hQ; simp only [go_sem, ↓reduceIte, ↓gA, ↓gB, ↓gC, ↓gD, ↓cA, ↓cB]; exact hb (by grind [ltr2]))
   ·simp only [go_sem, ↓reduceIte, ↓gA, ↓gB, ↓gC, ↓gD, ↓cA, ↓cB, hl, Int.ofNat_lt, hlt]
    have : i = l.length := by omega
    subst this
    subst hQ
    simp only [go_sem, ↓reduceIte, ↓gA, ↓gB, ↓gC, ↓gD, ↓cA, ↓cB]
    grind [nameL]
  ·exact ⟨by omega, by simp, by simp only [go_sem, ↓reduceIte, ↓gA, ↓gB, ↓gC, ↓gD, ↓cA, ↓cB]⟩
 ·simp [nameL]; omega
 ·simp [nameL, h0]
theorem name_okR (s : ByteArray) : FnT G f_r01_Name [.str s] (Bo (nameOk s)) := by
 refine FnP.mk' g_r01_Name rfl rfl ?_
 simp only [go_sem, ↓reduceIte, ↓gA, ↓gB, ↓gC, ↓gD, ↓cA, ↓cB, c_r01_Name]
 simp only [ba_len, ba_nil, nameOk]
 generalize hl : s.data.toList = l
 refine ⟨fun h0 => ⟨fun h20 => ⟨?_, fun hf => ?_, fun ht => ?_⟩, fun h20 => ?_⟩, fun h0 => ?_⟩
 ·omega
 ·grind [nameL]
 ·refine wp_loopQ (fun (i : Nat) σ => i ≤ l.length ∧ (∀ j < i, ltr2 (l[j]!).toNat = true) ∧ σ = ⟨aT .undef 47 [(0, .str s), (20, I l.length), (21, I i)], [], []⟩) (fun i => l.length - i) ?_ 0 ?_
  ·rintro i σ ⟨hi, hall, rfl⟩ N Q hQ hN
   by_cases hlt : i < l.length
   ·simp only [go_sem, ↓reduceIte, ↓gA, ↓gB, ↓gC, ↓gD, ↓cA, ↓cB, hl, wrap_succ hlt (by omega), Int.ofNat_lt, hlt]
    have hn : ltr2 (l[i]!).toNat = true → ∀ j < i + 1, ltr2 (l[j]!).toNat = true := fun hc j hj => by
     rcases Nat.lt_or_eq_of_le (Nat.le_of_lt_succ hj) with h | rfl
     ·exact hall j h
     ·exact hc
    have hb := fun h => nameL_false (l := l) hlt h
    (repeat' (first | intro _ | refine And.intro ?_ ?_)) <;> first
      | (refine hN (i + 1) _ (by omega) ⟨by omega, hn (by grind [ltr2]), ?_⟩; simp only [go_sem, ↓reduceIte, ↓gA, ↓gB, ↓gC, ↓gD, ↓cA, ↓cB]; done)
      | (subst hQ; simp only [go_sem, ↓reduceIte, ↓gA, ↓gB, ↓gC, ↓gD, ↓cA, ↓cB]; exact hb (by grind [ltr2]))
   ·simp only [go_sem, ↓reduceIte, ↓gA, ↓gB, ↓gC, ↓gD, ↓cA, ↓cB, hl, Int.ofNat_lt, hlt]
    have : i = l.length := by omega
    subst this
    subst hQ
    simp only [go_sem, ↓reduceIte, ↓gA, ↓gB, ↓gC, ↓gD, ↓cA, ↓cB]
    grind [nameL]
  ·exact ⟨by omega, by simp, by simp only [go_sem, ↓reduceIte, ↓gA, ↓gB, ↓gC, ↓gD, ↓cA, ↓cB]⟩
 ·simp [nameL]; omega
 ·grind [nameL]
section
variable {fr : Bool} {roots : List Nat} {b : Nat} {ss : List Nat} {σ : St} {k : AV → St → Prop}
theorem name_r {s : ByteArray} : callT G f_act_Name [.str s] fr roots b ss σ k = k (Bo (nameOk s)) σ := (name_ok s).rule
theorem name_rR {s : ByteArray} : callT G f_r01_Name [.str s] fr roots b ss σ k = k (Bo (nameOk s)) σ := (name_okR s).rule
attribute [go_sem] name_r name_rR
end
end Go.Mw
/- Lists of actions. -/
namespace Go.Mw
def idxS (l : List ByteArray) (s : ByteArray) : Int := match l.findIdx? (fun x => decide (x = s)) with | some i => i | none => -1
theorem idxS_at {l : List ByteArray} {s : ByteArray} {i : Nat} (hi : i < l.length) (hn : ∀ j < i, l[j]! ≠ s) (he : l[i]! = s) : (i : Int) = idxS l s := by
 have : l.findIdx? (fun x => decide (x = s)) = some i := by
  rw [List.findIdx?_eq_some_iff_getElem]
  refine ⟨hi, ?_, fun j hj => ?_⟩
  ·rw [← he, getElem!_pos l i hi]; simp
  ·have := hn j hj
   rw [getElem!_pos l j (by omega)] at this
   simpa using this
 unfold idxS; rw [this]
theorem idxS_none {l : List ByteArray} {s : ByteArray} (hn : ∀ j < l.length, l[j]! ≠ s) : -1 = idxS l s := by
 have : l.findIdx? (fun x => decide (x = s)) = none := by
  rw [List.findIdx?_eq_none_iff]
  intro x hx
  obtain ⟨i, hi, rfl⟩ := List.mem_iff_getElem.1 hx
  have := hn i hi
  rw [getElem!_pos l i hi] at this
  simpa using this
 unfold idxS; rw [this]
theorem idxS_cases (l : List ByteArray) (s : ByteArray) : (∃ i : Nat, i < l.length ∧ l[i]! = s ∧ (∀ j < i, l[j]! ≠ s) ∧ idxS l s = i) ∨ ((∀ j < l.length, l[j]! ≠ s) ∧ idxS l s = -1) := by
 cases h : l.findIdx? (fun x => decide (x = s)) with
 | some i =>
   left
   have h0 := h
   rw [List.findIdx?_eq_some_iff_getElem] at h
   obtain ⟨hi, h1, h2⟩ := h
   refine ⟨i, hi, by rw [getElem!_pos l i hi]; simpa using h1, fun j hj => ?_, by unfold idxS; rw [h0]⟩
   rw [getElem!_pos l j (by omega)]
   simpa using h2 j hj
 | none =>
   right
   have h0 := h
   rw [List.findIdx?_eq_none_iff] at h
   refine ⟨fun j hj e => ?_, by unfold idxS; rw [h0]⟩
   have := h _ (List.getElem_mem hj)
   rw [getElem!_pos l j hj] at e
   simp [e] at this
theorem index_ok (l : List ByteArray) (s : ByteArray) (hl : l.length ≤ 1048576) : FnT G f_slices_IndexZsgsg [.lst (l.map .str), .str s] (I (idxS l s)) := by
 refine FnP.mk' g_slices_IndexZsgsg rfl rfl ?_
 simp only [go_sem, ↓reduceIte, ↓gA, ↓gB, ↓gC, ↓gD, ↓cA, ↓cB, c_slices_IndexZsgsg]
 refine wp_loopQ (fun (i : Nat) σ => i ≤ l.length ∧ (∀ j < i, l[j]! ≠ s) ∧ σ = ⟨aT .undef 19 [(0, .lst (l.map .str)), (1, .str s), (7, I l.length), (8, I i)], [], []⟩) (fun i => l.length - i) ?_ 0 ?_
 ·rintro i σ ⟨hi, hall, rfl⟩ N Q hQ hN
  by_cases hlt : i < l.length
  ·simp only [go_sem, ↓reduceIte, ↓gA, ↓gB, ↓gC, ↓gD, ↓cA, ↓cB, wrap_succ hlt (by omega), Int.ofNat_lt, hlt]
   refine ⟨fun h => ?_, fun h => ?_⟩
   ·subst hQ; simp only [go_sem, ↓reduceIte, ↓gA, ↓gB, ↓gC, ↓gD, ↓cA, ↓cB]; rw [idxS_at hlt hall h.symm]
   ·refine hN (i + 1) _ (by omega) ⟨by omega, fun j hj => ?_, by simp only [go_sem, ↓reduceIte, ↓gA, ↓gB, ↓gC, ↓gD, ↓cA, ↓cB]⟩
    rcases Nat.lt_or_eq_of_le (Nat.le_of_lt_succ hj) with h1 | rfl
    ·exact hall j h1
    ·exact fun e => h e.symm
  ·have : i = l.length := by omega
   subst this hQ
   simp only [go_sem, ↓reduceIte, ↓gA, ↓gB, ↓gC, ↓gD, ↓cA, ↓cB, Int.ofNat_lt, hlt]
   rw [idxS_none hall]
 ·exact ⟨by omega, by simp, by simp only [go_sem, ↓reduceIte, ↓gA, ↓gB, ↓gC, ↓gD, ↓cA, ↓cB]⟩
theorem index_okR (l : List ByteArray) (s : ByteArray) (hl : l.length ≤ 1048576) : FnT G f_r01_Index [.lst (l.map .str), .str s] (I (idxS l s)) := by
 refine FnP.mk' g_r01_Index rfl rfl ?_
 simp only [go_sem, ↓reduceIte, ↓gA, ↓gB, ↓gC, ↓gD, ↓cA, ↓cB, c_r01_Index]
 refine wp_loopQ (fun (i : Nat) σ => i ≤ l.length ∧ (∀ j < i, l[j]! ≠ s) ∧ σ = ⟨aT .undef 19 [(1, .str s), (7, .lst (l.map .str)), (8, I l.length), (9, I i)], [], []⟩) (fun i => l.length - i) ?_ 0 ?_
 ·rintro i σ ⟨hi, hall, rfl⟩ N Q hQ hN
  by_cases hlt : i < l.length
  ·simp only [go_sem, ↓reduceIte, ↓gA, ↓gB, ↓gC, ↓gD, ↓cA, ↓cB, wrap_succ hlt (by omega), Int.ofNat_lt, hlt]
   refine ⟨fun h => ?_, fun h => ?_⟩
   ·subst hQ; simp only [go_sem, ↓reduceIte, ↓gA, ↓gB, ↓gC, ↓gD, ↓cA, ↓cB]; rw [idxS_at hlt hall h]
   ·refine hN (i + 1) _ (by omega) ⟨by omega, fun j hj => ?_, by simp only [go_sem, ↓reduceIte, ↓gA, ↓gB, ↓gC, ↓gD, ↓cA, ↓cB]⟩
    rcases Nat.lt_or_eq_of_le (Nat.le_of_lt_succ hj) with h1 | rfl
    ·exact hall j h1
    ·exact h
  ·have : i = l.length := by omega
   subst this hQ
   simp only [go_sem, ↓reduceIte, ↓gA, ↓gB, ↓gC, ↓gD, ↓cA, ↓cB, Int.ofNat_lt, hlt]
   rw [idxS_none hall]
 ·exact ⟨by omega, by simp, by simp only [go_sem, ↓reduceIte, ↓gA, ↓gB, ↓gC, ↓gD, ↓cA, ↓cB]⟩
section
variable {fr : Bool} {roots : List Nat} {b : Nat} {ss : List Nat} {σ : St} {k : AV → St → Prop}
theorem index_r {l : List ByteArray} {s : ByteArray} (hl : l.length ≤ 1048576) : callT G f_slices_IndexZsgsg [.lst (l.map .str), .str s] fr roots b ss σ k = k (I (idxS l s)) σ := (index_ok l s hl).rule
theorem index_rR {l : List ByteArray} {s : ByteArray} (hl : l.length ≤ 1048576) : callT G f_r01_Index [.lst (l.map .str), .str s] fr roots b ss σ k = k (I (idxS l s)) σ := (index_okR l s hl).rule
end
theorem contains_ok (l : List ByteArray) (s : ByteArray) (hl : l.length ≤ 1048576) : FnT G f_slices_ContainsZsgsg [.lst (l.map .str), .str s] (Bo (decide (0 ≤ idxS l s))) := by
 refine FnP.mk' g_slices_ContainsZsgsg rfl rfl ?_
 simp only [go_sem, ↓reduceIte, ↓gA, ↓gB, ↓gC, ↓gD, ↓cA, ↓cB, c_slices_ContainsZsgsg, index_r hl]
section
variable {fr : Bool} {roots : List Nat} {b : Nat} {ss : List Nat} {σ : St} {k : AV → St → Prop}
theorem contains_r {l : List ByteArray} {s : ByteArray} (hl : l.length ≤ 1048576) : callT G f_slices_ContainsZsgsg [.lst (l.map .str), .str s] fr roots b ss σ k = k (Bo (decide (0 ≤ idxS l s))) σ := (contains_ok l s hl).rule
end
def actsOk (l : List ByteArray) : Bool := decide (l.length ≤ 8 ∧ ∀ i < l.length, nameOk l[i]! = true ∧ ∀ j < i, l[j]! ≠ l[i]!)
theorem actsOk_false {l : List ByteArray} {i : Nat} (hi : i < l.length) (h : nameOk l[i]! = false ∨ ∃ j < i, l[j]! = l[i]!) : AV.bool false = Bo (actsOk l) := by
 have : actsOk l = false := by
  unfold actsOk; rw [decide_eq_false_iff_not]
  rintro ⟨_, h4⟩
  rcases h with h | ⟨j, hj, e⟩
  ·rw [(h4 i hi).1] at h; cases h
  ·exact (h4 i hi).2 j hj e
 rw [this]
theorem actsR_ok (l : List ByteArray) (hl : l.length ≤ 1048576) : FnT G f_r01_Is [.lst (l.map .str)] (Bo (actsOk l)) := by
 refine FnP.mk' g_r01_Is rfl rfl ?_
 simp only [go_sem, ↓reduceIte, ↓gA, ↓gB, ↓gC, ↓gD, ↓cA, ↓cB, c_r01_Is]
 refine ⟨fun h8 => ?_, fun h8 => ?_⟩
 ·simp [actsOk]; omega
 refine wp_loopQ (fun (i : Nat) σ => i ≤ l.length ∧ (∀ i' < i, nameOk l[i']! = true ∧ ∀ j < i', l[j]! ≠ l[i']!) ∧ σ = ⟨aT .undef 26 [(0, .lst (l.map .str)), (8, .lst (l.map .str)), (9, I l.length), (10, I i)], [], []⟩) (fun i => l.length - i) ?_ 0 ?_
 ·rintro i σ ⟨hi, hall, rfl⟩ N Q hQ hN
  by_cases hlt : i < l.length
  ·simp only [go_sem, ↓reduceIte, ↓gA, ↓gB, ↓gC, ↓gD, ↓cA, ↓cB, wrap_succ hlt (by omega), Int.ofNat_lt, hlt, index_rR hl]
   refine ⟨fun h1 => ⟨fun h2 => ?_, fun h2 => ?_⟩, fun h1 => ?_⟩
   ·subst hQ; simp only [go_sem, ↓reduceIte, ↓gA, ↓gB, ↓gC, ↓gD, ↓cA, ↓cB]
    refine actsOk_false hlt (.inr ?_)
    rcases idxS_cases l l[i]! with ⟨k, k1, k2, k3, k4⟩ | ⟨k1, k2⟩
    ·rw [k4] at h2
     rcases Nat.lt_trichotomy k i with h | rfl | h
     ·exact ⟨k, h, k2⟩
     ·simp at h2
     ·exact absurd rfl (k3 i h)
    ·exact absurd rfl (k1 i hlt)
   ·refine hN (i + 1) _ (by omega) ⟨by omega, fun j hj => ?_, by simp only [go_sem, ↓reduceIte, ↓gA, ↓gB, ↓gC, ↓gD, ↓cA, ↓cB]⟩
    rcases Nat.lt_or_eq_of_le (Nat.le_of_lt_succ hj) with h | rfl
    ·exact hall j h
    ·refine ⟨h1, fun j' hj' e => ?_⟩
     rcases idxS_cases l l[j]! with ⟨k, k1, k2, k3, k4⟩ | ⟨k1, k2⟩
     ·rw [k4] at h2
      have : k = j := by have h3 : (k : Int) = j := by simpa using h2
                         omega
      subst this
      exact k3 j' hj' e
     ·exact absurd rfl (k1 j hlt)
   ·subst hQ; simp only [go_sem, ↓reduceIte, ↓gA, ↓gB, ↓gC, ↓gD, ↓cA, ↓cB]; exact actsOk_false hlt (.inl h1)
  ·have : i = l.length := by omega
   subst this hQ
   simp only [go_sem, ↓reduceIte, ↓gA, ↓gB, ↓gC, ↓gD, ↓cA, ↓cB, Int.ofNat_lt, hlt]
   simp [actsOk]; grind
 ·exact ⟨by omega, by simp, by simp only [go_sem, ↓reduceIte, ↓gA, ↓gB, ↓gC, ↓gD, ↓cA, ↓cB]⟩
theorem takeM {α β : Type} (f : α → β) (l : List α) (i : Nat) : (l.map f).take i = (l.take i).map f := by simp
theorem acts_ok (l : List ByteArray) (hl : l.length ≤ 1048576) : FnT G f_act_Valid [.lst (l.map .str)] (Bo (actsOk l)) := by
 refine FnP.mk' g_act_Valid rfl rfl ?_
 simp only [go_sem, ↓reduceIte, ↓gA, ↓gB, ↓gC, ↓gD, ↓cA, ↓cB, c_act_Valid]
 refine ⟨fun h8 => ?_, fun h8 => ?_⟩
 ·simp [actsOk]; omega
 refine wp_loopQ (fun (i : Nat) σ => i ≤ l.length ∧ (∀ i' < i, nameOk l[i']! = true ∧ ∀ j < i', l[j]! ≠ l[i']!) ∧ σ = ⟨aT .undef 26 [(0, .lst (l.map .str)), (8, .lst (l.map .str)), (9, I l.length), (10, I i)], [], []⟩) (fun i => l.length - i) ?_ 0 ?_
 ·rintro i σ ⟨hi, hall, rfl⟩ N Q hQ hN
  by_cases hlt : i < l.length
  ·have hcon := @contains_r
   have hlen : (l.take i).length ≤ 1048576 := by simp; omega
   simp only [go_sem, ↓reduceIte, ↓gA, ↓gB, ↓gC, ↓gD, ↓cA, ↓cB, wrap_succ hlt (by omega), Int.ofNat_lt, hlt, takeM, contains_r hlen, List.drop_zero, Int.toNat_natCast]
   have key : (0 ≤ idxS (l.take i) l[i]!) ↔ ∃ j < i, l[j]! = l[i]! := by
    have g : ∀ j, j < i → (l.take i)[j]! = l[j]! := fun j hj => by
     rw [getElem!_pos (l.take i) j (by simp; omega), getElem!_pos l j (by omega)]; simp
    rcases idxS_cases (l.take i) l[i]! with ⟨k, k1, k2, k3, k4⟩ | ⟨k1, k2⟩
    ·simp at k1
     exact ⟨fun _ => ⟨k, by omega, by rw [← g k (by omega)]; exact k2⟩, fun _ => by omega⟩
    ·refine ⟨fun h => by omega, fun ⟨j, hj, e⟩ => absurd (by rw [g j hj]; exact e) (k1 j (by simp; omega))⟩
   refine ⟨fun h1 => ?_, fun h1 => ?_⟩
   ·(repeat' (first | refine And.intro ?_ ?_ | intro h2)) <;> first
      | omega
      | (subst hQ; simp only [go_sem, ↓reduceIte, ↓gA, ↓gB, ↓gC, ↓gD, ↓cA, ↓cB]; exact actsOk_false hlt (.inr (key.1 (by assumption))))
      | (refine hN (i + 1) _ (by omega) ⟨by omega, fun j hj => ?_, by simp only [go_sem, ↓reduceIte, ↓gA, ↓gB, ↓gC, ↓gD, ↓cA, ↓cB]⟩
         rcases Nat.lt_or_eq_of_le (Nat.le_of_lt_succ hj) with h | rfl
         ·exact hall j h
         ·exact ⟨h1, fun j' hj' e => (by assumption : ¬ _) (key.2 ⟨j', hj', e⟩)⟩)
   ·subst hQ; simp only [go_sem, ↓reduceIte, ↓gA, ↓gB, ↓gC, ↓gD, ↓cA, ↓cB]; exact actsOk_false hlt (.inl h1)
  ·have : i = l.length := by omega
   subst this hQ
   simp only [go_sem, ↓reduceIte, ↓gA, ↓gB, ↓gC, ↓gD, ↓cA, ↓cB, Int.ofNat_lt, hlt]
   simp [actsOk]; grind
 ·exact ⟨by omega, by simp, by simp only [go_sem, ↓reduceIte, ↓gA, ↓gB, ↓gC, ↓gD, ↓cA, ↓cB]⟩
end Go.Mw
/- Bits; a range over the actions of a set. -/
namespace Go.Mw
theorem wrapN {n : Nat} (h : n < 2 ^ 63) : IntKind.i64.wrap (n : Int) = n := by rw [wrapI] <;> omega
theorem bshr_nat {n a : Nat} (h : n < 2 ^ 63) : bshr .i64 (n : Int) (a : Int) = ((n >>> a : Nat) : Int) := by
 unfold bshr
 have hb : IntKind.i64.bits = 64 := rfl
 rw [hb, Int.toNat_natCast]
 have e : ((2 : Int) ^ (min a 64)) = ((2 ^ (min a 64) : Nat) : Int) := by simp
 rw [e, ← Int.ofNat_fdiv, Nat.shiftRight_eq_div_pow]
 congr 1
 by_cases ha : a ≤ 64
 ·rw [Nat.min_eq_left ha]
 ·rw [Nat.min_eq_right (by omega)]
  have h1 : n / 2 ^ 64 = 0 := Nat.div_eq_of_lt (by omega)
  have h2 : n / 2 ^ a = 0 := Nat.div_eq_of_lt (Nat.lt_of_lt_of_le h (Nat.pow_le_pow_right (by omega) (by omega)))
  rw [h1, h2]
theorem band_nat {m n : Nat} (hm : m < 2 ^ 63) (hn : n < 2 ^ 63) : band .i64 (m : Int) (n : Int) = ((m &&& n : Nat) : Int) := by
 unfold band
 have hb : IntKind.i64.bits = 64 := rfl
 rw [hb, BitVec.ofInt_natCast, BitVec.ofInt_natCast, BitVec.toNat_and, BitVec.toNat_ofNat, BitVec.toNat_ofNat, Nat.mod_eq_of_lt (by omega), Nat.mod_eq_of_lt (by omega)]
 exact wrapN (Nat.and_lt_two_pow _ hn)
theorem bor_nat {m n : Nat} (hm : m < 2 ^ 63) (hn : n < 2 ^ 63) : bor .i64 (m : Int) (n : Int) = ((m ||| n : Nat) : Int) := by
 unfold bor
 have hb : IntKind.i64.bits = 64 := rfl
 rw [hb, BitVec.ofInt_natCast, BitVec.ofInt_natCast, BitVec.toNat_or, BitVec.toNat_ofNat, BitVec.toNat_ofNat, Nat.mod_eq_of_lt (by omega), Nat.mod_eq_of_lt (by omega)]
 exact wrapN (Nat.or_lt_two_pow hm hn)
theorem bshl_one {p : Nat} (hp : p ≤ 62) : bshl .i64 1 (p : Int) = ((2 ^ p : Nat) : Int) := by
 unfold bshl
 have hb : IntKind.i64.bits = 64 := rfl
 rw [hb, Int.toNat_natCast, Nat.min_eq_left (by omega), Int.one_mul]
 have e : ((2 : Int) ^ p) = ((2 ^ p : Nat) : Int) := by simp
 rw [e]
 exact wrapN (Nat.pow_lt_pow_right (by omega) (by omega))
theorem has_nat {n a : Nat} (h : n < 2 ^ 63) : (band .i64 (bshr .i64 (n : Int) (a : Int)) 1 == 1) = n.testBit a := by
 rw [bshr_nat h]
 have h1 : n >>> a < 2 ^ 63 := Nat.lt_of_le_of_lt (Nat.shiftRight_le n a) h
 have e := band_nat (m := n >>> a) (n := 1) h1 (by omega)
 have e1 : ((1 : Nat) : Int) = 1 := rfl
 rw [e1] at e
 rw [e, Nat.and_one_is_mod]
 unfold Nat.testBit
 rw [Nat.and_comm, Nat.and_one_is_mod]
 have := Nat.mod_two_eq_zero_or_one (n >>> a)
 rcases this with h2 | h2 <;> rw [h2] <;> rfl
theorem has_shr {n a : Nat} (h : n < 2 ^ 63) : (band .i64 ((n >>> a : Nat) : Int) 1 == 1) = n.testBit a := by rw [← has_nat h, bshr_nat h]
/-! #### shared calls, yields, ranges over functions -/
theorem wpCall_S {G : Prg} {f : FuncId} {xs : List AV} {b : Nat} {ss : List Nat} {σ : St} {K : AV → St → Prop} {np nt ns : Nat} {c : C} {res : List (Nat × Option (Bool × Nat))} {sp : Bool} (hf : G f = some ⟨np, nt, ns, c, res, false, false, sp⟩) (hl : xs.length = np)
 (h : Wp G c σ.h.length { t := xs ++ List.replicate (nt - xs.length) (.tup []), h := σ.h ++ List.replicate ns goneOb, lp := σ.lp }
   (fun e σ1 => (match e with | .ext _ => False | _ => True) ∧ resK σ1 res (fun rs => K (packV (treeBL σ.h.length σ1.h rs)) ⟨σ.t, σ1.h.take σ.h.length, σ1.lp⟩))) : WpCall G f xs b ss σ K := by
 obtain ⟨n, e, σ1, hx, he, hr⟩ := h
 unfold resK at hr
 cases hrs : resT σ1 res with
 | none => simp [hrs] at hr
 | some rs =>
   simp only [hrs] at hr
   refine ⟨n + 2, _, _, ?_, hr⟩
   rw [callF, hf]
   simp only [hl, if_true, Bool.false_eq_true, if_false]
   rw [runF]
   rw [hl] at hx
   simp only [hx]
   cases e with
   | ext i => exact he.elim
   | nrm => simp only [hrs, give]
   | ret => simp only [hrs, give]
theorem wpY_of {G : Prg} {l : Nat} {xs : List AV} {σ : St} {K : AV → St → Prop} {lp : Lp} (hlp : σ.lp[l]? = some lp) (hb : lp.busy = false) (hp : lp.pend = none) (hn : xs.length = lp.ps.length)
 (h : Wp G lp.asg lp.base ⟨setPs lp.ps xs (kill lp.kt lp.t), freeSites lp.base lp.ks σ.h, σ.lp⟩ (fun e σ1 => e = .nrm ∧ σ1.lp = σ.lp ∧
   Wp G lp.body lp.base { σ1 with lp := σ.lp.set l { lp with busy := true } } (fun e σ2 => σ2.lp = σ.lp.set l { lp with busy := true } ∧ K (.bool (jumpE e).isNone) ⟨σ.t, σ2.h, σ.lp.set l { lp with pend := jumpE e }⟩))) : WpY G l xs σ K := by
 obtain ⟨base, t, ps, kt, ks, asg, body, pe, bu⟩ := lp
 simp only at hb hp hn h
 subst hb; subst hp
 obtain ⟨n, e, σ1, h1, rfl, hl1, m, e2, σ2, h2, hl2, hk⟩ := h
 have hlt : l < σ.lp.length := List.lt_of_some hlp
 refine ⟨max n m + 1, _, _, ?_, hk⟩
 rw [yieldF, hlp]
 simp only [hn, Option.isNone_none, and_self, if_true]
 rw [(monoLe (Nat.le_max_left n m)).1 _ _ _ _ h1]
 simp only [hl1, hlp, Option.isNone_none, and_self, if_true]
 rw [(monoLe (Nat.le_max_right n m)).1 _ _ _ _ h2]
 simp only [hl2, List.getElem?_set_self hlt, List.set_set]
theorem wp_rngf {G : Prg} {x : Opd} {ps kt ks : List Nat} {asg body : C} {b : Nat} {σ : St} {Q : Ex → St → Prop} {g : FuncId} {cs : List AV} (hx : σ.get x = .fn g cs)
 (h : WpCall G g (.yld σ.lp.length :: cs) b [] { σ with lp := σ.lp ++ [{ base := b, t := σ.t, ps, kt, ks, asg, body, pend := none, busy := false }] }
   (fun _ σ1 => ∃ e, σ1.lp = σ.lp ++ [{ base := b, t := σ.t, ps, kt, ks, asg, body, pend := jumpE e, busy := false }] ∧ Q e ⟨σ.t, σ1.h, σ.lp⟩)) : Wp G (.rngf x ps kt ks asg body) b σ Q := by
 obtain ⟨n, v, σ1, h1, e, h2, h3⟩ := h
 refine ⟨n + 1, e, _, ?_, h3⟩
 rw [evC]
 simp only [hx, h1, h2]
 rw [List.getElem?_append_right (Nat.le_refl _)]
 simp only [Nat.sub_self, List.getElem?_cons_zero, Bool.false_eq_true, if_false, List.take_left]
 cases e <;> rfl
end Go.Mw
/- A range over the actions of a set. -/
namespace Go.Mw
theorem in_ok (n : Int) : Fn G f_act_In [I n] (.fn f_act_In_1 [.pfro [I n]]) := by
 refine FnP.mk' g_act_In rfl rfl ?_
 simp only [go_sem, ↓reduceIte, ↓gA, ↓gB, ↓gC, ↓gD, ↓cA, ↓cB, c_act_In]
theorem in_r {n : Int} {roots : List Nat} {b : Nat} {ss : List Nat} {σ : St} {k : AV → St → Prop} : callT G f_act_In [I n] true roots b ss σ k = k (.fn f_act_In_1 [.pfro [I n]]) σ := (in_ok n).rule
attribute [go_sem] in_r
theorem headS_nil {nt : Nat} {L : List Nat} {d : AV} {l : List (Nat × AV)} {h : List Ob} {lp : List Lp} {b : Nat} : headS (rest nt L) [] b ⟨aT d nt l, h, lp⟩ = ⟨aT .undef nt (L.map fun k => (k, look d k l)), h, lp⟩ := by
 simp only [headS, kill_rest aT_len, keepL_aT]; rfl
theorem kill_aT {nt : Nat} {L : List Nat} {d : AV} {l : List (Nat × AV)} : kill (rest nt L) (aT d nt l) = aT .undef nt (L.map fun k => (k, look d k l)) := by
 rw [kill_rest aT_len, keepL_aT]
theorem free_nil {b : Nat} {h : List Ob} : freeSites b [] h = h := rfl
attribute [go_sem] headS_nil kill_aT free_nil free_sites
def inLp (b : Nat) (t : List AV) (p : Nat) (kt ks : List Nat) (asg body : C) (pend : Option Ex) (busy : Bool) : Lp := { base := b, t, ps := [p], kt, ks, asg, body, pend, busy }
theorem testBit_big {n a : Nat} (h : n < 2 ^ a) {i : Nat} (hi : a ≤ i) : n.testBit i = false := Nat.testBit_lt_two_pow (Nat.lt_of_lt_of_le h (Nat.pow_le_pow_right (by omega) hi))
theorem shr_pos {n a : Nat} : 0 < n >>> a ↔ 2 ^ a ≤ n := by
 rw [Nat.shiftRight_eq_div_pow]
 exact ⟨fun h => by
  rcases Nat.lt_or_ge n (2 ^ a) with h1 | h1
  ·rw [Nat.div_eq_of_lt h1] at h; omega
  ·exact h1, fun h => Nat.div_pos h (Nat.two_pow_pos a)⟩
theorem wp_in {x : Opd} {p : Nat} {kt ks : List Nat} {asg body : C} {b : Nat} {σ : St} {Q : Ex → St → Prop} (set : Nat) (hs : set < 2 ^ 62) (hx : σ.get x = .fn f_act_In_1 [.pfro [I set]])
 (Inv : Nat → List Ob → Prop) (hlen : ∀ a h, Inv a h → h.length = σ.h.length) (h0 : Inv 0 σ.h) (skip : ∀ a h, set.testBit a = false → Inv a h → Inv (a + 1) h)
 (step : ∀ a h, set.testBit a = true → a < 62 → Inv a h → Wp G asg b ⟨(kill kt σ.t).set p (I a), freeSites b ks h, σ.lp ++ [inLp b σ.t p kt ks asg body none false]⟩ (fun e σ1 => e = .nrm ∧ σ1.lp = σ.lp ++ [inLp b σ.t p kt ks asg body none false] ∧
   Wp G body b { σ1 with lp := σ.lp ++ [inLp b σ.t p kt ks asg body none true] } (fun e σ2 => σ2.lp = σ.lp ++ [inLp b σ.t p kt ks asg body none true] ∧ match e with | .nrm => Inv (a + 1) σ2.h | e => σ2.h.length = σ.h.length ∧ Q e ⟨σ.t, σ2.h, σ.lp⟩)))
 (fin : ∀ a h, set < 2 ^ a → Inv a h → Q .nrm ⟨σ.t, h, σ.lp⟩) : Wp G (.rngf x [p] kt ks asg body) b σ Q := by
 refine wp_rngf hx (wpCall_S g_act_In_1 rfl ?_)
 rw [entry_aT (by simp)]
 simp only [go_sem, ↓reduceIte, ↓gA, ↓gB, ↓gC, ↓gD, ↓cA, ↓cB, c_act_In_1]
 have hrec : ∀ pe bu, ({ base := b, t := σ.t, ps := [p], kt, ks, asg, body, pend := pe, busy := bu } : Lp) = inLp b σ.t p kt ks asg body pe bu := fun _ _ => rfl
 simp only [hrec]
 refine wp_loopQ (fun (a : Nat) τ => a ≤ 62 ∧ ∃ h, Inv a h ∧ τ = ⟨aT .undef 21 [(0, .yld σ.lp.length), (1, .pfro [I set]), (3, I a)], h, σ.lp ++ [inLp b σ.t p kt ks asg body none false]⟩) (fun a => 62 - a) ?_ 0 ?_
 ·rintro a τ ⟨ha, h, hI, rfl⟩ N Q' hQ hN
  have hfinal : ∀ (e : Ex) (h : List Ob) (T : List (Nat × AV)), h.length = σ.h.length → Q e ⟨σ.t, h, σ.lp⟩ → ∃ e', σ.lp ++ [inLp b σ.t p kt ks asg body (jumpE e) false] = σ.lp ++ [inLp b σ.t p kt ks asg body (jumpE e') false] ∧ Q e' ⟨σ.t, h.take σ.h.length, σ.lp⟩ := fun e h T hl hq =>
   ⟨e, rfl, by rw [List.take_of_length_le (by omega)]; exact hq⟩
  simp only [go_sem, ↓reduceIte, ↓gA, ↓gB, ↓gC, ↓gD, ↓cA, ↓cB, bshr_nat (show set < 2 ^ 63 by omega), has_shr (show set < 2 ^ 63 by omega)]
  refine ⟨fun hpos => ⟨fun hbit => ?_, fun hbit => ?_⟩, fun hpos => ?_⟩
  ·have ha62 : a < 62 := by
    rcases Nat.lt_or_ge a 62 with h1 | h1
    ·exact h1
    ·rw [testBit_big hs h1] at hbit; cases hbit
   have hget : ∀ r : Lp, (σ.lp ++ [r])[σ.lp.length]? = some r := fun r => by rw [List.getElem?_append_right (Nat.le_refl _)]; simp
   have hset : ∀ r x : Lp, (σ.lp ++ [r]).set σ.lp.length x = σ.lp ++ [x] := fun r x => by rw [List.set_append_right _ _ (Nat.le_refl _)]; simp
   refine wpY_of (hget _) rfl rfl rfl ?_
   refine (step a h hbit ha62 hI).mono (fun e σ1 ⟨h1, h2, h3⟩ => ⟨h1, h2, ?_⟩)
   rw [hset]
   refine h3.mono (fun e2 σ2 ⟨g1, g2⟩ => ⟨g1, ?_⟩)
   rw [hset]
   show WpO G _ _ (St.put ⟨_, _, σ.lp ++ [inLp b σ.t p kt ks asg body (jumpE e2) false]⟩ _ _) _
   cases e2 with
   | nrm =>
     simp only [go_sem, ↓reduceIte, ↓gA, ↓gB, ↓gC, ↓gD, ↓cA, ↓cB, jumpE, Option.isNone_none]
     refine hN (a + 1) _ (by omega) ⟨by omega, σ2.h, g2, ?_⟩
     simp only [go_sem, ↓reduceIte, ↓gA, ↓gB, ↓gC, ↓gD, ↓cA, ↓cB, wrap_succ ha62 (by omega)]
   | ext i =>
     simp only [go_sem, ↓reduceIte, ↓gA, ↓gB, ↓gC, ↓gD, ↓cA, ↓cB, jumpE, Option.isNone_some]
     subst hQ
     simp only [go_sem, ↓reduceIte, ↓gA, ↓gB, ↓gC, ↓gD, ↓cA, ↓cB]
     exact hfinal (.ext i) σ2.h [] g2.1 g2.2
   | ret =>
     simp only [go_sem, ↓reduceIte, ↓gA, ↓gB, ↓gC, ↓gD, ↓cA, ↓cB, jumpE, Option.isNone_some]
     subst hQ
     simp only [go_sem, ↓reduceIte, ↓gA, ↓gB, ↓gC, ↓gD, ↓cA, ↓cB]
     exact hfinal .ret σ2.h [] g2.1 g2.2
  ·have ha62 : a < 62 := by
    have h1 : 0 < set >>> a := by omega
    rw [shr_pos] at h1
    rcases Nat.lt_or_ge a 62 with h2 | h2
    ·exact h2
    ·have := Nat.pow_le_pow_right (n := 2) (by omega) h2; omega
   refine hN (a + 1) _ (by omega) ⟨by omega, h, skip a h hbit hI, ?_⟩
   simp only [go_sem, ↓reduceIte, ↓gA, ↓gB, ↓gC, ↓gD, ↓cA, ↓cB, wrap_succ ha62 (by omega)]
  ·subst hQ
   simp only [go_sem, ↓reduceIte, ↓gA, ↓gB, ↓gC, ↓gD, ↓cA, ↓cB]
   refine hfinal .nrm h [] (hlen a h hI) (fin a h ?_ hI)
   have h1 : ¬ 0 < set >>> a := by omega
   rw [shr_pos] at h1; omega
 ·exact ⟨by omega, σ.h, h0, by simp only [go_sem, ↓reduceIte, ↓gA, ↓gB, ↓gC, ↓gD, ↓cA, ↓cB]⟩
end Go.Mw
/- Families: data; lists of choices. -/
namespace Go.Mw
set_option maxRecDepth 100000
structure Ch where
 N : Int
 W : Int
 deriving Inhabited
structure Plan where
 A : List Ch
 X : List (List Ch)
 deriving Inhabited
structure Fam where
 acts : List ByteArray
 P : Int
 S : List Plan
 deriving Inhabited
def eC (c : Ch) : AV := .agg [I c.N, I c.W]
def eCs (l : List Ch) : AV := .lst (l.map eC)
def eP (p : Plan) : AV := .agg [.lst (p.A.map eC), .lst (p.X.map eCs)]
def eF (f : Fam) : AV := .agg [.lst (f.acts.map .str), I f.P, .lst (f.S.map eP)]
def choOk (l : List Ch) (most : Int) (p : Int → Bool) : Bool := decide (∀ i < l.length, p l[i]!.N = true ∧ 1 ≤ l[i]!.W ∧ l[i]!.W < most ∧ (0 < i → l[i-1]!.N < l[i]!.N))
theorem choOk_false {l : List Ch} {most : Int} {p : Int → Bool} {i : Nat} (hi : i < l.length) (h : ¬ (p l[i]!.N = true ∧ 1 ≤ l[i]!.W ∧ l[i]!.W < most ∧ (0 < i → l[i-1]!.N < l[i]!.N))) : AV.bool false = Bo (choOk l most p) := by
 have : choOk l most p = false := by
  unfold choOk; rw [decide_eq_false_iff_not]; intro h2; exact h (h2 i hi)
 rw [this]
theorem choOk_true {l : List Ch} {most : Int} {p : Int → Bool} (h : ∀ i < l.length, p l[i]!.N = true ∧ 1 ≤ l[i]!.W ∧ l[i]!.W < most ∧ (0 < i → l[i-1]!.N < l[i]!.N)) : AV.bool true = Bo (choOk l most p) := by
 have : choOk l most p = true := by unfold choOk; rw [decide_eq_true_eq]; exact h
 rw [this]
structure Clo (v : AV) (f : FuncId) (cs : List AV) (p : Int → Bool) : Prop where
 e : v = .fn f cs
 pu : PureF G f
 t : ∀ h, treeBL 0 h cs = cs
 ok : ∀ n : Int, FnT G f (I n :: cs) (Bo (p n))
theorem forall_lt_succ {P : Nat → Prop} {i : Nat} (h : ∀ j < i, P j) (hi : P i) : ∀ j < i + 1, P j := fun j hj => by
 rcases Nat.lt_or_eq_of_le (Nat.le_of_lt_succ hj) with h1 | rfl
 ·exact h j h1
 ·exact hi
theorem choicesR_ok (l : List Ch) (hl : l.length ≤ 1048576) (n : Int) (pr : Nat) (hp : pr ≤ 32) : FnT G f_r16_choices [.lst (l.map eC), I n, I pr] (Bo (choOk l ((2 ^ pr : Nat) : Int) (fun x => decide (0 ≤ x ∧ x < n)))) := by
 refine FnP.mk' g_r16_choices rfl rfl ?_
 simp only [go_sem, ↓reduceIte, ↓gA, ↓gB, ↓gC, ↓gD, ↓cA, ↓cB, c_r16_choices]
 refine wp_loopQ (fun (i : Nat) σ => i ≤ l.length ∧ (∀ j < i, decide (0 ≤ l[j]!.N ∧ l[j]!.N < n) = true ∧ 1 ≤ l[j]!.W ∧ l[j]!.W < ((2 ^ pr : Nat) : Int) ∧ (0 < j → l[j-1]!.N < l[j]!.N)) ∧ ∃ a c, σ = ⟨aT .undef 53 [(0, .lst (l.map eC)), (1, I n), (2, I pr), (9, .lst (l.map eC)), (10, I l.length), (11, I i)], [⟨a, c, .gone⟩], []⟩) (fun i => l.length - i) ?_ 0 ?_
 ·rintro i σ ⟨hi, hall, a, c, rfl⟩ N Q hQ hN
  by_cases hlt : i < l.length
  ·have hbad := @choOk_false l ((2 ^ pr : Nat) : Int) (fun x => decide (0 ≤ x ∧ x < n)) i hlt
   have hsub : IntKind.i64.wrap ((i : Int) - 1) = (i : Int) - 1 := by rw [wrapI] <;> omega
   have ht1 : ((i : Int) - 1).toNat = i - 1 := by omega
   simp only [go_sem, ↓reduceIte, ↓gA, ↓gB, ↓gC, ↓gD, ↓cA, ↓cB, eC, wrap_succ hlt (by omega), Int.ofNat_lt, hlt, hsub, ht1, bshl_one (show pr ≤ 62 by omega)]
   generalize ((2 ^ pr : Nat) : Int) = most at *
   (repeat' (first | intro _ | refine And.intro ?_ ?_)) <;> first
     | omega
     | (subst hQ; simp only [go_sem, ↓reduceIte, ↓gA, ↓gB, ↓gC, ↓gD, ↓cA, ↓cB]; exact hbad (by rintro ⟨h1, h2, h3, h4⟩; simp only [decide_eq_true_eq] at h1; omega))
     | (refine hN (i + 1) _ (by omega) ⟨by omega, forall_lt_succ hall ⟨by simp only [decide_eq_true_eq]; omega, by omega, by omega, by omega⟩, a + 1, 0, ?_⟩; simp only [go_sem, ↓reduceIte, ↓gA, ↓gB, ↓gC, ↓gD, ↓cA, ↓cB])
  ·have : i = l.length := by omega
   subst this hQ
   simp only [go_sem, ↓reduceIte, ↓gA, ↓gB, ↓gC, ↓gD, ↓cA, ↓cB, Int.ofNat_lt, hlt]
   exact choOk_true hall
 ·exact ⟨by omega, by simp, 0, 0, by simp only [go_sem, ↓reduceIte, ↓gA, ↓gB, ↓gC, ↓gD, ↓cA, ↓cB]⟩
theorem choicesR_r {l : List Ch} {n : Int} {pr : Nat} (hl : l.length ≤ 1048576) (hp : pr ≤ 32) {fr : Bool} {roots : List Nat} {b : Nat} {ss : List Nat} {σ : St} {k : AV → St → Prop} :
 callT G f_r16_choices [.lst (l.map eC), I n, I pr] fr roots b ss σ k = k (Bo (choOk l ((2 ^ pr : Nat) : Int) (fun x => decide (0 ≤ x ∧ x < n)))) σ := (choicesR_ok l hl n pr hp).rule
theorem hasR_ok (n a : Nat) (hn : n < 2 ^ 63) : FnT G f_r01_Has [I n, I a] (Bo (n.testBit a)) := by
 refine FnP.mk' g_r01_Has rfl rfl ?_
 simp only [go_sem, ↓reduceIte, ↓gA, ↓gB, ↓gC, ↓gD, ↓cA, ↓cB, c_r01_Has, has_nat hn]
section
variable {fr : Bool} {roots : List Nat} {b : Nat} {ss : List Nat} {σ : St} {k : AV → St → Prop}
theorem hasR_r {n a : Nat} (hn : n < 2 ^ 63) : callT G f_r01_Has [I n, I a] fr roots b ss σ k = k (Bo (n.testBit a)) σ := (hasR_ok n a hn).rule
end
end Go.Mw
/- Families: are they valid? -/
namespace Go.Mw
set_option maxRecDepth 100000
def bitsL (n s : Nat) : List Nat := (List.range n).filter s.testBit
abbrev nI (a : Nat) : AV := I a
theorem bitsL_succ {n s : Nat} : bitsL (n + 1) s = if s.testBit n then bitsL n s ++ [n] else bitsL n s := by
 unfold bitsL; rw [List.range_succ, List.filter_append]
 by_cases h : s.testBit n <;> simp [h]
theorem bitsL_len {n s : Nat} : (bitsL n s).length ≤ n := by
 unfold bitsL; exact Nat.le_trans (List.length_filter_le _ _) (by simp)
theorem bitsL_get {n s j : Nat} (h : j < (bitsL n s).length) : (bitsL n s)[j]! < n ∧ s.testBit (bitsL n s)[j]! = true := by
 rw [getElem!_pos (bitsL n s) j h]
 have := List.getElem_mem h
 simp only [bitsL, List.mem_filter, List.mem_range] at this
 exact this
theorem bitsL_mem {n s a : Nat} (ha : a < n) (h : s.testBit a = true) : ∃ j, j < (bitsL n s).length ∧ (bitsL n s)[j]! = a := by
 have : a ∈ bitsL n s := by simp [bitsL, ha, h]
 obtain ⟨j, hj, e⟩ := List.mem_iff_getElem.1 this
 exact ⟨j, hj, by rw [getElem!_pos (bitsL n s) j hj]; exact e⟩
theorem list_ok (n s : Nat) (hn : n ≤ 1000) (hs : s < 2 ^ 63) : Fn G f_r01_List [I n, I s] (.lst ((bitsL n s).map nI)) := by
 refine FnP.mk' g_r01_List rfl rfl ?_
 simp only [go_sem, ↓reduceIte, ↓gA, ↓gB, ↓gC, ↓gD, ↓cA, ↓cB, c_r01_List]
 refine wp_loopQ (fun (i : Nat) σ => i ≤ n ∧ ∃ a c st ss, σ = ⟨aT .undef 20 [(1, I s), (5, rowv .nils 1 1 st ((bitsL i s).map nI)), (7, I n), (8, I i)], [⟨a, c, .gone⟩, ⟨st, ss, rowo 1 ((bitsL i s).map nI)⟩], []⟩) (fun i => n - i) ?_ 0 ?_
 ·rintro i σ ⟨hi, a, c, st, ss, rfl⟩ N Q hQ hN
  by_cases hlt : i < n
  ·have hsm := @bitsL_len i s
   simp only [go_sem, ↓reduceIte, ↓gA, ↓gB, ↓gC, ↓gD, ↓cA, ↓cB, wrap_succ hlt (by omega), Int.ofNat_lt, hlt, hasR_r hs]
   refine ⟨fun hb => ?_, fun hb => ?_⟩
   ·refine ⟨by omega, hN (i + 1) _ (by omega) ⟨by omega, a + 1, 0, st + 1, 0, ?_⟩⟩
    simp only [go_sem, ↓reduceIte, ↓gA, ↓gB, ↓gC, ↓gD, ↓cA, ↓cB, bitsL_succ, hb, List.map_append]
   ·refine hN (i + 1) _ (by omega) ⟨by omega, a, c, st, ss, ?_⟩
    simp only [go_sem, ↓reduceIte, ↓gA, ↓gB, ↓gC, ↓gD, ↓cA, ↓cB, bitsL_succ, hb]
  ·have : i = n := by omega
   subst this hQ
   simp only [go_sem, ↓reduceIte, ↓gA, ↓gB, ↓gC, ↓gD, ↓cA, ↓cB, Int.ofNat_lt, hlt]
 ·refine ⟨by omega, 0, 0, 0, 0, ?_⟩
  simp only [go_sem, ↓reduceIte, ↓gA, ↓gB, ↓gC, ↓gD, ↓cA, ↓cB, bitsL, List.range_zero, List.filter_nil]
theorem list_r {n s : Nat} (hn : n ≤ 1000) (hs : s < 2 ^ 63) {roots : List Nat} {b : Nat} {ss : List Nat} {σ : St} {k : AV → St → Prop} : callT G f_r01_List [I n, I s] true roots b ss σ k = k (.lst ((bitsL n s).map nI)) σ := (list_ok n s hn hs).rule
end Go.Mw
/- Families: is a state valid? (reference) -/
namespace Go.Mw
set_option maxRecDepth 100000
def orAll (l : List Ch) : Int := l.foldl (fun s c => bor .i64 s c.W) 0
def disj (l : List Ch) : Bool := decide (∀ k < l.length, band .i64 (orAll (l.take k)) l[k]!.W = 0)
theorem orAll_succ {l : List Ch} {k : Nat} (h : k < l.length) : orAll (l.take (k + 1)) = bor .i64 (orAll (l.take k)) l[k]!.W := by
 unfold orAll
 rw [List.take_succ_eq_append_getElem h, List.foldl_append, getElem!_pos l k h]; rfl
structure PlanOk (p : Plan) (n st pr : Nat) : Prop where
 len : p.X.length = n
 acc : choOk p.A ((2 ^ pr : Nat) : Int) (fun x => decide (0 ≤ x ∧ x < ((2 ^ n : Nat) : Int))) = true
 nxt : ∀ i < p.X.length, choOk p.X[i]! ((2 ^ pr : Nat) : Int) (fun x => decide (0 ≤ x ∧ x < (st : Int))) = true ∧ disj p.X[i]! = true
 has : ∀ i < p.A.length, ∀ a < n, p.A[i]!.N.toNat.testBit a = true → bandn .i64 p.A[i]!.W (orAll p.X[a]!) = 0
def wsOf (p : Plan) (i : Nat) : List Int := (List.range i).map fun j => orAll p.X[j]!
theorem wsOf_succ {p : Plan} {i : Nat} : wsOf p (i + 1) = wsOf p i ++ [orAll p.X[i]!] := by unfold wsOf; rw [List.range_succ]; simp
theorem wsOf_len {p : Plan} {i : Nat} : (wsOf p i).length = i := by simp [wsOf]
theorem wsOf_get {p : Plan} {i j : Nat} (h : j < i) : (wsOf p i)[j]! = orAll p.X[j]! := by
 rw [getElem!_pos (wsOf p i) j (by rw [wsOf_len]; exact h)]; simp [wsOf]
open Classical in
theorem planR_ok (p : Plan) (n st pr : Nat) (hn : n ≤ 8) (hpr : pr ≤ 32) (hA : p.A.length ≤ 1048576) (hX : p.X.length ≤ 1048576) (hX2 : ∀ i < p.X.length, p.X[i]!.length ≤ 1048576) :
 FnT G f_r16_plan [eP p, I n, I st, I pr] (Bo (decide (PlanOk p n st pr))) := by
 have hno : (PlanOk p n st pr → False) → AV.bool false = Bo (decide (PlanOk p n st pr)) := fun h => by rw [decide_eq_false (fun hp => h hp)]
 refine FnP.mk' g_r16_plan rfl rfl ?_
 simp only [go_sem, ↓reduceIte, ↓gA, ↓gB, ↓gC, ↓gD, ↓cA, ↓cB, c_r16_plan, eP, bshl_one (show n ≤ 62 by omega), choicesR_r hA hpr]
 refine ⟨fun h1 => ⟨fun h2 => hno (fun hp => by rw [hp.acc] at h2; cases h2), fun h2 => ?_⟩, fun h1 => hno (fun hp => by have := hp.len; simp at h1; omega)⟩
 have hXn : p.X.length = n := by simp at h1; omega
 refine wp_loopQ (fun (i : Nat) σ => i ≤ p.X.length ∧ (∀ j < i, choOk p.X[j]! ((2 ^ pr : Nat) : Int) (fun x => decide (0 ≤ x ∧ x < (st : Int))) = true ∧ disj p.X[j]! = true) ∧ ∃ a1 c1 a2 c2 s3 d3 a4 c4, σ = ⟨aT .undef 92 [(1, I n), (2, I st), (3, I pr), (4, .ptr 0 1 [] 0 0 0), (9, rowv .nils 1 3 s3 ((wsOf p i).map I)), (34, .lst (p.X.map eCs)), (35, I p.X.length), (36, I i)],
  [⟨1, 0, .own 2 [.agg [.lst (p.A.map eC), .lst (p.X.map eCs)]]⟩, ⟨a1, c1, .gone⟩, ⟨a2, c2, .gone⟩, ⟨s3, d3, rowo 1 ((wsOf p i).map I)⟩, ⟨a4, c4, .gone⟩], []⟩) (fun i => p.X.length - i) ?_ 0 ?_
 ·rintro i σ ⟨hi, hall, a1, c1, a2, c2, s3, d3, a4, c4, rfl⟩ N Q hQ hN
  by_cases hlt : i < p.X.length
  ·have hl2 := hX2 i hlt
   simp only [go_sem, ↓reduceIte, ↓gA, ↓gB, ↓gC, ↓gD, ↓cA, ↓cB, eCs, wrap_succ hlt (by omega), Int.ofNat_lt, hlt, choicesR_r hl2 hpr]
   refine ⟨fun h3 => ?_, fun h3 => ?_⟩
   ·subst hQ; simp only [go_sem, ↓reduceIte, ↓gA, ↓gB, ↓gC, ↓gD, ↓cA, ↓cB]; exact hno (fun hp => by rw [(hp.nxt i hlt).1] at h3; cases h3)
   ·refine wp_loopQ (fun (j : Nat) σ => j ≤ p.X[i]!.length ∧ (∀ k < j, band .i64 (orAll (p.X[i]!.take k)) p.X[i]![k]!.W = 0) ∧ ∃ a1 c1, σ = ⟨aT .undef 92 [(1, I n), (2, I st), (3, I pr), (4, .ptr 0 1 [] 0 0 0), (9, rowv .nils 1 3 s3 ((wsOf p i).map I)), (12, I (orAll (p.X[i]!.take j))), (34, .lst (p.X.map eCs)), (35, I p.X.length), (36, I i), (45, .lst (p.X[i]!.map eC)), (46, I p.X[i]!.length), (47, I j)],
     [⟨1, 0, .own 2 [.agg [.lst (p.A.map eC), .lst (p.X.map eCs)]]⟩, ⟨a1, c1, .gone⟩, ⟨a2, c2, .gone⟩, ⟨s3, d3, rowo 1 ((wsOf p i).map I)⟩, ⟨a4, c4, .gone⟩], []⟩) (fun j => p.X[i]!.length - j) ?_ 0 ?_
    ·rintro j σ ⟨hj, hall2, a1, c1, rfl⟩ N2 Q2 hQ2 hN2
     by_cases hlt2 : j < p.X[i]!.length
     ·simp only [go_sem, ↓reduceIte, ↓gA, ↓gB, ↓gC, ↓gD, ↓cA, ↓cB, eC, wrap_succ hlt2 (by omega), Int.ofNat_lt, hlt2]
      refine ⟨fun h4 => ?_, fun h4 => ?_⟩
      ·subst hQ2; simp only [go_sem, ↓reduceIte, ↓gA, ↓gB, ↓gC, ↓gD, ↓cA, ↓cB]
       subst hQ; simp only [go_sem, ↓reduceIte, ↓gA, ↓gB, ↓gC, ↓gD, ↓cA, ↓cB]
       refine hno (fun hp => ?_)
       have := (hp.nxt i hlt).2
       unfold disj at this; rw [decide_eq_true_eq] at this
       have := this j hlt2
       rw [this] at h4; cases h4
      ·refine hN2 (j + 1) _ (by omega) ⟨by omega, forall_lt_succ hall2 (by simpa using h4), a1 + 1, 0, ?_⟩
       simp only [go_sem, ↓reduceIte, ↓gA, ↓gB, ↓gC, ↓gD, ↓cA, ↓cB, orAll_succ hlt2]
     ·have hjl : j = p.X[i]!.length := by omega
      subst hQ2
      simp only [go_sem, ↓reduceIte, ↓gA, ↓gB, ↓gC, ↓gD, ↓cA, ↓cB, Int.ofNat_lt, hlt2, wrap_succ hlt (show p.X.length ≤ 1000000000 by omega)]
      refine ⟨by rw [wsOf_len]; omega, hN (i + 1) _ (by omega) ⟨by omega, forall_lt_succ hall ⟨h3, ?_⟩, a1, c1, a2 + 1, 0, s3 + 1, 0, a4, c4, ?_⟩⟩
      ·unfold disj; rw [decide_eq_true_eq]; rw [← hjl]; exact hall2
      ·simp only [go_sem, ↓reduceIte, ↓gA, ↓gB, ↓gC, ↓gD, ↓cA, ↓cB, wsOf_succ, List.map_append, hjl, List.take_length]
    ·refine ⟨by omega, by simp, a1, c1, ?_⟩
     simp only [go_sem, ↓reduceIte, ↓gA, ↓gB, ↓gC, ↓gD, ↓cA, ↓cB, orAll, List.take_zero, List.foldl_nil]
  ·have hil : i = p.X.length := by omega
   subst hQ
   simp only [go_sem, ↓reduceIte, ↓gA, ↓gB, ↓gC, ↓gD, ↓cA, ↓cB, Int.ofNat_lt, hlt]
   have hacc : ∀ m < p.A.length, ∃ s : Nat, p.A[m]!.N = s ∧ s < 2 ^ n := fun m hm => by
    unfold choOk at h2; rw [decide_eq_true_eq] at h2
    have := (h2 m hm).1
    rw [decide_eq_true_eq] at this
    exact ⟨p.A[m]!.N.toNat, by omega, by omega⟩
   have h28 : 2 ^ n ≤ 2 ^ 8 := Nat.pow_le_pow_right (by omega) hn
   refine wp_loopQ (fun (m : Nat) σ => m ≤ p.A.length ∧ (∀ m' < m, ∀ a < n, p.A[m']!.N.toNat.testBit a = true → bandn .i64 p.A[m']!.W (orAll p.X[a]!) = 0) ∧ ∃ a4 c4, σ = ⟨aT .undef 92 [(1, I n), (9, rowv .nils 1 3 s3 ((wsOf p i).map I)), (67, .lst (p.A.map eC)), (68, I p.A.length), (69, I m)],
    [⟨1, 0, .own 2 [.agg [.lst (p.A.map eC), .lst (p.X.map eCs)]]⟩, ⟨a1, c1, .gone⟩, ⟨a2, c2, .gone⟩, ⟨s3, d3, rowo 1 ((wsOf p i).map I)⟩, ⟨a4, c4, .gone⟩], []⟩) (fun m => p.A.length - m) ?_ 0 ?_
   ·rintro m σ ⟨hm, hall3, a4, c4, rfl⟩ N3 Q3 hQ3 hN3
    by_cases hlt3 : m < p.A.length
    ·obtain ⟨s, hs, hs2⟩ := hacc m hlt3
     simp only [go_sem, ↓reduceIte, ↓gA, ↓gB, ↓gC, ↓gD, ↓cA, ↓cB, eC, wrap_succ hlt3 (by omega), Int.ofNat_lt, hlt3, hs, list_r (show n ≤ 1000 by omega) (show s < 2 ^ 63 by omega)]
     refine wp_loopQ (fun (j : Nat) σ => j ≤ (bitsL n s).length ∧ (∀ j' < j, bandn .i64 p.A[m]!.W (orAll p.X[(bitsL n s)[j']!]!) = 0) ∧ σ = ⟨aT .undef 92 [(1, I n), (9, rowv .nils 1 3 s3 ((wsOf p i).map I)), (16, .ptr 4 (a4 + 1) [] 0 0 0), (67, .lst (p.A.map eC)), (68, I p.A.length), (69, I m), (76, .lst ((bitsL n s).map nI)), (77, I (bitsL n s).length), (78, I j)],
      [⟨1, 0, .own 2 [.agg [.lst (p.A.map eC), .lst (p.X.map eCs)]]⟩, ⟨a1, c1, .gone⟩, ⟨a2, c2, .gone⟩, ⟨s3, d3, rowo 1 ((wsOf p i).map I)⟩, ⟨a4 + 1, 0, .own 2 [.agg [I s, I p.A[m]!.W]]⟩], []⟩) (fun j => (bitsL n s).length - j) ?_ 0 ?_
     ·rintro j σ ⟨hj, hall4, rfl⟩ N4 Q4 hQ4 hN4
      by_cases hlt4 : j < (bitsL n s).length
      ·have hb := @bitsL_len n s
       obtain ⟨hb1, hb2⟩ := bitsL_get hlt4
       simp only [go_sem, ↓reduceIte, ↓gA, ↓gB, ↓gC, ↓gD, ↓cA, ↓cB, wrap_succ hlt4 (by omega), Int.ofNat_lt, hlt4]
       rw [wsOf_get (show (bitsL n s)[j]! < i by omega)]
       refine ⟨by rw [wsOf_len]; omega, fun h => ?_, by rw [wsOf_len]; omega, fun h => ?_, fun h => ?_⟩
       ·have := congrArg List.length h; rw [List.length_map, wsOf_len] at this; simp at this; omega
       ·subst hQ4; simp only [go_sem, ↓reduceIte, ↓gA, ↓gB, ↓gC, ↓gD, ↓cA, ↓cB]
        subst hQ3; simp only [go_sem, ↓reduceIte, ↓gA, ↓gB, ↓gC, ↓gD, ↓cA, ↓cB]
        refine hno (fun hp => ?_)
        have := hp.has m hlt3 _ hb1 (by rw [hs]; exact hb2)
        rw [this] at h; cases h
       ·refine hN4 (j + 1) _ (by omega) ⟨by omega, forall_lt_succ hall4 (by simpa using h), ?_⟩
        simp only [go_sem, ↓reduceIte, ↓gA, ↓gB, ↓gC, ↓gD, ↓cA, ↓cB]
      ·have hjl : j = (bitsL n s).length := by omega
       subst hQ4
       simp only [go_sem, ↓reduceIte, ↓gA, ↓gB, ↓gC, ↓gD, ↓cA, ↓cB, Int.ofNat_lt, hlt4, wrap_succ hlt3 (show p.A.length ≤ 1000000000 by omega)]
       refine hN3 (m + 1) _ (by omega) ⟨by omega, forall_lt_succ hall3 (fun a ha hbit => ?_), a4 + 1, 0, ?_⟩
       ·obtain ⟨j', hj', e⟩ := bitsL_mem (s := s) ha (by rw [hs, Int.toNat_natCast] at hbit; exact hbit)
        rw [← e]; exact hall4 j' (by omega)
       ·simp only [go_sem, ↓reduceIte, ↓gA, ↓gB, ↓gC, ↓gD, ↓cA, ↓cB]
     ·exact ⟨by omega, by simp, by simp only [go_sem, ↓reduceIte, ↓gA, ↓gB, ↓gC, ↓gD, ↓cA, ↓cB]⟩
    ·have hml : m = p.A.length := by omega
     subst hQ3
     simp only [go_sem, ↓reduceIte, ↓gA, ↓gB, ↓gC, ↓gD, ↓cA, ↓cB, Int.ofNat_lt, hlt3]
     rw [decide_eq_true ⟨hXn, h2, fun k hk => hall k (by omega), fun m hm a ha => hall3 m (by omega) a ha⟩]
   ·refine ⟨by omega, by simp, a4, c4, by simp only [go_sem, ↓reduceIte, ↓gA, ↓gB, ↓gC, ↓gD, ↓cA, ↓cB]⟩
 ·refine ⟨by omega, by simp, 0, 0, 0, 0, 0, 0, 0, 0, ?_⟩
  simp only [go_sem, ↓reduceIte, ↓gA, ↓gB, ↓gC, ↓gD, ↓cA, ↓cB, wsOf, List.range_zero]
open Classical in
theorem planR_r {p : Plan} {n st pr : Nat} (hn : n ≤ 8) (hpr : pr ≤ 32) (hA : p.A.length ≤ 1048576) (hX : p.X.length ≤ 1048576) (hX2 : ∀ i < p.X.length, p.X[i]!.length ≤ 1048576)
 {fr : Bool} {roots : List Nat} {b : Nat} {ss : List Nat} {σ : St} {k : AV → St → Prop} : callT G f_r16_plan [.agg [.lst (p.A.map eC), .lst (p.X.map eCs)], I n, I st, I pr] fr roots b ss σ k = k (Bo (decide (PlanOk p n st pr))) σ := (planR_ok p n st pr hn hpr hA hX hX2).rule
end Go.Mw
/- Families: are they valid? (reference) -/
namespace Go.Mw
set_option maxRecDepth 100000
structure FamOk (f : Fam) : Prop where
 acts : actsOk f.acts = true
 p1 : 1 ≤ f.P
 p2 : f.P ≤ 32
 s1 : 1 ≤ f.S.length
 s2 : f.S.length ≤ 500
 plan : ∀ i < f.S.length, PlanOk f.S[i]! f.acts.length f.S.length f.P.toNat
structure PSz (p : Plan) : Prop where
 a : p.A.length ≤ 1048576
 x : p.X.length ≤ 1048576
 y : ∀ i < p.X.length, p.X[i]!.length ≤ 1048576
structure FSz (f : Fam) : Prop where
 a : f.acts.length ≤ 1048576
 s : f.S.length ≤ 1048576
 p : ∀ i < f.S.length, PSz f.S[i]!
section
variable {fr : Bool} {roots : List Nat} {b : Nat} {ss : List Nat} {σ : St} {k : AV → St → Prop}
theorem actsR_r {l : List ByteArray} (hl : l.length ≤ 1048576) : callT G f_r01_Is [.lst (l.map .str)] fr roots b ss σ k = k (Bo (actsOk l)) σ := (actsR_ok l hl).rule
theorem acts_r {l : List ByteArray} (hl : l.length ≤ 1048576) : callT G f_act_Valid [.lst (l.map .str)] fr roots b ss σ k = k (Bo (actsOk l)) σ := (acts_ok l hl).rule
end
open Classical in
theorem famR_ok (f : Fam) (hf : FSz f) : FnT G f_r16_Is [eF f] (Bo (decide (FamOk f))) := by
 have hno : (FamOk f → False) → AV.bool false = Bo (decide (FamOk f)) := fun h => by rw [decide_eq_false (fun hp => h hp)]
 refine FnP.mk' g_r16_Is rfl rfl ?_
 simp only [go_sem, ↓reduceIte, ↓gA, ↓gB, ↓gC, ↓gD, ↓cA, ↓cB, c_r16_Is, eF, actsR_r hf.a]
 refine ⟨fun h1 => ⟨fun h2 => ⟨fun h3 => ⟨fun h4 => ⟨fun h5 => ?_, fun h5 => ?_⟩, fun h4 => ?_⟩, fun h3 => ?_⟩, fun h2 => ?_⟩, fun h1 => ?_⟩
 all_goals first
  | exact hno (fun hp => by have := hp.p1; have := hp.p2; have := hp.s1; have := hp.s2; omega)
  | exact hno (fun hp => by have := hp.acts; simp_all)
  | skip
 obtain ⟨P, hP⟩ : ∃ P : Nat, f.P = P := ⟨f.P.toNat, by omega⟩
 have hacts : actsOk f.acts = true := by assumption
 have ha8 : f.acts.length ≤ 8 := by unfold actsOk at hacts; rw [decide_eq_true_eq] at hacts; exact hacts.1
 have hP32 : P ≤ 32 := by omega
 have hS := hf.s
 refine wp_loopQ (fun (i : Nat) σ => i ≤ f.S.length ∧ (∀ j < i, PlanOk f.S[j]! f.acts.length f.S.length P) ∧ ∃ a1 c1, σ = ⟨aT .undef 50 [(1, .ptr 0 1 [] 0 0 0), (32, .lst (f.S.map eP)), (33, I f.S.length), (34, I i)],
  [⟨1, 0, .own 3 [.agg [.lst (f.acts.map .str), I f.P, .lst (f.S.map eP)]]⟩, ⟨a1, c1, .gone⟩], []⟩) (fun i => f.S.length - i) ?_ 0 ?_
 ·rintro i σ ⟨hi, hall, a1, c1, rfl⟩ N Q hQ hN
  by_cases hlt : i < f.S.length
  ·obtain ⟨g1, g2, g3⟩ := hf.p i hlt
   simp only [go_sem, ↓reduceIte, ↓gA, ↓gB, ↓gC, ↓gD, ↓cA, ↓cB, eP, wrap_succ hlt (by omega), Int.ofNat_lt, hlt, hP, planR_r ha8 hP32 g1 g2 g3]
   refine ⟨fun h => ?_, fun h => ?_⟩
   ·subst hQ; simp only [go_sem, ↓reduceIte, ↓gA, ↓gB, ↓gC, ↓gD, ↓cA, ↓cB]
    exact hno (fun hp => h (by have := hp.plan i hlt; rw [hP, Int.toNat_natCast] at this; exact this))
   ·refine hN (i + 1) _ (by omega) ⟨by omega, forall_lt_succ hall h, a1 + 1, 0, ?_⟩
    simp only [go_sem, ↓reduceIte, ↓gA, ↓gB, ↓gC, ↓gD, ↓cA, ↓cB, hP]
  ·have hil : i = f.S.length := by omega
   subst hQ
   simp only [go_sem, ↓reduceIte, ↓gA, ↓gB, ↓gC, ↓gD, ↓cA, ↓cB, Int.ofNat_lt, hlt]
   rw [decide_eq_true ⟨hacts, by omega, by omega, by omega, by omega, fun j hj => by rw [hP, Int.toNat_natCast]; exact hall j (by omega)⟩]
 ·exact ⟨by omega, by simp, 0, 0, by simp only [go_sem, ↓reduceIte, ↓gA, ↓gB, ↓gC, ↓gD, ↓cA, ↓cB]⟩
open Classical in
theorem famR_r {f : Fam} (hf : FSz f) {fr : Bool} {roots : List Nat} {b : Nat} {ss : List Nat} {σ : St} {k : AV → St → Prop} :
 callT G f_r16_Is [.agg [.lst (f.acts.map .str), I f.P, .lst (f.S.map eP)]] fr roots b ss σ k = k (Bo (decide (FamOk f))) σ := (famR_ok f hf).rule
end Go.Mw
/- Families: are they valid? -/
namespace Go.Mw
set_option maxRecDepth 100000
end Go.Mw
/- Products: choices that are made. -/
namespace Go.Mw
set_option maxRecDepth 100000
def chosenL (l : List Ch) (p : Nat) : List Int := (l.filter fun c => c.W.toNat.testBit p).map (·.N)
def WOk (l : List Ch) : Prop := ∀ i < l.length, ∃ w : Nat, l[i]!.W = w ∧ w < 2 ^ 62
theorem chosenL_succ {l : List Ch} {p i : Nat} (h : i < l.length) : chosenL (l.take (i + 1)) p = if l[i]!.W.toNat.testBit p then chosenL (l.take i) p ++ [l[i]!.N] else chosenL (l.take i) p := by
 unfold chosenL
 rw [List.take_succ_eq_append_getElem h, List.filter_append, getElem!_pos l i h]
 by_cases hb : l[i].W.toNat.testBit p <;> simp [hb]
theorem chosenL_len {l : List Ch} {p : Nat} : (chosenL l p).length ≤ l.length := by
 unfold chosenL; rw [List.length_map]; exact List.length_filter_le _ _
theorem chosenR_ok (l : List Ch) (hl : l.length ≤ 1048576) (hw : WOk l) (p : Nat) : Fn G f_r16_chosen [.lst (l.map eC), I p] (.lst ((chosenL l p).map I)) := by
 refine FnP.mk' g_r16_chosen rfl rfl ?_
 simp only [go_sem, ↓reduceIte, ↓gA, ↓gB, ↓gC, ↓gD, ↓cA, ↓cB, c_r16_chosen]
 refine wp_loopQ (fun (i : Nat) σ => i ≤ l.length ∧ ∃ a0 c0 a1 c1 st ss, σ = ⟨aT .undef 25 [(1, I p), (5, rowv .nils 1 2 st ((chosenL (l.take i) p).map I)), (8, .lst (l.map eC)), (9, I l.length), (10, I i)], [⟨a0, c0, .gone⟩, ⟨a1, c1, .gone⟩, ⟨st, ss, rowo 1 ((chosenL (l.take i) p).map I)⟩], []⟩) (fun i => l.length - i) ?_ 0 ?_
 ·rintro i σ ⟨hi, a0, c0, a1, c1, st, ss, rfl⟩ N Q hQ hN
  by_cases hlt : i < l.length
  ·obtain ⟨w, hw1, hw2⟩ := hw i hlt
   have hsm := @chosenL_len (l.take i) p
   rw [List.length_take] at hsm
   simp only [go_sem, ↓reduceIte, ↓gA, ↓gB, ↓gC, ↓gD, ↓cA, ↓cB, eC, wrap_succ hlt (by omega), Int.ofNat_lt, hlt, hw1, hasR_r (show w < 2 ^ 63 by omega)]
   refine ⟨fun hb => ⟨by omega, hN (i + 1) _ (by omega) ⟨by omega, a0 + 1, 0, a1 + 1, 0, st + 1, 0, ?_⟩⟩, fun hb => hN (i + 1) _ (by omega) ⟨by omega, a0 + 1, 0, a1, c1, st, ss, ?_⟩⟩
   ·simp only [go_sem, ↓reduceIte, ↓gA, ↓gB, ↓gC, ↓gD, ↓cA, ↓cB, chosenL_succ hlt, hw1, hb, List.map_append]
   ·simp only [go_sem, ↓reduceIte, ↓gA, ↓gB, ↓gC, ↓gD, ↓cA, ↓cB, chosenL_succ hlt, hw1, hb]
  ·have hil : i = l.length := by omega
   subst hil hQ
   simp only [go_sem, ↓reduceIte, ↓gA, ↓gB, ↓gC, ↓gD, ↓cA, ↓cB, Int.ofNat_lt, hlt, List.take_length]
 ·refine ⟨by omega, 0, 0, 0, 0, 0, 0, ?_⟩
  simp only [go_sem, ↓reduceIte, ↓gA, ↓gB, ↓gC, ↓gD, ↓cA, ↓cB, chosenL, List.take_zero, List.filter_nil]
theorem chosenR_r {l : List Ch} (hl : l.length ≤ 1048576) (hw : WOk l) {p : Nat} {roots : List Nat} {b : Nat} {ss : List Nat} {σ : St} {k : AV → St → Prop} :
 callT G f_r16_chosen [.lst (l.map eC), I p] true roots b ss σ k = k (.lst ((chosenL l p).map I)) σ := (chosenR_ok l hl hw p).rule
def nextOf (l : List Ch) (p : Nat) : Int := (chosenL l p).headD (-1)
theorem clone_ok (l : List ByteArray) (hl : l.length ≤ 1048576) : FnS G f_slices_CloneZsgsg [.lst (l.map .str)] (.lst (l.map .str)) := by
 cases l with
 | nil => exact ⟨F_slices_CloneZsgsg, 30, g_slices_CloneZsgsg, rfl, rfl, rfl, rfl⟩
 | cons x l =>
   have h : Fn G f_slices_CloneZsgsg [.lst ((x :: l).map .str)] (.lst ((x :: l).map .str)) := by
    refine FnP.mk' g_slices_CloneZsgsg rfl rfl ?_
    simp only [go_sem, ↓reduceIte, ↓gA, ↓gB, ↓gC, ↓gD, ↓cA, ↓cB, c_slices_CloneZsgsg]
    exact ⟨fun h => by simp at h, fun _ => ⟨by simp at hl; omega, rfl⟩⟩
   obtain ⟨F, n, rs, σ1, hf, h1, h2, h3, h4, hr, hR⟩ := h
   refine ⟨F, n, hf, h1, h2, h3, ?_⟩
   unfold callX
   rw [h4]; simp only [Bool.false_eq_true, if_false, hr, Bool.true_or, if_true, give, h3, hR]
end Go.Mw
/- The specification of a product. -/
namespace Go.Mw
set_option maxRecDepth 100000
structure Stt where
 A : List Int
 X : List Int
 deriving Inhabited
structure Spc where
 acts : List ByteArray
 S : List Stt
 deriving Inhabited
def eSt (x : Stt) : AV := .agg [.lst (x.A.map I), .lst (x.X.map I)]
def eSp (s : Spc) : AV := .agg [.lst (s.acts.map .str), .lst (s.S.map eSt)]
def sttOf (x : Plan) (p : Nat) : Stt := ⟨chosenL x.A p, x.X.map fun l => nextOf l p⟩
def prodOf (f : Fam) (p : Nat) : Spc := ⟨f.acts, f.S.map fun x => sttOf x p⟩
def eRow (x : Stt) : AV := .agg [.lst (x.A.map I), cellv .nils 1 (x.X.map I)]
theorem frz_eRow (x : Stt) : frz (eRow x) = eSt x := by simp only [eRow, eSt, go_sem]
theorem eRow_eq (x : Plan) (p : Nat) : eRow (sttOf x p) = .agg [.lst ((chosenL x.A p).map I), cellv .nils 1 (x.X.map fun l => I (nextOf l p))] := by simp [eRow, sttOf]; rfl
structure FWOk (f : Fam) : Prop where
 a : ∀ i < f.S.length, WOk f.S[i]!.A
 x : ∀ i < f.S.length, ∀ j < f.S[i]!.X.length, WOk f.S[i]!.X[j]!
theorem take_succ_map {α β : Type} [Inhabited α] (g : α → β) {l : List α} {i : Nat} (h : i < l.length) : (l.take (i + 1)).map g = (l.take i).map g ++ [g l[i]!] := by
 rw [List.take_succ_eq_append_getElem h, List.map_append, getElem!_pos l i h]; rfl
theorem prodR_ok (f : Fam) (hf : FSz f) (hw : FWOk f) (p : Nat) : Fn G f_r16_Product [eF f, I p] (eSp (prodOf f p)) := by
 refine FnP.mk' g_r16_Product rfl rfl ?_
 simp only [go_sem, ↓reduceIte, ↓gA, ↓gB, ↓gC, ↓gD, ↓cA, ↓cB, c_r16_Product, eF]
 refine ⟨by have := hf.a; omega, ?_⟩
 refine wp_loopQ (fun (i : Nat) σ => i ≤ f.S.length ∧ ∃ z a2 c2 a4 c4 a5 c5 a6 c6 a7 c7 a8 c8 a9 c9, σ = ⟨aT .undef 60 [(1, I p), (4, .ptr 1 1 [] 0 0 0), (5, .ptr 3 1 [] 0 0 0), (18, .lst (f.S.map eP)), (19, I f.S.length), (20, I i)],
  [⟨1, 0, .own 3 [.agg [.lst (f.acts.map .str), I f.P, .lst (f.S.map eP)]]⟩, ⟨1, 0, .own 2 [.agg [.nils, .nils]]⟩, ⟨a2, c2, .gone⟩, ⟨1, z, .own 2 [.agg [cellv .nils 1 (f.acts.map .str), cellv .nils 2 ((f.S.take i).map fun x => eRow (sttOf x p))]]⟩, ⟨a4, c4, .gone⟩, ⟨a5, c5, .gone⟩, ⟨a6, c6, .gone⟩, ⟨a7, c7, .gone⟩, ⟨a8, c8, .gone⟩, ⟨a9, c9, .gone⟩], []⟩) (fun i => f.S.length - i) ?_ 0 ?_
 ·rintro i σ ⟨hi, z, a2, c2, a4, c4, a5, c5, a6, c6, a7, c7, a8, c8, a9, c9, rfl⟩ N Q hQ hN
  have hS := hf.s
  by_cases hlt : i < f.S.length
  ·obtain ⟨g1, g2, g3⟩ := hf.p i hlt
   simp only [go_sem, ↓reduceIte, ↓gA, ↓gB, ↓gC, ↓gD, ↓cA, ↓cB, eP, wrap_succ hlt (by omega), Int.ofNat_lt, hlt, chosenR_r g1 (hw.a i hlt)]
   generalize hx : f.S[i]! = x at *
   have hwx : ∀ j < x.X.length, WOk x.X[j]! := fun j hj => by have := hw.x i hlt j (by rw [hx]; exact hj); rw [hx] at this; exact this
   refine wp_loopQ (fun (j : Nat) σ => j ≤ x.X.length ∧ ∃ z5 a6 c6 a7 c7, σ = ⟨aT .undef 60 [(1, I p), (4, .ptr 1 1 [] 0 0 0), (5, .ptr 3 1 [] 0 0 0), (8, .ptr 5 (a5 + 1) [] 0 0 0), (18, .lst (f.S.map eP)), (19, I f.S.length), (20, I i), (30, .lst (x.X.map eCs)), (31, I x.X.length), (32, I j)],
    [⟨1, 0, .own 3 [.agg [.lst (f.acts.map .str), I f.P, .lst (f.S.map eP)]]⟩, ⟨1, 0, .own 2 [.agg [.nils, .nils]]⟩, ⟨a2, c2, .gone⟩, ⟨1, z, .own 2 [.agg [cellv .nils 1 (f.acts.map .str), cellv .nils 2 ((f.S.take i).map fun x => eRow (sttOf x p))]]⟩, ⟨a4 + 1, 0, .own 2 [.agg [.lst (x.A.map eC), .lst (x.X.map eCs)]]⟩, ⟨a5 + 1, z5, .own 2 [.agg [.lst ((chosenL x.A p).map I), cellv .nils 1 ((x.X.take j).map fun l => I (nextOf l p))]]⟩, ⟨a6, c6, .gone⟩, ⟨a7, c7, .gone⟩, ⟨a8, c8, .gone⟩, ⟨a9, c9, .gone⟩], []⟩) (fun j => x.X.length - j) ?_ 0 ?_
   ·rintro j σ ⟨hj, z5, a6, c6, a7, c7, rfl⟩ N2 Q2 hQ2 hN2
    by_cases hlt2 : j < x.X.length
    ·have hl := g3 j hlt2
     simp only [go_sem, ↓reduceIte, ↓gA, ↓gB, ↓gC, ↓gD, ↓cA, ↓cB, eCs, wrap_succ hlt2 (by omega), Int.ofNat_lt, hlt2, chosenR_r hl (hwx j hlt2)]
     have hn : nextOf x.X[j]! p = if 0 < (chosenL x.X[j]! p).length then (chosenL x.X[j]! p)[0]! else -1 := by
      unfold nextOf; cases chosenL x.X[j]! p <;> simp
     refine ⟨fun h => ⟨by omega, by rw [List.length_take]; omega, hN2 (j + 1) _ (by omega) ⟨by omega, ?_⟩⟩, fun h => ⟨by rw [List.length_take]; omega, hN2 (j + 1) _ (by omega) ⟨by omega, ?_⟩⟩⟩
     ·rw [if_pos (by omega)] at hn
      simp only [go_sem, ↓reduceIte, ↓gA, ↓gB, ↓gC, ↓gD, ↓cA, ↓cB, take_succ_map _ hlt2, hn]
      repeat apply Exists.intro
      rfl
     ·rw [if_neg (by omega)] at hn
      simp only [go_sem, ↓reduceIte, ↓gA, ↓gB, ↓gC, ↓gD, ↓cA, ↓cB, take_succ_map _ hlt2, hn]
      repeat apply Exists.intro
      rfl
    ·have hjl : j = x.X.length := by omega
     subst hjl hQ2
     simp only [go_sem, ↓reduceIte, ↓gA, ↓gB, ↓gC, ↓gD, ↓cA, ↓cB, Int.ofNat_lt, hlt2, List.take_length, wrap_succ hlt (show f.S.length ≤ 1000000000 by omega)]
     refine ⟨by rw [List.length_take]; omega, hN (i + 1) _ (by omega) ⟨by omega, ?_⟩⟩
     simp only [go_sem, ↓reduceIte, ↓gA, ↓gB, ↓gC, ↓gD, ↓cA, ↓cB, take_succ_map _ hlt, hx, eRow_eq]
     repeat apply Exists.intro
     rfl
   ·refine ⟨by omega, ?_⟩
    simp only [go_sem, ↓reduceIte, ↓gA, ↓gB, ↓gC, ↓gD, ↓cA, ↓cB, List.take_zero]
    repeat apply Exists.intro
    rfl
  ·have hil : i = f.S.length := by omega
   subst hil hQ
   simp only [go_sem, ↓reduceIte, ↓gA, ↓gB, ↓gC, ↓gD, ↓cA, ↓cB, Int.ofNat_lt, hlt, List.take_length, eSp, prodOf]
   simp only [List.map_map]
   have e : ∀ x, (frz ∘ fun x => eRow (sttOf x p)) x = (eSt ∘ fun x => sttOf x p) x := fun x => frz_eRow _
   rw [List.map_congr_left (fun x _ => e x)]
 ·refine ⟨by omega, ?_⟩
  simp only [go_sem, ↓reduceIte, ↓gA, ↓gB, ↓gC, ↓gD, ↓cA, ↓cB, List.take_zero]
  repeat apply Exists.intro
  rfl
end Go.Mw
/- The specification of a product, as the program makes it. -/
namespace Go.Mw
set_option maxRecDepth 100000
theorem clone_r {l : List ByteArray} (hl : l.length ≤ 1048576) {roots : List Nat} {b : Nat} {ss : List Nat} {σ : St} {k : AV → St → Prop} :
 callT G f_slices_CloneZsgsg [.lst (l.map .str)] true roots b ss σ k = k (.lst (l.map .str)) σ := (clone_ok l hl).rule
end Go.Mw
