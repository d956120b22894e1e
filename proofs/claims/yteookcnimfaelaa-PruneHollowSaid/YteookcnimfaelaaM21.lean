/- Maps: rules for walks. -/
import Derived.Test.YteookcnimfaelaaM20
set_option linter.unusedVariables false
set_option linter.unusedSimpArgs false
namespace Go.Mw
set_option maxRecDepth 100000
abbrev KV := (Int × Int) × AV
def eKV (e : KV) : AV × AV := (.agg [I e.1.1, I e.1.2], e.2)
def entsE (l : List KV) : List (AV × AV) := l.map eKV
def hasM (l : List KV) (k : Int × Int) : Bool := l.any fun e => e.1 == k
def idxM (l : List KV) (k : Int × Int) : Nat := (l.findIdx? fun e => e.1 == k).getD l.length
def lookM (l : List KV) (k : Int × Int) (z : AV) : AV := match l.find? fun e => e.1 == k with | some e => e.2 | none => z
def ensM (l : List KV) (k : Int × Int) (z : AV) : List KV := if hasM l k then l else l ++ [(k, z)]
def setIM : List KV → Nat → AV → List KV
 | [], _, _ => []
 | e :: l, 0, v => (e.1, v) :: l
 | e :: l, i + 1, v => e :: setIM l i v
def putM (l : List KV) (k : Int × Int) (v : AV) : List KV := setIM (ensM l k v) (idxM l k) v
theorem findK_E {l : List KV} {a b : Int} : findK (true, [1, 1]) (.agg [I a, I b]) (entsE l) = some (l.findIdx? fun e => e.1 == (a, b)) := by
 have hk : (keyEq (true, [1, 1]) (.agg [I a, I b]) (.agg [I a, I b])).isSome = true ∧ (AV.agg [I a, I b]).k64 = true := by
  simp [keyEq, eqCells, eqCell, AV.k64, AV.c64]
 have key : ∀ (l : List KV) (n : Nat), findKey (true, [1, 1]) (.agg [I a, I b]) (entsE l) n = some ((l.findIdx? fun e => e.1 == (a, b)).map (· + n)) := by
  intro l
  induction l with
  | nil => intro n; rfl
  | cons e l ih =>
    intro n
    obtain ⟨⟨c, d⟩, v⟩ := e
    simp only [entsE, List.map_cons, eKV, findKey]
    have he : keyEq (true, [1, 1]) (.agg [I a, I b]) (.agg [I c, I d]) = some ((c, d) == (a, b)) := by
     simp only [keyEq, eqCells, eqCell, if_true]
     have e1 : (a == c) = (c == a) := Bool.beq_comm
     have e2 : (b == d) = (d == b) := Bool.beq_comm
     have e3 : ((c, d) == (a, b)) = ((c == a) && (d == b)) := rfl
     rw [e1, e2, e3]
     cases (c == a) <;> cases (d == b) <;> rfl
    rw [he, List.findIdx?_cons]
    cases hb : ((c, d) == (a, b)) with
    | true => simp
    | false =>
      simp only [Bool.false_eq_true, if_false]
      have := ih (n + 1)
      unfold entsE at this
      rw [this, Option.map_map]
      congr 2
      funext i
      simp; omega
 rw [findK, if_pos hk, key l 0]
 simp
theorem idx_lt {l : List KV} {k : Int × Int} {i : Nat} (h : (l.findIdx? fun e => e.1 == k) = some i) : ∃ hi : i < l.length, l[i].1 = k := by
 obtain ⟨h1, h2, _⟩ := List.findIdx?_eq_some_iff_getElem.1 h
 exact ⟨h1, by simpa using h2⟩
theorem find_idx {l : List KV} {k : Int × Int} : (l.find? fun e => e.1 == k) = match l.findIdx? fun e => e.1 == k with | some i => l[i]? | none => none := by
 induction l with
 | nil => rfl
 | cons e l ih =>
   rw [List.find?_cons, List.findIdx?_cons]
   cases hb : (e.1 == k) with
   | true => simp
   | false =>
     simp only [Bool.false_eq_true, if_false, ih]
     cases l.findIdx? fun e => e.1 == k <;> simp
theorem has_idx {l : List KV} {k : Int × Int} : hasM l k = (l.findIdx? fun e => e.1 == k).isSome := by
 unfold hasM
 rw [List.findIdx?_isSome]
section
variable {G : Prg} {b : Nat} {σ : St} {k : AV → St → Prop}
def ownmK (x : AV) (k : List (AV × AV) → Prop) (u : Tg k := tg) : Prop := match x with | .ownm es => k es | _ => False
theorem ownmK_congr {k : List (AV × AV) → Prop} {x x' : AV} (h0 : x = x') : ownmK x k = ownmK x' k := by cases h0; rfl
theorem ownmK_ownm {es : List (AV × AV)} {q : List (AV × AV) → Prop} : ownmK (.ownm es) q = q es := (rfl)
def lokK (kk : KK) (z : AV) (ok : Bool) (m x : AV) (h : List Ob) (k : AV → Prop) (u : Tg k := tg) : Prop :=
 match (match m with | .nilm => some [] | .mp r st p ss => (match node h r st p ss with | some (.ownm es) => some es | _ => none) | _ => none : Option (List (AV × AV))) with
 | some es => (match findK kk x es with
   | some (some i) => (match es[i]? with | some (_, v) => k (if ok then .tup [v, .bool true] else v) | none => False)
   | some none => k (if ok then .tup [z, .bool false] else z)
   | none => False)
 | none => False
theorem lokK_congr {kk : KK} {z : AV} {ok : Bool} {m m' x x' : AV} {h h' : List Ob} {k : AV → Prop} (h0 : m = m') (h1 : x = x') (h2 : h = h') : lokK kk z ok m x h k = lokK kk z ok m' x' h' k := by cases h0; cases h1; cases h2; rfl
attribute [congr] ownmK_congr lokK_congr
theorem wpI_lok {kk : KK} {z : AV} {ok : Bool} {m x : Opd} : wpI G (.lok kk z ok m x) b σ k = lokK kk z ok (σ.get m) (σ.get x) σ.h (fun v => k v σ) := by
 have key : ∀ es : Option (List (AV × AV)), (stepK (match es with
  | some es => match findK kk (σ.get x) es with
    | some (some i) => match es[i]? with
      | some (_, v) => some (if ok then .tup [v, .bool true] else v, σ.h)
      | none => none
    | some none => some (if ok then .tup [z, .bool false] else z, σ.h)
    | none => none
  | none => none) (fun v h => k v { σ with h })) = (match es with
  | some es => (match findK kk (σ.get x) es with
    | some (some i) => (match es[i]? with | some (_, v) => k (if ok then .tup [v, .bool true] else v) σ | none => False)
    | some none => k (if ok then .tup [z, .bool false] else z) σ
    | none => False)
  | none => False) := by
  intro es
  cases es with
  | none => rfl
  | some es =>
    simp only
    cases findK kk (σ.get x) es with
    | none => rfl
    | some o =>
      cases o with
      | none => rfl
      | some i =>
        simp only
        cases es[i]? with
        | none => rfl
        | some e => obtain ⟨a, v⟩ := e; rfl
 simp only [wpI, ax, lokK]
 cases σ.get m <;> first | exact key none | exact key (some []) | skip
 rename_i r st p ss
 simp only
 cases node σ.h r st p ss with
 | none => exact key none
 | some nd => cases nd <;> first | exact key none | exact key (some _)
def lokE (kk : KK) (z : AV) (ok : Bool) (x : AV) (es : List (AV × AV)) (k : AV → Prop) (u : Tg k := tg) : Prop :=
 match findK kk x es with
 | some (some i) => (match es[i]? with | some (_, v) => k (if ok then .tup [v, .bool true] else v) | none => False)
 | some none => k (if ok then .tup [z, .bool false] else z)
 | none => False
theorem lokE_congr {kk : KK} {z : AV} {ok : Bool} {x x' : AV} {es es' : List (AV × AV)} {k : AV → Prop} (h0 : x = x') (h1 : es = es') : lokE kk z ok x es k = lokE kk z ok x' es' k := by cases h0; cases h1; rfl
attribute [congr] lokE_congr
theorem lokK_mp {kk : KK} {z : AV} {ok : Bool} {x : AV} {h : List Ob} {r st ss : Nat} {q : AV → Prop} : lokK kk z ok (.mp r st [] ss) x h q = nodeK h r st [] ss (fun nd => ownmK nd (fun es => lokE kk z ok x es q)) := by
 simp only [lokK, nodeK, ownmK, lokE]
 cases node h r st [] ss with
 | none => rfl
 | some nd => cases nd <;> rfl
theorem lokE_E {z : AV} {ok : Bool} {a c : Int} {l : List KV} {q : AV → Prop} : lokE (true, [1, 1]) z ok (.agg [I a, I c]) (entsE l) q = q (if ok then .tup [lookM l (a, c) z, Bo (hasM l (a, c))] else lookM l (a, c) z) := by
 simp only [lokE, findK_E, lookM, find_idx, has_idx]
 cases h : l.findIdx? fun e => e.1 == (a, c) with
 | none => rfl
 | some i =>
   obtain ⟨hi, _⟩ := idx_lt h
   simp only [entsE, List.getElem?_map, List.getElem?_eq_getElem hi, Option.map_some, eKV, Option.isSome_some]
def mupK (kk : KK) (m x v : AV) (h : List Ob) (k : List Ob → Prop) (u : Tg k := tg) : Prop :=
 match m with
 | .mp r st p ss => (match node h r st p ss with
   | some (.ownm es) => if v.free = true ∧ x.free = true then (match findK kk x es with
     | some (some i) => (match es[i]? with
       | some (k', _) => (match setOb h r p (.ownm (es.set i (k', v))) false with | some h' => k h' | none => False)
       | none => False)
     | some none => (match setOb h r p (.ownm (es ++ [(x, v)])) false with | some h' => k h' | none => False)
     | none => False) else False
   | _ => False)
 | _ => False
theorem mupK_congr {kk : KK} {m m' x x' v v' : AV} {h h' : List Ob} {k : List Ob → Prop} (h0 : m = m') (h1 : x = x') (h2 : h = h') (h3 : v = v') : mupK kk m x v h k = mupK kk m' x' v' h' k := by cases h0; cases h1; cases h2; cases h3; rfl
attribute [congr] mupK_congr
theorem wpI_mup {kk : KK} {m x v : Opd} : wpI G (.mup kk m x v) b σ k = mupK kk (σ.get m) (σ.get x) (σ.get v) σ.h (fun h => k .undef { σ with h }) := by
 simp only [wpI, ax, mupK]
 cases σ.get m <;> first | rfl | skip
 rename_i r st p ss
 simp only
 cases node σ.h r st p ss with
 | none => rfl
 | some nd =>
   cases nd <;> first | rfl | skip
   rename_i es
   simp only
   split
   ·cases findK kk (σ.get x) es with
    | none => rfl
    | some o =>
      cases o with
      | none => simp only; cases setOb σ.h r p (.ownm (es ++ [(σ.get x, σ.get v)])) false <;> rfl
      | some i =>
        simp only
        cases es[i]? with
        | none => rfl
        | some e => obtain ⟨a, w⟩ := e; simp only; cases setOb σ.h r p (.ownm (es.set i (a, σ.get v))) false <;> rfl
   ·rfl
theorem setIM_E {l : List KV} {i : Nat} {v : AV} {kv : AV × AV} (h : (entsE l)[i]? = some kv) : (entsE l).set i (kv.1, v) = entsE (setIM l i v) := by
 induction l generalizing i with
 | nil => simp [entsE] at h
 | cons e l ih =>
   cases i with
   | zero => simp [entsE] at h; subst h; rfl
   | succ i =>
     have := ih (i := i) (by simpa [entsE] using h)
     simp only [entsE, setIM, List.map_cons, List.set_cons_succ] at this ⊢
     rw [this]
theorem mupK_mp {x v : AV} {a c : Int} {h : List Ob} {r st ss : Nat} {q : List Ob → Prop} : mupK (true, [1, 1]) (.mp r st [] ss) (.agg [I a, I c]) v h q =
 nodeK h r st [] ss (fun nd => ownmK nd (fun es => v.free = true ∧ obK h[r]? (fun o => (match findK (true, [1, 1]) (.agg [I a, I c]) es with
  | some (some i) => (match es[i]? with | some (k', _) => q (h.set r ⟨o.st, o.ss, .ownm (es.set i (k', v))⟩) | none => False)
  | some none => q (h.set r ⟨o.st, o.ss, .ownm (es ++ [(.agg [I a, I c], v)])⟩)
  | none => False)))) := by
 simp only [mupK, nodeK, ownmK]
 have hf : (AV.agg [I a, I c]).free = true := rfl
 cases hn : node h r st [] ss with
 | none => rfl
 | some nd =>
   cases nd <;> first | rfl | skip
   rename_i es
   simp only [hf, and_true]
   by_cases hv : v.free = true
   ·simp only [hv, if_true, true_and]
    cases hr : h[r]? with
    | none => simp [node, hr] at hn
    | some o =>
      have hs : ∀ w, setOb h r [] w false = some (h.set r ⟨o.st, o.ss, w⟩) := fun w => by simp [setOb, hr, upd]
      simp only [hs, obK]
   ·simp [hv]
def mupE (a c : Int) (v : AV) (h : List Ob) (r st ss : Nat) (es : List (AV × AV)) (k : List Ob → Prop) (u : Tg k := tg) : Prop :=
 match findK (true, [1, 1]) (.agg [I a, I c]) es with
 | some (some i) => (match es[i]? with | some (k', _) => k (h.set r ⟨st, ss, .ownm (es.set i (k', v))⟩) | none => False)
 | some none => k (h.set r ⟨st, ss, .ownm (es ++ [(.agg [I a, I c], v)])⟩)
 | none => False
theorem mupE_congr {a c : Int} {v v' : AV} {h h' : List Ob} {r st ss : Nat} {es es' : List (AV × AV)} {k : List Ob → Prop} (h0 : v = v') (h1 : h = h') (h2 : es = es') : mupE a c v h r st ss es k = mupE a c v' h' r st ss es' k := by cases h0; cases h1; cases h2; rfl
attribute [congr] mupE_congr
theorem mupK_mp' {v : AV} {a c : Int} {h : List Ob} {r st ss : Nat} {q : List Ob → Prop} : mupK (true, [1, 1]) (.mp r st [] ss) (.agg [I a, I c]) v h q =
 nodeK h r st [] ss (fun nd => ownmK nd (fun es => v.free = true ∧ obK h[r]? (fun o => mupE a c v h r o.st o.ss es q))) := mupK_mp (x := v)
theorem setIM_app {l : List KV} {e : KV} {v : AV} : setIM (l ++ [e]) l.length v = l ++ [(e.1, v)] := by
 induction l with
 | nil => rfl
 | cons x l ih => simp only [List.cons_append, List.length_cons, setIM, ih]
theorem ens_none {l : List KV} {k : Int × Int} {z v : AV} (h : (l.findIdx? fun e => e.1 == k) = none) : setIM (ensM l k z) (idxM l k) v = l ++ [(k, v)] := by
 have h1 : hasM l k = false := by rw [has_idx, h]; rfl
 simp only [ensM, h1, Bool.false_eq_true, if_false, idxM, h, Option.getD_none]
 exact setIM_app
theorem mupE_E {a c : Int} {v : AV} {h : List Ob} {r st ss : Nat} {l : List KV} {q : List Ob → Prop} : mupE a c v h r st ss (entsE l) q = q (h.set r ⟨st, ss, .ownm (entsE (putM l (a, c) v))⟩) := by
 simp only [mupE, findK_E]
 cases hf : l.findIdx? fun e => e.1 == (a, c) with
 | none =>
   have := @ens_none l (a, c) v v hf
   simp only [putM, this]
   simp [entsE, eKV]
 | some i =>
   obtain ⟨hi, _⟩ := idx_lt hf
   have hs : hasM l (a, c) = true := by rw [has_idx, hf]; rfl
   have hg : (entsE l)[i]? = some (eKV l[i]) := by simp [entsE, hi]
   simp only [hg]
   simp only [putM, ensM, hs, if_true, idxM, hf, Option.getD_some]
   rw [← setIM_E hg]
def menE (a c : Int) (z : AV) (h : List Ob) (r st ss ss0 : Nat) (es : List (AV × AV)) (k : AV → List Ob → Prop) (u : Tg k := tg) : Prop :=
 match findK (true, [1, 1]) (.agg [I a, I c]) es with
 | some (some i) => (match es[i]? with | some (_, v) => k (.tup [v, .ent r st [] ss0 i]) (h.set r ⟨st, ss, .ownm es⟩) | none => False)
 | some none => k (.tup [z, .ent r st [] ss0 es.length]) (h.set r ⟨st, ss, .ownm (es ++ [(.agg [I a, I c], z)])⟩)
 | none => False
theorem menE_congr {a c : Int} {z : AV} {h h' : List Ob} {r st ss ss0 : Nat} {es es' : List (AV × AV)} {k : AV → List Ob → Prop} (h1 : h = h') (h2 : es = es') : menE a c z h r st ss ss0 es k = menE a c z h' r st ss ss0 es' k := by cases h1; cases h2; rfl
def menK (kk : KK) (z m x : AV) (h : List Ob) (k : AV → List Ob → Prop) (u : Tg k := tg) : Prop :=
 match m with
 | .mp r st p ss => (match node h r st p ss with
   | some (.ownm es) => if x.free = true ∧ z.free = true then (match findK kk x es with
     | some (some i) => (match es[i]? with | some (_, v) => k (.tup [v, .ent r st p ss i]) h | none => False)
     | some none => (match setOb h r p (.ownm (es ++ [(x, z)])) false with | some h' => k (.tup [z, .ent r st p ss es.length]) h' | none => False)
     | none => False) else False
   | _ => False)
 | _ => False
theorem menK_congr {kk : KK} {z m m' x x' : AV} {h h' : List Ob} {k : AV → List Ob → Prop} (h0 : m = m') (h1 : x = x') (h2 : h = h') : menK kk z m x h k = menK kk z m' x' h' k := by cases h0; cases h1; cases h2; rfl
attribute [congr] menE_congr menK_congr
theorem wpI_men {kk : KK} {z : AV} {m x : Opd} : wpI G (.men kk z m x) b σ k = menK kk z (σ.get m) (σ.get x) σ.h (fun v h => k v { σ with h }) := by
 simp only [wpI, ax, menK]
 cases σ.get m <;> first | rfl | skip
 rename_i r st p ss
 simp only
 ·cases node σ.h r st p ss with
  | none => rfl
  | some nd =>
    cases nd <;> first | rfl | skip
    rename_i es
    simp only
    split
    ·cases findK kk (σ.get x) es with
     | none => rfl
     | some o =>
       cases o with
       | none => simp only; cases setOb σ.h r p (.ownm (es ++ [(σ.get x, z)])) false <;> rfl
       | some i =>
         simp only
         cases es[i]? with
         | none => rfl
         | some e => obtain ⟨a, w⟩ := e; rfl
    ·rfl
theorem menK_mp {z : AV} {a c : Int} {h : List Ob} {r st ss : Nat} {q : AV → List Ob → Prop} : menK (true, [1, 1]) z (.mp r st [] ss) (.agg [I a, I c]) h q =
 nodeK h r st [] ss (fun nd => ownmK nd (fun es => z.free = true ∧ obK h[r]? (fun o => menE a c z h r o.st o.ss ss es q))) := by
 simp only [menK, nodeK, ownmK, menE]
 have hf : (AV.agg [I a, I c]).free = true := rfl
 cases hn : node h r st [] ss with
 | none => rfl
 | some nd =>
   cases nd <;> first | rfl | skip
   rename_i es
   simp only [hf, true_and]
   by_cases hv : z.free = true
   ·simp only [hv, if_true, true_and]
    cases hr : h[r]? with
    | none => simp [node, hr] at hn
    | some o =>
      have hst : o.st = st ∧ o.c = .ownm es := by
       simp only [node, hr] at hn
       split at hn
       ·rename_i hc; simp only [nav, Option.some.injEq] at hn; exact ⟨hc.1, hn⟩
       ·cases hn
      have hset : h.set r ⟨st, o.ss, .ownm es⟩ = h := by
       apply List.ext_getElem?
       intro j
       rw [List.getElem?_set]
       split
       ·rename_i e; subst e; rw [hr]; simp only [(List.getElem?_eq_some_iff.1 hr).1, if_true, Option.some.injEq]
        obtain ⟨a, b, c⟩ := o; simp only at hst; obtain ⟨rfl, rfl⟩ := hst; rfl
       ·rfl
      have hs : ∀ w, setOb h r [] w false = some (h.set r ⟨o.st, o.ss, w⟩) := fun w => by simp [setOb, hr, upd]
      simp only [hs, obK, hst.1, hset]
   ·simp [hv]
theorem menE_E {a c : Int} {z : AV} {h : List Ob} {r st ss ss0 : Nat} {l : List KV} {q : AV → List Ob → Prop} : menE a c z h r st ss ss0 (entsE l) q = q (.tup [lookM l (a, c) z, .ent r st [] ss0 (idxM l (a, c))]) (h.set r ⟨st, ss, .ownm (entsE (ensM l (a, c) z))⟩) := by
 simp only [menE, findK_E, lookM, find_idx, ensM, has_idx, idxM]
 cases hf : l.findIdx? fun e => e.1 == (a, c) with
 | none => simp [entsE, eKV]
 | some i =>
   obtain ⟨hi, _⟩ := idx_lt hf
   have hg : (entsE l)[i]? = some (eKV l[i]) := by simp [entsE, hi]
   simp only [hg, eKV, Option.isSome_some, if_true, Option.getD_some, List.getElem?_eq_getElem hi]
def estK (m s v : AV) (h : List Ob) (k : List Ob → Prop) (u : Tg k := tg) : Prop :=
 match m, s with
 | .mp r st p ss, .ent r' st' p' ss' i => if r' = r ∧ st' = st ∧ p' = p ∧ ss' = ss ∧ v.free = true then (match node h r st p ss with
   | some (.ownm es) => (match es[i]? with
     | some (k', _) => (match setOb h r p (.ownm (es.set i (k', v))) false with | some h' => k h' | none => False)
     | none => False)
   | _ => False) else False
 | _, _ => False
theorem estK_congr {m m' s s' v v' : AV} {h h' : List Ob} {k : List Ob → Prop} (h0 : m = m') (h1 : s = s') (h2 : h = h') (h3 : v = v') : estK m s v h k = estK m' s' v' h' k := by cases h0; cases h1; cases h2; cases h3; rfl
attribute [congr] estK_congr
theorem wpI_est {m s v : Opd} : wpI G (.est m s v) b σ k = estK (σ.get m) (σ.get s) (σ.get v) σ.h (fun h => k .undef { σ with h }) := by
 simp only [wpI, ax, estK]
 cases σ.get m <;> cases σ.get s <;> first | rfl | skip
 rename_i r st p ss r' st' p' ss' i
 simp only
 split
 ·cases node σ.h r st p ss with
  | none => rfl
  | some nd =>
    cases nd <;> first | rfl | skip
    rename_i es
    simp only
    cases es[i]? with
    | none => rfl
    | some e => obtain ⟨a, w⟩ := e; simp only; cases setOb σ.h r p (.ownm (es.set i (a, σ.get v))) false <;> rfl
 ·rfl
def estE (i : Nat) (v : AV) (h : List Ob) (r st ss : Nat) (es : List (AV × AV)) (k : List Ob → Prop) (u : Tg k := tg) : Prop :=
 match es[i]? with
 | some (k', _) => k (h.set r ⟨st, ss, .ownm (es.set i (k', v))⟩)
 | none => False
theorem estE_congr {i : Nat} {v v' : AV} {h h' : List Ob} {r st ss : Nat} {es es' : List (AV × AV)} {k : List Ob → Prop} (h0 : v = v') (h1 : h = h') (h2 : es = es') : estE i v h r st ss es k = estE i v' h' r st ss es' k := by cases h0; cases h1; cases h2; rfl
attribute [congr] estE_congr
theorem estK_mp {v : AV} {h : List Ob} {r st ss r' st' ss' i : Nat} {q : List Ob → Prop} : estK (.mp r st [] ss) (.ent r' st' [] ss' i) v h q =
 ((r' = r ∧ st' = st ∧ ss' = ss ∧ v.free = true) ∧ nodeK h r st [] ss (fun nd => ownmK nd (fun es => obK h[r]? (fun o => estE i v h r o.st o.ss es q)))) := by
 simp only [estK, nodeK, ownmK, estE]
 by_cases hc : r' = r ∧ st' = st ∧ ss' = ss ∧ v.free = true
 ·obtain ⟨rfl, rfl, rfl, hv⟩ := hc
  simp only [hv, and_self, if_true, true_and]
  cases hn : node h r' st' [] ss' with
  | none => rfl
  | some nd =>
    cases nd <;> first | rfl | skip
    rename_i es
    simp only
    cases hr : h[r']? with
    | none => simp [node, hr] at hn
    | some o =>
      have hs : ∀ w, setOb h r' [] w false = some (h.set r' ⟨o.st, o.ss, w⟩) := fun w => by simp [setOb, hr, upd]
      simp only [hs, obK]
 ·have : ¬ (r' = r ∧ st' = st ∧ ([] : Path) = [] ∧ ss' = ss ∧ v.free = true) := fun ⟨a, b, _, c, d⟩ => hc ⟨a, b, c, d⟩
  simp [hc, this]
theorem ens_idx {l : List KV} {k : Int × Int} {z : AV} : idxM l k < (ensM l k z).length := by
 unfold idxM ensM
 rw [has_idx]
 cases hf : l.findIdx? fun e => e.1 == k with
 | none => simp
 | some i => obtain ⟨hi, _⟩ := idx_lt hf; simpa using hi
theorem estE_E {v : AV} {h : List Ob} {r st ss : Nat} {l : List KV} {k : Int × Int} {z : AV} {q : List Ob → Prop} : estE (idxM l k) v h r st ss (entsE (ensM l k z)) q = q (h.set r ⟨st, ss, .ownm (entsE (putM l k v))⟩) := by
 have hi := @ens_idx l k z
 have hg : (entsE (ensM l k z))[idxM l k]? = some (eKV (ensM l k z)[idxM l k]) := by simp [entsE, hi]
 simp only [estE, hg]
 have h2 := @setIM_E (ensM l k z) (idxM l k) v _ hg
 simp only [eKV] at h2 ⊢
 rw [h2]
 have : setIM (ensM l k z) (idxM l k) v = putM l k v := by
  unfold putM
  cases hf : l.findIdx? fun e => e.1 == k with
  | none => rw [ens_none hf, ens_none hf]
  | some i =>
    have hs : hasM l k = true := by rw [has_idx, hf]; rfl
    simp only [ensM, hs, if_true]
 rw [this]
end
theorem footE_lok {G : Prg} {b : Nat} {σ : St} {kk : KK} {z : AV} {ok : Bool} {x y : Opd} : foot G b (.lok kk z ok x y) σ = some (rootsL [σ.get x, σ.get y]) := (rfl)
attribute [go_sem] ownmK_ownm wpI_lok lokK_mp lokE_E wpI_mup mupK_mp' mupE_E wpI_men menK_mp menE_E wpI_est estK_mp estE_E footE_lok
end Go.Mw
/- Pairs that are met for sets of products at once, plainly. -/
namespace Go.Mw
set_option maxRecDepth 100000
def andn (m n : Nat) : Nat := m ^^^ (m &&& n)
theorem andn_test {m n a : Nat} : (andn m n).testBit a = (m.testBit a && !n.testBit a) := by
 unfold andn; rw [Nat.testBit_xor, Nat.testBit_and]; cases m.testBit a <;> cases n.testBit a <;> rfl
theorem testBit_eq {m n : Nat} (h : ∀ a, m.testBit a = n.testBit a) : m = n := Nat.eq_of_testBit_eq h
theorem bandn_nat {m n : Nat} (hm : m < 2 ^ 63) (hn : n < 2 ^ 63) : bandn .i64 (m : Int) (n : Int) = ((andn m n : Nat) : Int) := by
 unfold bandn
 have hb : IntKind.i64.bits = 64 := rfl
 rw [hb, BitVec.ofInt_natCast, BitVec.ofInt_natCast]
 have hle : (BitVec.ofNat 64 m &&& ~~~ BitVec.ofNat 64 n).toNat < 2 ^ 63 := by
  rw [BitVec.toNat_and, BitVec.toNat_ofNat]
  exact Nat.lt_of_le_of_lt (Nat.and_le_left) (by rw [Nat.mod_eq_of_lt (by omega)]; exact hm)
 rw [wrapN hle]
 congr 1
 apply testBit_eq
 intro a
 rw [andn_test, BitVec.testBit_toNat, BitVec.getLsbD_and, BitVec.getLsbD_not, BitVec.getLsbD_ofNat, BitVec.getLsbD_ofNat]
 by_cases h64 : a < 64
 ·simp [h64]
 ·have : m.testBit a = false := Nat.testBit_lt_two_pow (Nat.lt_of_lt_of_le hm (Nat.pow_le_pow_right (by omega) (by omega)))
  simp [h64, this]
theorem testBit_lt {n P a : Nat} (h : n < 2 ^ P) (ha : n.testBit a = true) : a < P := by
 rcases Nat.lt_or_ge a P with h1 | h1
 ·exact h1
 ·rw [testBit_big h h1] at ha; cases ha
theorem lt_of_bits {n P : Nat} (h : ∀ a, n.testBit a = true → a < P) : n < 2 ^ P := by
 apply Nat.lt_pow_two_of_testBit
 intro i hi
 cases hb : n.testBit i with
 | false => rfl
 | true => have := h i hb; omega
def updR (R : Nat → Nat → Nat) (x y v : Nat) : Nat → Nat → Nat := fun x' y' => if x' = x ∧ y' = y then v else R x' y'
open Classical in
structure SI (m : Sys) (f : Fam) (P : Nat) (good : Nat) (R : Nat → Nat → Nat) (Q : List (Nat × Nat)) (I : Option (Nat × Nat × Nat)) : Prop where
 gl : good < 2 ^ P
 q : ∀ p ∈ Q, p.1 < m.S.length ∧ p.2 < f.S.length
 a : ∀ p x y, (R x y).testBit p = true → p < P ∧ Rch m (prodOf f p) x y
 z : ∀ p < P, (R 0 0).testBit p = true
 g : ∀ p < P, good.testBit p = false → ¬ Sat m (prodOf f p)
 c : ∀ p, good.testBit p = true → ∀ x y, (R x y).testBit p = true → (x, y) ∈ Q ∨ (∃ H, I = some (x, y, H) ∧ H.testBit p = true) ∨ (goodP m (prodOf f p) x y ∧ ∀ i < m.S[x]!.length, (R m.S[x]![i]!.t.toNat (nxt (prodOf f p) y m.S[x]![i]!.a.toNat).toNat).testBit p = true)
theorem SI.rl {m : Sys} {f : Fam} {P good : Nat} {R : Nat → Nat → Nat} {Q : List (Nat × Nat)} {I : Option (Nat × Nat × Nat)} (h : SI m f P good R Q I) (x y : Nat) : R x y < 2 ^ P := lt_of_bits fun a ha => (h.a a x y ha).1
theorem SI.fin {m : Sys} {f : Fam} {P good : Nat} {R : Nat → Nat → Nat} (h : SI m f P good R [] none) : good = bitsN (satP m f) P := by
 apply testBit_eq
 intro p
 rw [bitsN_test]
 by_cases hp : p < P
 ·cases hg : good.testBit p with
  | true =>
    have : Sat m (prodOf f p) := by
     refine sat_of (P := fun x y => (R x y).testBit p = true) ⟨h.z p hp, fun x y hr _ i hi => ?_⟩ (fun x y hr => ?_)
     ·rcases h.c p hg x y hr with h1 | ⟨H, h1, _⟩ | h1
      ·cases h1
      ·cases h1
      ·exact h1.2 i hi
     ·rcases h.c p hg x y hr with h1 | ⟨H, h1, _⟩ | h1
      ·cases h1
      ·cases h1
      ·exact h1.1
    simp [hp, satP, this]
  | false => simp [hp, satP, h.g p hp hg]
 ·have hg : good.testBit p = false := by
   cases hg : good.testBit p with
   | false => rfl
   | true => have := testBit_lt h.gl hg; omega
  simp [hp, hg]
theorem SI.take {m : Sys} {f : Fam} {P good : Nat} {R : Nat → Nat → Nat} {Q : List (Nat × Nat)} {x y acc : Nat} (h : SI m f P good R ((x, y) :: Q) none) (hacc : ∀ p < P, acc.testBit p = true ↔ goodP m (prodOf f p) x y) :
 SI m f P (andn good (andn (R x y &&& good) acc)) R Q (some (x, y, R x y &&& good &&& acc)) := by
 have hgb : ∀ p, (andn good (andn (R x y &&& good) acc)).testBit p = (good.testBit p && !((R x y).testBit p && !acc.testBit p)) := by
  intro p; rw [andn_test, andn_test, Nat.testBit_and]
  cases good.testBit p <;> cases (R x y).testBit p <;> cases acc.testBit p <;> rfl
 refine ⟨lt_of_bits fun p hp => ?_, fun p hp => h.q p (List.mem_cons_of_mem _ hp), h.a, h.z, fun p hp hg => ?_, fun p hp x' y' hr => ?_⟩
 ·rw [hgb] at hp; exact testBit_lt h.gl (by simp at hp; exact hp.1)
 ·rw [hgb] at hg
  cases hgo : good.testBit p with
  | false => exact h.g p hp hgo
  | true =>
    rw [hgo] at hg
    simp at hg
    obtain ⟨h1, h2⟩ := hg
    intro hs
    have := (hacc p hp).2 (hs x y (h.a p x y h1).2)
    rw [h2] at this; cases this
 ·rw [hgb] at hp
  simp only [Bool.and_eq_true, Bool.not_eq_true'] at hp
  rcases h.c p hp.1 x' y' hr with h1 | ⟨H, h1, _⟩ | h1
  ·rcases List.mem_cons.1 h1 with h1 | h1
   ·simp only [Prod.mk.injEq] at h1
    obtain ⟨rfl, rfl⟩ := h1
    right; left
    refine ⟨_, rfl, ?_⟩
    rw [Nat.testBit_and, Nat.testBit_and, hr, hp.1]
    have := hp.2
    rw [hr] at this
    simpa using this
   ·exact .inl h1
  ·cases h1
  ·exact .inr (.inr h1)
theorem SI.more {m : Sys} {f : Fam} {P good : Nat} {R : Nat → Nat → Nat} {Q : List (Nat × Nat)} {x y H tx ty mo : Nat} (h : SI m f P good R Q (some (x, y, H))) (htx : tx < m.S.length) (hty : ty < f.S.length)
 (hm : ∀ p, mo.testBit p = true → p < P ∧ Rch m (prodOf f p) tx ty) : SI m f P good (updR R tx ty (R tx ty ||| mo)) (Q ++ [(tx, ty)]) (some (x, y, H)) := by
 have hu : ∀ p x' y', (updR R tx ty (R tx ty ||| mo) x' y').testBit p = true ↔ (R x' y').testBit p = true ∨ (x' = tx ∧ y' = ty ∧ mo.testBit p = true) := by
  intro p x' y'
  unfold updR
  split
  ·rename_i e; obtain ⟨rfl, rfl⟩ := e; rw [Nat.testBit_or, Bool.or_eq_true]; simp
  ·rename_i e; exact ⟨.inl, fun h => h.resolve_right (fun h => e ⟨h.1, h.2.1⟩)⟩
 refine ⟨h.gl, fun p hp => ?_, fun p x' y' hr => ?_, fun p hp => (hu p 0 0).2 (.inl (h.z p hp)), h.g, fun p hp x' y' hr => ?_⟩
 ·rw [List.mem_append, List.mem_singleton] at hp
  rcases hp with hp | rfl
  ·exact h.q p hp
  ·exact ⟨htx, hty⟩
 ·rcases (hu p x' y').1 hr with hr' | ⟨e1, e2, hr'⟩
  ·exact h.a p x' y' hr'
  ·rw [e1, e2]; exact hm p hr'
 ·rcases (hu p x' y').1 hr with hr | ⟨rfl, rfl, _⟩
  ·rcases h.c p hp x' y' hr with h1 | h1 | ⟨h1, h2⟩
   ·exact .inl (List.mem_append_left _ h1)
   ·exact .inr (.inl h1)
   ·exact .inr (.inr ⟨h1, fun i hi => (hu p _ _).2 (.inl (h2 i hi))⟩)
  ·exact .inl (List.mem_append_right _ (List.mem_singleton_self _))
theorem SI.done {m : Sys} {f : Fam} {P good : Nat} {R : Nat → Nat → Nat} {Q : List (Nat × Nat)} {x y H : Nat} (h : SI m f P good R Q (some (x, y, H))) (hg : ∀ p, H.testBit p = true → goodP m (prodOf f p) x y)
 (hd : ∀ p, H.testBit p = true → ∀ i < m.S[x]!.length, (R m.S[x]![i]!.t.toNat (nxt (prodOf f p) y m.S[x]![i]!.a.toNat).toNat).testBit p = true) : SI m f P good R Q none := by
 refine ⟨h.gl, h.q, h.a, h.z, h.g, fun p hp x' y' hr => ?_⟩
 rcases h.c p hp x' y' hr with h1 | ⟨H', h1, h2⟩ | h1
 ·exact .inl h1
 ·simp only [Option.some.injEq, Prod.mk.injEq] at h1
  obtain ⟨rfl, rfl, rfl⟩ := h1
  exact .inr (.inr ⟨hg p h2, hd p h2⟩)
 ·exact .inr (.inr h1)
end Go.Mw
/- Which products a system satisfies, as the program finds them. -/
namespace Go.Mw
set_option maxRecDepth 100000
attribute [go_sem] wp_mvt
section
variable {fr : Bool} {roots : List Nat} {b : Nat} {ss : List Nat} {σ : St} {q : AV → St → Prop}
end
end Go.Mw
/- Specifications: are they valid? -/
namespace Go.Mw
set_option maxRecDepth 100000
theorem rising_ok (l : List Int) (hl : l.length ≤ 1048576) : FnT G f_r01_Rising [.lst (l.map I)] (Bo (decide (∀ i < l.length, 0 < i → l[i-1]! < l[i]!))) := by
 refine FnP.mk' g_r01_Rising rfl rfl ?_
 simp only [go_sem, ↓reduceIte, ↓gA, ↓gB, ↓gC, ↓gD, ↓cA, ↓cB, c_r01_Rising]
 refine wp_loopQ (fun (i : Nat) σ => (1 ≤ i ∧ (i ≤ l.length ∨ i = 1)) ∧ (∀ j < i, 0 < j → l[j-1]! < l[j]!) ∧ σ = ⟨aT .undef 20 [(0, .lst (l.map I)), (3, I i)], [], []⟩) (fun i => l.length - i) ?_ 1 ?_
 ·rintro i σ ⟨⟨hi1, hi⟩, hall, rfl⟩ N Q hQ hN
  by_cases hlt : i < l.length
  ·have hsub : IntKind.i64.wrap ((i : Int) - 1) = (i : Int) - 1 := by rw [wrapI] <;> omega
   have ht1 : ((i : Int) - 1).toNat = i - 1 := by omega
   simp only [go_sem, ↓reduceIte, ↓gA, ↓gB, ↓gC, ↓gD, ↓cA, ↓cB, Int.ofNat_lt, hlt, wrap_succ hlt (by omega), hsub, ht1]
   refine ⟨by omega, by omega, fun h => ?_, fun h => ?_⟩
   ·subst hQ; simp only [go_sem, ↓reduceIte, ↓gA, ↓gB, ↓gC, ↓gD, ↓cA, ↓cB]
    rw [decide_eq_false]
    intro hp; have := hp i hlt (by omega); omega
   ·refine hN (i + 1) _ (by omega) ⟨by omega, forall_lt_succ hall (fun _ => by omega), ?_⟩
    simp only [go_sem, ↓reduceIte, ↓gA, ↓gB, ↓gC, ↓gD, ↓cA, ↓cB]
  ·subst hQ
   simp only [go_sem, ↓reduceIte, ↓gA, ↓gB, ↓gC, ↓gD, ↓cA, ↓cB, Int.ofNat_lt, hlt]
   rw [decide_eq_true]
   intro j hj h0; exact hall j (by omega) h0
 ·exact ⟨by omega, fun j hj h0 => by omega, by simp only [go_sem, ↓reduceIte, ↓gA, ↓gB, ↓gC, ↓gD, ↓cA, ↓cB]⟩
theorem set_ok (n : Nat) (hn : n ≤ 62) (s : Int) : FnT G f_r01_Set [I n, I s] (Bo (decide (0 ≤ s ∧ s < ((2 ^ n : Nat) : Int)))) := by
 refine FnP.mk' g_r01_Set rfl rfl ?_
 simp only [go_sem, ↓reduceIte, ↓gA, ↓gB, ↓gC, ↓gD, ↓cA, ↓cB, c_r01_Set, bshl_one hn]
 generalize ((2 ^ n : Nat) : Int) = most
 grind
section
variable {fr : Bool} {roots : List Nat} {b : Nat} {ss : List Nat} {σ : St} {k : AV → St → Prop}
theorem rising_r {l : List Int} (hl : l.length ≤ 1048576) : callT G f_r01_Rising [.lst (l.map I)] fr roots b ss σ k = k (Bo (decide (∀ i < l.length, 0 < i → l[i-1]! < l[i]!))) σ := (rising_ok l hl).rule
theorem set_r {n : Nat} {s : Int} (hn : n ≤ 62) : callT G f_r01_Set [I n, I s] fr roots b ss σ k = k (Bo (decide (0 ≤ s ∧ s < ((2 ^ n : Nat) : Int)))) σ := (set_ok n hn s).rule
end
open Classical in
theorem sttR_ok (x : Stt) (st n : Nat) (hn : n ≤ 8) (hA : x.A.length ≤ 1048576) (hX : x.X.length ≤ 1048576) : FnT G f_r03_state [eSt x, I st, I n] (Bo (decide (SttOk x st n))) := by
 have hno : (SttOk x st n → False) → AV.bool false = Bo (decide (SttOk x st n)) := fun h => by rw [decide_eq_false (fun hp => h hp)]
 refine FnP.mk' g_r03_state rfl rfl ?_
 simp only [go_sem, ↓reduceIte, ↓gA, ↓gB, ↓gC, ↓gD, ↓cA, ↓cB, c_r03_state, eSt, rising_r hA]
 refine ⟨fun h1 => ⟨fun h2 => hno (fun hp => h2 hp.ris), fun h2 => ?_⟩, fun h1 => hno (fun hp => by have := hp.len; simp at h1; omega)⟩
 have hXn : x.X.length = n := by simp at h1; omega
 have hris : ∀ i < x.A.length, 0 < i → x.A[i-1]! < x.A[i]! := by simpa using h2
 refine wp_loopQ (fun (i : Nat) σ => i ≤ x.X.length ∧ (∀ j < i, -1 ≤ x.X[j]! ∧ x.X[j]! < (st : Int)) ∧ σ = ⟨aT .undef 66 [(1, I st), (2, I n), (3, .ptr 0 1 [] 0 0 0), (25, .lst (x.X.map I)), (26, I x.X.length), (27, I i)],
  [⟨1, 0, .own 2 [.agg [.lst (x.A.map I), .lst (x.X.map I)]]⟩], []⟩) (fun i => x.X.length - i) ?_ 0 ?_
 ·rintro i σ ⟨hi, hall, rfl⟩ N Q hQ hN
  by_cases hlt : i < x.X.length
  ·simp only [go_sem, ↓reduceIte, ↓gA, ↓gB, ↓gC, ↓gD, ↓cA, ↓cB, wrap_succ hlt (by omega), Int.ofNat_lt, hlt]
   (repeat' (first | intro _ | refine And.intro ?_ ?_)) <;> first
     | (subst hQ; simp only [go_sem, ↓reduceIte, ↓gA, ↓gB, ↓gC, ↓gD, ↓cA, ↓cB]; exact hno (fun hp => by have := hp.x i (by omega); omega))
     | (refine hN (i + 1) _ (by omega) ⟨by omega, forall_lt_succ hall (by omega), ?_⟩; simp only [go_sem, ↓reduceIte, ↓gA, ↓gB, ↓gC, ↓gD, ↓cA, ↓cB])
  ·have hil : i = x.X.length := by omega
   subst hQ
   simp only [go_sem, ↓reduceIte, ↓gA, ↓gB, ↓gC, ↓gD, ↓cA, ↓cB, Int.ofNat_lt, hlt]
   have h28 : 2 ^ n ≤ 2 ^ 8 := Nat.pow_le_pow_right (by omega) hn
   refine wp_loopQ (fun (m : Nat) σ => m ≤ x.A.length ∧ (∀ m' < m, (0 ≤ x.A[m']! ∧ x.A[m']! < ((2 ^ n : Nat) : Int)) ∧ ∀ a < n, hasA x.A[m']! a = true → 0 ≤ x.X[a]!) ∧ σ = ⟨aT .undef 66 [(2, I n), (3, .ptr 0 1 [] 0 0 0), (40, .lst (x.A.map I)), (41, I x.A.length), (42, I m)],
    [⟨1, 0, .own 2 [.agg [.lst (x.A.map I), .lst (x.X.map I)]]⟩], []⟩) (fun m => x.A.length - m) ?_ 0 ?_
   ·rintro m σ ⟨hm, hall3, rfl⟩ N3 Q3 hQ3 hN3
    by_cases hlt3 : m < x.A.length
    ·simp only [go_sem, ↓reduceIte, ↓gA, ↓gB, ↓gC, ↓gD, ↓cA, ↓cB, wrap_succ hlt3 (by omega), Int.ofNat_lt, hlt3, set_r (show n ≤ 62 by omega)]
     refine ⟨fun h => ?_, fun h => ?_⟩
     ·subst hQ3; simp only [go_sem, ↓reduceIte, ↓gA, ↓gB, ↓gC, ↓gD, ↓cA, ↓cB]
      exact hno (fun hp => h (hp.a m hlt3))
     have hb : 0 ≤ x.A[m]! ∧ x.A[m]! < ((2 ^ n : Nat) : Int) := by simpa using h
     obtain ⟨s, hs, hs2⟩ : ∃ s : Nat, x.A[m]! = s ∧ s < 2 ^ n := ⟨x.A[m]!.toNat, by omega, by omega⟩
     simp only [go_sem, ↓reduceIte, ↓gA, ↓gB, ↓gC, ↓gD, ↓cA, ↓cB, hs, list_r (show n ≤ 1000 by omega) (show s < 2 ^ 63 by omega)]
     refine wp_loopQ (fun (j : Nat) σ => j ≤ (bitsL n s).length ∧ (∀ j' < j, 0 ≤ x.X[(bitsL n s)[j']!]!) ∧ σ = ⟨aT .undef 66 [(2, I n), (3, .ptr 0 1 [] 0 0 0), (40, .lst (x.A.map I)), (41, I x.A.length), (42, I m), (52, .lst ((bitsL n s).map nI)), (53, I (bitsL n s).length), (54, I j)],
      [⟨1, 0, .own 2 [.agg [.lst (x.A.map I), .lst (x.X.map I)]]⟩], []⟩) (fun j => (bitsL n s).length - j) ?_ 0 ?_
     ·rintro j σ ⟨hj, hall4, rfl⟩ N4 Q4 hQ4 hN4
      by_cases hlt4 : j < (bitsL n s).length
      ·have hb := @bitsL_len n s
       obtain ⟨hb1, hb2⟩ := bitsL_get hlt4
       have hbx : (bitsL n s)[j]! < x.X.length := by omega
       simp only [go_sem, ↓reduceIte, ↓gA, ↓gB, ↓gC, ↓gD, ↓cA, ↓cB, wrap_succ hlt4 (by omega), Int.ofNat_lt, hlt4, hbx]
       refine ⟨fun h => ?_, fun h => ?_⟩
       ·subst hQ4; simp only [go_sem, ↓reduceIte, ↓gA, ↓gB, ↓gC, ↓gD, ↓cA, ↓cB]
        subst hQ3; simp only [go_sem, ↓reduceIte, ↓gA, ↓gB, ↓gC, ↓gD, ↓cA, ↓cB]
        refine hno (fun hp => ?_)
        have := hp.has m hlt3 _ hb1 (by rw [hs]; exact hb2)
        omega
       ·refine hN4 (j + 1) _ (by omega) ⟨by omega, forall_lt_succ hall4 (by omega), ?_⟩
        simp only [go_sem, ↓reduceIte, ↓gA, ↓gB, ↓gC, ↓gD, ↓cA, ↓cB]
      ·have hjl : j = (bitsL n s).length := by omega
       subst hQ4
       simp only [go_sem, ↓reduceIte, ↓gA, ↓gB, ↓gC, ↓gD, ↓cA, ↓cB, Int.ofNat_lt, hlt4, wrap_succ hlt3 (show x.A.length ≤ 1000000000 by omega)]
       refine hN3 (m + 1) _ (by omega) ⟨by omega, forall_lt_succ hall3 ⟨by omega, fun a ha hbit => ?_⟩, ?_⟩
       ·obtain ⟨j', hj', e⟩ := bitsL_mem (s := s) ha (by unfold hasA at hbit; rw [hs, Int.toNat_natCast] at hbit; exact hbit)
        rw [← e]; exact hall4 j' (by omega)
       ·simp only [go_sem, ↓reduceIte, ↓gA, ↓gB, ↓gC, ↓gD, ↓cA, ↓cB]
     ·exact ⟨by omega, by simp, by simp only [go_sem, ↓reduceIte, ↓gA, ↓gB, ↓gC, ↓gD, ↓cA, ↓cB]⟩
    ·subst hQ3
     simp only [go_sem, ↓reduceIte, ↓gA, ↓gB, ↓gC, ↓gD, ↓cA, ↓cB, Int.ofNat_lt, hlt3]
     rw [decide_eq_true ⟨hXn, fun k hk => (hall3 k (by omega)).1, hris, fun k hk => hall k (by omega), fun k hk => (hall3 k (by omega)).2⟩]
   ·exact ⟨by omega, by simp, by simp only [go_sem, ↓reduceIte, ↓gA, ↓gB, ↓gC, ↓gD, ↓cA, ↓cB]⟩
 ·exact ⟨by omega, by simp, by simp only [go_sem, ↓reduceIte, ↓gA, ↓gB, ↓gC, ↓gD, ↓cA, ↓cB]⟩
open Classical in
theorem spcR_ok (s : Spc) (h : SpSz s) : FnT G f_r03_Is [eSp s] (Bo (decide (SpcOk s))) := by
 have hno : (SpcOk s → False) → AV.bool false = Bo (decide (SpcOk s)) := fun h => by rw [decide_eq_false (fun hp => h hp)]
 refine FnP.mk' g_r03_Is rfl rfl ?_
 have hS := h.s
 simp only [go_sem, ↓reduceIte, ↓gA, ↓gB, ↓gC, ↓gD, ↓cA, ↓cB, c_r03_Is, eSp, actsR_r h.a]
 refine ⟨fun h1 => ⟨fun h2 => ⟨fun h3 => ?_, fun h3 => ?_⟩, fun h2 => ?_⟩, fun h1 => ?_⟩
 all_goals first
  | exact hno (fun hp => by have := hp.s1; have := hp.s2; omega)
  | exact hno (fun hp => by have := hp.acts; simp_all)
  | skip
 have hacts : actsOk s.acts = true := by assumption
 have h8 := actsOk_len hacts
 refine wp_loopQ (fun (i : Nat) σ => i ≤ s.S.length ∧ (∀ j < i, SttOk s.S[j]! s.S.length s.acts.length) ∧ ∃ a c, σ = ⟨aT .undef 38 [(1, .ptr 0 1 [] 0 0 0), (22, .lst (s.S.map eSt)), (23, I s.S.length), (24, I i)], [⟨1, 0, .own 2 [.agg [.lst (s.acts.map .str), .lst (s.S.map eSt)]]⟩, ⟨a, c, .gone⟩], []⟩) (fun i => s.S.length - i) ?_ 0 ?_
 ·rintro i σ ⟨hi, hall, a, c, rfl⟩ N Q hQ hN
  by_cases hlt : i < s.S.length
  ·obtain ⟨hA, hX⟩ := h.x i hlt
   have hcall : ∀ {fr : Bool} {roots : List Nat} {b : Nat} {ss : List Nat} {σ : St} {k : AV → St → Prop}, callT G f_r03_state [.agg [.lst (s.S[i]!.A.map I), .lst (s.S[i]!.X.map I)], I s.S.length, I s.acts.length] fr roots b ss σ k = k (Bo (decide (SttOk s.S[i]! s.S.length s.acts.length))) σ := (sttR_ok _ _ _ h8 hA hX).rule
   simp only [go_sem, ↓reduceIte, ↓gA, ↓gB, ↓gC, ↓gD, ↓cA, ↓cB, eSt, wrap_succ hlt (by omega), Int.ofNat_lt, hlt, hcall]
   refine ⟨fun hb => ?_, fun hb => ?_⟩
   ·subst hQ; simp only [go_sem, ↓reduceIte, ↓gA, ↓gB, ↓gC, ↓gD, ↓cA, ↓cB]
    exact hno (fun hp => hb (hp.st i hlt))
   ·refine hN (i + 1) _ (by omega) ⟨by omega, forall_lt_succ hall (by simpa using hb), a + 1, 0, ?_⟩
    simp only [go_sem, ↓reduceIte, ↓gA, ↓gB, ↓gC, ↓gD, ↓cA, ↓cB]
  ·subst hQ
   simp only [go_sem, ↓reduceIte, ↓gA, ↓gB, ↓gC, ↓gD, ↓cA, ↓cB, Int.ofNat_lt, hlt]
   rw [decide_eq_true ⟨hacts, by omega, by omega, fun j hj => hall j (by omega)⟩]
 ·exact ⟨by omega, by simp, 0, 0, by simp only [go_sem, ↓reduceIte, ↓gA, ↓gB, ↓gC, ↓gD, ↓cA, ↓cB]⟩
end Go.Mw
/- Rows of -1: slices.Repeat; a specification that nothing satisfies. -/
namespace Go.Mw
set_option maxRecDepth 100000
section
variable {roots : List Nat} {b : Nat} {ss : List Nat} {σ : St} {k : AV → St → Prop}
end
end Go.Mw
/- Specifications: a copy; are they valid?, as the program asks. -/
namespace Go.Mw
set_option maxRecDepth 100000
def rowS (x : Stt) : AV := .agg [cellv .nils 1 (x.A.map I), cellv .nils 1 (x.X.map I)]
theorem frz_rowS (x : Stt) : frz (rowS x) = eSt x := by
 have h : ∀ l : List Int, (l.map I).map frz = l.map I := fun l => by rw [List.map_map]; rfl
 simp only [rowS, eSt, go_sem, h]
theorem spcCopy_ok (s : Spc) (h : SpSz s) : Fn G f_r03_Copy [eSp s] (eSp s) := by
 refine FnP.mk' g_r03_Copy rfl rfl ?_
 have ha := h.a
 have hS := h.s
 simp only [go_sem, ↓reduceIte, ↓gA, ↓gB, ↓gC, ↓gD, ↓cA, ↓cB, c_r03_Copy, eSp]
 refine ⟨by omega, ?_⟩
 refine wp_loopQ (fun (i : Nat) σ => i ≤ s.S.length ∧ ∃ a0 c0 a2 c2 z a4 c4 a5 c5 a6 c6 a7 c7 a8 c8, σ = ⟨aT .undef 31 [(2, .ptr 1 1 [] 0 0 0), (3, .ptr 3 1 [] 0 0 0), (11, .lst (s.S.map eSt)), (12, I s.S.length), (13, I i)],
  [⟨a0, c0, .own 2 [.agg [.lst (s.acts.map .str), .lst (s.S.map eSt)]]⟩, ⟨1, 0, .own 2 [.agg [.nils, .nils]]⟩, ⟨a2, c2, .gone⟩, ⟨1, z, .own 2 [.agg [cellv .nils 1 (s.acts.map .str), cellv .nils 2 ((s.S.take i).map rowS)]]⟩, ⟨a4, c4, .gone⟩, ⟨a5, c5, .gone⟩, ⟨a6, c6, .gone⟩, ⟨a7, c7, .gone⟩, ⟨a8, c8, .gone⟩], []⟩) (fun i => s.S.length - i) ?_ 0 ?_
 ·rintro i σ ⟨hi, a0, c0, a2, c2, z, a4, c4, a5, c5, a6, c6, a7, c7, a8, c8, rfl⟩ N Q hQ hN
  by_cases hlt : i < s.S.length
  ·obtain ⟨g1, g2⟩ := h.x i hlt
   simp only [go_sem, ↓reduceIte, ↓gA, ↓gB, ↓gC, ↓gD, ↓cA, ↓cB, eSt, wrap_succ hlt (by omega), Int.ofNat_lt, hlt]
   generalize hx : s.S[i]! = x at *
   refine ⟨by omega, by omega, by rw [List.length_take]; omega, hN (i + 1) _ (by omega) ⟨by omega, ?_⟩⟩
   simp only [go_sem, ↓reduceIte, ↓gA, ↓gB, ↓gC, ↓gD, ↓cA, ↓cB, take_succ_map _ hlt, hx, rowS]
   repeat apply Exists.intro
   rfl
  ·have hil : i = s.S.length := by omega
   subst hil hQ
   simp only [go_sem, ↓reduceIte, ↓gA, ↓gB, ↓gC, ↓gD, ↓cA, ↓cB, Int.ofNat_lt, hlt, List.take_length]
   have e : frz ∘ rowS = eSt := funext frz_rowS
   rw [List.map_map, e]
 ·refine ⟨by omega, ?_⟩
  simp only [go_sem, ↓reduceIte, ↓gA, ↓gB, ↓gC, ↓gD, ↓cA, ↓cB, List.take_zero]
  repeat apply Exists.intro
  rfl
theorem spcCopy_r {s : Spc} (h : SpSz s) {roots : List Nat} {b : Nat} {ss : List Nat} {σ : St} {k : AV → St → Prop} : callT G f_r03_Copy [.agg [.lst (s.acts.map .str), .lst (s.S.map eSt)]] true roots b ss σ k = k (eSp s) σ := (spcCopy_ok s h).rule
def canN (x : Stt) (i : Nat) : Nat := bitsN (fun a => decide (0 ≤ x.X[a]!)) i
theorem canN_lt {x : Stt} {i : Nat} : canN x i < 2 ^ i := bitsN_lt
theorem canN_test {x : Stt} {i a : Nat} : (canN x i).testBit a = true ↔ a < i ∧ 0 ≤ x.X[a]! := by unfold canN; rw [bitsN_test]; simp
def SpI (s : Spc) : Prop := ∀ i < s.S.length, ∀ j < s.S[i]!.A.length, s.S[i]!.A[j]! < 9223372036854775808
theorem andn_zero {m n : Nat} : andn m n = 0 ↔ ∀ a, m.testBit a = true → n.testBit a = true := by
 rw [nat_zero_bits]
 refine forall_congr' (fun a => ?_)
 rw [andn_test]
 cases m.testBit a <;> cases n.testBit a <;> simp
open Classical in
theorem spc_ok (s : Spc) (h : SpSz s) (hI : SpI s) : FnT G f_spec_Valid [eSp s] (Bo (decide (SpcOk s))) := by
 have hno : (SpcOk s → False) → AV.bool false = Bo (decide (SpcOk s)) := fun h => by rw [decide_eq_false (fun hp => h hp)]
 refine FnP.mk' g_spec_Valid rfl rfl ?_
 have hS := h.s
 simp only [go_sem, ↓reduceIte, ↓gA, ↓gB, ↓gC, ↓gD, ↓cA, ↓cB, c_spec_Valid, eSp, acts_r h.a]
 refine ⟨fun h1 => ⟨fun h2 => ⟨fun h3 => ?_, fun h3 => ?_⟩, fun h2 => ?_⟩, fun h1 => ?_⟩
 all_goals first
  | exact hno (fun hp => by have := hp.s1; have := hp.s2; omega)
  | exact hno (fun hp => by have := hp.acts; simp_all)
  | skip
 have hacts : actsOk s.acts = true := by assumption
 have h8 := actsOk_len hacts
 refine wp_loopQ (fun (i : Nat) σ => i ≤ s.S.length ∧ (∀ j < i, SttOk s.S[j]! s.S.length s.acts.length) ∧ ∃ a c, σ = ⟨aT .undef 94 [(1, .ptr 0 1 [] 0 0 0), (3, I s.S.length), (27, .lst (s.S.map eSt)), (28, I s.S.length), (29, I i)], [⟨1, 0, .own 2 [.agg [.lst (s.acts.map .str), .lst (s.S.map eSt)]]⟩, ⟨a, c, .gone⟩], []⟩) (fun i => s.S.length - i) ?_ 0 ?_
 ·rintro i σ ⟨hi, hall, a, c, rfl⟩ N Q hQ hN
  by_cases hlt : i < s.S.length
  ·obtain ⟨hA, hX⟩ := h.x i hlt
   have hII := hI i hlt
   simp only [go_sem, ↓reduceIte, ↓gA, ↓gB, ↓gC, ↓gD, ↓cA, ↓cB, eSt, wrap_succ hlt (by omega), Int.ofNat_lt, hlt]
   generalize hx : s.S[i]! = x at *
   have hnoS : (SttOk x s.S.length s.acts.length → False) → AV.bool false = Bo (decide (SpcOk s)) := fun h => hno (fun hp => h (by have := hp.st i hlt; rw [hx] at this; exact this))
   refine ⟨fun hl => ?_, fun hl => ?_⟩
   ·subst hQ; simp only [go_sem, ↓reduceIte, ↓gA, ↓gB, ↓gC, ↓gD, ↓cA, ↓cB]
    exact hnoS (fun hp => by have := hp.len; simp at hl; omega)
   have hXn : x.X.length = s.acts.length := by simp at hl; omega
   refine wp_loopQ (fun (j : Nat) σ => j ≤ x.X.length ∧ (∀ k < j, -1 ≤ x.X[k]! ∧ x.X[k]! < (s.S.length : Int)) ∧ σ = ⟨aT .undef 94 [(1, .ptr 0 1 [] 0 0 0), (3, I s.S.length), (5, .ptr 1 (a + 1) [] 0 0 0), (6, I (canN x j : Nat)), (27, .lst (s.S.map eSt)), (28, I s.S.length), (29, I i), (41, .lst (x.X.map I)), (42, I x.X.length), (43, I j)],
    [⟨1, 0, .own 2 [.agg [.lst (s.acts.map .str), .lst (s.S.map eSt)]]⟩, ⟨a + 1, 0, .own 2 [.agg [.lst (x.A.map I), .lst (x.X.map I)]]⟩], []⟩) (fun j => x.X.length - j) ?_ 0 ?_
   ·rintro j σ ⟨hj, hall2, rfl⟩ N2 Q2 hQ2 hN2
    by_cases hlt2 : j < x.X.length
    ·have hcs : canN x (j + 1) = if decide (0 ≤ x.X[j]!) then canN x j ||| 2 ^ j else canN x j := bitsN_succ
     simp only [go_sem, ↓reduceIte, ↓gA, ↓gB, ↓gC, ↓gD, ↓cA, ↓cB, wrap_succ hlt2 (by omega), Int.ofNat_lt, hlt2, bshl_one (show j ≤ 62 by omega), canN, bitsN_bor (show j ≤ 32 by omega)]
     (repeat' (first | intro _ | refine And.intro ?_ ?_)) <;> first
       | (subst hQ2; simp only [go_sem, ↓reduceIte, ↓gA, ↓gB, ↓gC, ↓gD, ↓cA, ↓cB]; subst hQ; simp only [go_sem, ↓reduceIte, ↓gA, ↓gB, ↓gC, ↓gD, ↓cA, ↓cB]
          exact hnoS (fun hp => by have := hp.x j (by omega); omega))
       | (refine hN2 (j + 1) _ (by omega) ⟨by omega, forall_lt_succ hall2 (by omega), ?_⟩
          unfold canN at hcs
          first
           | (rw [if_pos (by simpa using (by assumption : 0 ≤ x.X[j]!))] at hcs; simp only [go_sem, ↓reduceIte, ↓gA, ↓gB, ↓gC, ↓gD, ↓cA, ↓cB, canN, hcs])
           | (rw [if_neg (by simpa using (by assumption : ¬ 0 ≤ x.X[j]!))] at hcs; simp only [go_sem, ↓reduceIte, ↓gA, ↓gB, ↓gC, ↓gD, ↓cA, ↓cB, canN, hcs]))
    ·have hjl : j = x.X.length := by omega
     subst hQ2
     simp only [go_sem, ↓reduceIte, ↓gA, ↓gB, ↓gC, ↓gD, ↓cA, ↓cB, Int.ofNat_lt, hlt2]
     have hc8 : canN x j < 2 ^ 8 := Nat.lt_of_lt_of_le canN_lt (Nat.pow_le_pow_right (by omega) (by omega))
     refine wp_loopQ (fun (m : Nat) σ => m ≤ x.A.length ∧ (∀ k < m, (0 ≤ x.A[k]! ∧ (∀ a, hasA x.A[k]! a = true → (canN x j).testBit a = true)) ∧ (0 < k → x.A[k-1]! < x.A[k]!)) ∧ σ = ⟨aT .undef 94 [(1, .ptr 0 1 [] 0 0 0), (3, I s.S.length), (5, .ptr 1 (a + 1) [] 0 0 0), (6, I (canN x j : Nat)), (27, .lst (s.S.map eSt)), (28, I s.S.length), (29, I i), (63, .lst (x.A.map I)), (64, I x.A.length), (65, I m)],
      [⟨1, 0, .own 2 [.agg [.lst (s.acts.map .str), .lst (s.S.map eSt)]]⟩, ⟨a + 1, 0, .own 2 [.agg [.lst (x.A.map I), .lst (x.X.map I)]]⟩], []⟩) (fun m => x.A.length - m) ?_ 0 ?_
     ·rintro m σ ⟨hm, hall3, rfl⟩ N3 Q3 hQ3 hN3
      by_cases hlt3 : m < x.A.length
      ·have hsub : IntKind.i64.wrap ((m : Int) - 1) = (m : Int) - 1 := by rw [wrapI] <;> omega
       have ht1 : ((m : Int) - 1).toNat = m - 1 := by omega
       have hbd := hII m hlt3
       by_cases h0 : x.A[m]! < 0
       ·simp only [go_sem, ↓reduceIte, ↓gA, ↓gB, ↓gC, ↓gD, ↓cA, ↓cB, wrap_succ hlt3 (by omega), Int.ofNat_lt, hlt3, h0]
        subst hQ3; simp only [go_sem, ↓reduceIte, ↓gA, ↓gB, ↓gC, ↓gD, ↓cA, ↓cB]; subst hQ; simp only [go_sem, ↓reduceIte, ↓gA, ↓gB, ↓gC, ↓gD, ↓cA, ↓cB]
        exact hnoS (fun hp => by have := (hp.a m hlt3).1; omega)
       ·obtain ⟨t, ht⟩ : ∃ t : Nat, x.A[m]! = t := ⟨x.A[m]!.toNat, by omega⟩
        have hbits : (((andn t (canN x j) : Nat) : Int) != 0) = true ↔ ¬ ∀ a, hasA x.A[m]! a = true → (canN x j).testBit a = true := by
         rw [bne_iff_ne]
         have : ((andn t (canN x j) : Nat) : Int) = 0 ↔ andn t (canN x j) = 0 := by omega
         rw [Ne, this, andn_zero]
         simp only [hasA, ht, Int.toNat_natCast]
        simp only [go_sem, ↓reduceIte, ↓gA, ↓gB, ↓gC, ↓gD, ↓cA, ↓cB, wrap_succ hlt3 (by omega), Int.ofNat_lt, hlt3, h0, ht, bandn_nat (show t < 2 ^ 63 by omega) (show canN x j < 2 ^ 63 by omega), hsub, ht1]
        (repeat' (first | intro _ | refine And.intro ?_ ?_)) <;> first
          | omega
          | (subst hQ3; simp only [go_sem, ↓reduceIte, ↓gA, ↓gB, ↓gC, ↓gD, ↓cA, ↓cB]; subst hQ; simp only [go_sem, ↓reduceIte, ↓gA, ↓gB, ↓gC, ↓gD, ↓cA, ↓cB]
             refine hnoS (fun hp => ?_)
             first
              | (have g1 := hp.ris m hlt3 (by omega); omega)
              | (have g2 := hbits.1 (by assumption)
                 refine g2 (fun a ha => canN_test.2 ?_)
                 have g3 := hp.a m hlt3
                 have g4 : a < s.acts.length := testBit_lt (n := t) (by omega) (by simpa [hasA, ht] using ha)
                 exact ⟨by omega, hp.has m hlt3 a g4 ha⟩))
          | (refine hN3 (m + 1) _ (by omega) ⟨by omega, forall_lt_succ hall3 ⟨⟨by omega, ?_⟩, fun _ => by omega⟩, ?_⟩
             ·exact Classical.byContradiction fun hc => by have := hbits.2 hc; simp_all
             ·simp only [go_sem, ↓reduceIte, ↓gA, ↓gB, ↓gC, ↓gD, ↓cA, ↓cB])
      ·subst hQ3
       simp only [go_sem, ↓reduceIte, ↓gA, ↓gB, ↓gC, ↓gD, ↓cA, ↓cB, Int.ofNat_lt, hlt3, wrap_succ hlt (show s.S.length ≤ 1000000000 by omega)]
       have hml : m = x.A.length := by omega
       refine hN (i + 1) _ (by omega) ⟨by omega, forall_lt_succ hall ?_, a + 1, 0, ?_⟩
       ·rw [hx]
        refine ⟨hXn, fun k hk => ?_, fun k hk => (hall3 k (by omega)).2, fun k hk => hall2 k (by omega), fun k hk b hb hh => (canN_test.1 ((hall3 k (by omega)).1.2 b hh)).2⟩
        obtain ⟨g1, g2⟩ := (hall3 k (by omega)).1
        refine ⟨g1, ?_⟩
        have : x.A[k]!.toNat < 2 ^ s.acts.length := lt_of_bits fun b hb => by have := (canN_test.1 (g2 b hb)).1; omega
        omega
       ·simp only [go_sem, ↓reduceIte, ↓gA, ↓gB, ↓gC, ↓gD, ↓cA, ↓cB]
     ·exact ⟨by omega, by simp, by simp only [go_sem, ↓reduceIte, ↓gA, ↓gB, ↓gC, ↓gD, ↓cA, ↓cB]⟩
   ·exact ⟨by omega, by simp, by simp only [go_sem, ↓reduceIte, ↓gA, ↓gB, ↓gC, ↓gD, ↓cA, ↓cB, canN, bitsN]⟩
  ·subst hQ
   simp only [go_sem, ↓reduceIte, ↓gA, ↓gB, ↓gC, ↓gD, ↓cA, ↓cB, Int.ofNat_lt, hlt]
   rw [decide_eq_true ⟨hacts, by omega, by omega, fun j hj => hall j (by omega)⟩]
 ·exact ⟨by omega, by simp, 0, 0, by simp only [go_sem, ↓reduceIte, ↓gA, ↓gB, ↓gC, ↓gD, ↓cA, ↓cB]⟩
section
variable {fr : Bool} {roots : List Nat} {b : Nat} {ss : List Nat} {σ : St} {k : AV → St → Prop}
open Classical in
theorem spc_r {s : Spc} (h : SpSz s) (hI : SpI s) : callT G f_spec_Valid [.agg [.lst (s.acts.map .str), .lst (s.S.map eSt)]] fr roots b ss σ k = k (Bo (decide (SpcOk s))) σ := (spc_ok s h hI).rule
open Classical in
theorem spcR_r {s : Spc} (h : SpSz s) : callT G f_r03_Is [.agg [.lst (s.acts.map .str), .lst (s.S.map eSt)]] fr roots b ss σ k = k (Bo (decide (SpcOk s))) σ := (spcR_ok s h).rule
end
end Go.Mw
/- Trimming, plainly; what is solid, as the reference finds it. -/
namespace Go.Mw
set_option maxRecDepth 100000
end Go.Mw
/- The states that are reached, in the order in which they are found. -/
namespace Go.Mw
set_option maxRecDepth 100000
def visit (p : List Bool × List Nat) (k : Int) : List Bool × List Nat := if 0 ≤ k ∧ p.1[k.toNat]! = false then (p.1.set k.toNat true, p.2 ++ [k.toNat]) else p
structure VI (n : Nat) (p : List Bool × List Nat) : Prop where
 l : p.1.length = n
 nd : p.2.Nodup
 m : ∀ x, x ∈ p.2 ↔ x < n ∧ p.1[x]! = true
 z : p.2[0]? = some 0
theorem VI.len {n : Nat} {p : List Bool × List Nat} (h : VI n p) : p.2.length ≤ n := nodup_len h.nd (fun x hx => ((h.m x).1 hx).1)
theorem VI.pos {n : Nat} {p : List Bool × List Nat} (h : VI n p) : 0 < p.2.length := List.lt_of_some h.z
theorem VI.get {n : Nat} {p : List Bool × List Nat} (h : VI n p) {i : Nat} (hi : i < p.2.length) : p.2[i]! < n := ((h.m _).1 (getMem hi)).1
theorem VI.visit {n : Nat} {p : List Bool × List Nat} (h : VI n p) {k : Int} (hk : k < (n : Int)) : VI n (visit p k) := by
 unfold Go.Mw.visit
 by_cases hc : 0 ≤ k ∧ p.1[k.toNat]! = false
 ·rw [if_pos hc]
  have hkn : k.toNat < n := by omega
  refine ⟨by rw [List.length_set]; exact h.l, ?_, fun x => ?_, ?_⟩
  ·rw [List.nodup_append]
   refine ⟨h.nd, by simp, fun a ha b hb => ?_⟩
   rw [List.mem_singleton] at hb
   subst hb
   intro e; subst e
   have := ((h.m _).1 ha).2
   rw [hc.2] at this; cases this
  ·rw [List.mem_append, List.mem_singleton, h.m]
   simp only []
   rw [getS1 (by rw [h.l]; exact hkn)]
   by_cases e : k.toNat = x
   ·subst e; simp [hkn]
   ·rw [if_neg e]
    exact ⟨fun g => g.resolve_right (fun g => e g.symm), .inl⟩
  ·simp only []
   rw [List.getElem?_append_left h.pos]; exact h.z
 ·rw [if_neg hc]; exact h
theorem VI.all {n : Nat} : ∀ (ks : List Int) {p : List Bool × List Nat}, VI n p → (∀ k ∈ ks, k < (n : Int)) → VI n (ks.foldl Go.Mw.visit p)
 | [], p, h, _ => h
 | k :: ks, p, h, hk => VI.all ks (h.visit (hk k (List.mem_cons_self ..))) (fun j hj => hk j (List.mem_cons_of_mem _ hj))
theorem visit_pre {p : List Bool × List Nat} {k : Int} : p.2 <+: (visit p k).2 := by
 unfold visit; split
 ·exact List.prefix_append _ _
 ·exact List.prefix_refl _
theorem visits_pre : ∀ (ks : List Int) {p : List Bool × List Nat}, p.2 <+: (ks.foldl visit p).2
 | [], p => List.prefix_refl _
 | k :: ks, p => visit_pre.trans (visits_pre ks)
def bfsAt (n : Nat) (nx : Nat → List Int) : Nat → List Bool × List Nat
 | 0 => ((List.replicate n false).set 0 true, [0])
 | i + 1 => if i < (bfsAt n nx i).2.length then (nx (bfsAt n nx i).2[i]!).foldl visit (bfsAt n nx i) else bfsAt n nx i
theorem bfs_vi {n : Nat} {nx : Nat → List Int} (hn : 0 < n) (hx : ∀ x < n, ∀ k ∈ nx x, k < (n : Int)) : ∀ i, VI n (bfsAt n nx i) := by
 intro i
 induction i with
 | zero =>
   refine ⟨by simp [bfsAt], by simp [bfsAt], fun x => ?_, rfl⟩
   simp only [bfsAt, List.mem_singleton]
   rw [getS1 (by simpa using hn)]
   by_cases e : 0 = x
   ·subst e; simp [hn]
   ·rw [if_neg e]
    constructor
    ·intro h; exact absurd h.symm e
    ·rintro ⟨h1, h2⟩
     rw [getElem!_pos _ x (by simpa using h1)] at h2; simp at h2
 | succ i ih =>
   simp only [bfsAt]
   split
   ·rename_i hl; exact ih.all _ (hx _ (ih.get hl))
   ·exact ih
def orderL (n : Nat) (nx : Nat → List Int) : List Nat := (bfsAt n nx n).2
theorem elK_rep {n i : Nat} {v : AV} {q : AV → Prop} : elK (List.replicate n v) i q = (i < n ∧ q v) := by
 unfold elK
 rw [List.getElem?_replicate]
 by_cases h : i < n <;> simp [h]
attribute [go_sem] elK_rep
end Go.Mw
/- The trimmed specification, as the reference makes it. -/
namespace Go.Mw
set_option maxRecDepth 100000
theorem getAt {α : Type} [Inhabited α] {l : List α} {v : α} (h : v ∈ l) : ∃ i, i < l.length ∧ l[i]! = v := by
 obtain ⟨i, hi, e⟩ := List.mem_iff_getElem.1 h; exact ⟨i, hi, by rw [getElem!_pos l i hi]; exact e⟩
theorem bfs_closed {n : Nat} {nx : Nat → List Int} (hn : 0 < n) (hx : ∀ x < n, ∀ k ∈ nx x, k < (n : Int)) : ∀ x ∈ orderL n nx, ∀ k ∈ nx x, 0 ≤ k → k.toNat ∈ orderL n nx := by
 have vis : ∀ (ks : List Int) {p : List Bool × List Nat}, VI n p → (∀ k ∈ ks, k < (n : Int)) → ∀ k ∈ ks, 0 ≤ k → k.toNat ∈ (ks.foldl visit p).2 := by
  intro ks
  induction ks with
  | nil => intro p _ _ k hk; cases hk
  | cons j ks ih =>
    intro p hp hks k hk h0
    have hv := hp.visit (hks j (List.mem_cons_self ..))
    rcases List.mem_cons.1 hk with rfl | hk
    ·have : k.toNat ∈ (visit p k).2 := by
      have hkn := hks k (List.mem_cons_self ..)
      unfold visit
      by_cases hf : p.1[k.toNat]! = false
      ·rw [if_pos ⟨h0, hf⟩]; simp
      ·rw [if_neg (fun g => hf g.2), hp.m]
       exact ⟨by omega, by simpa using hf⟩
     exact (visits_pre ks).subset this
    ·exact ih hv (fun i hi => hks i (List.mem_cons_of_mem _ hi)) k hk h0
 have key : ∀ i, ∀ j < i, j < (bfsAt n nx i).2.length → ∀ k ∈ nx (bfsAt n nx i).2[j]!, 0 ≤ k → k.toNat ∈ (bfsAt n nx i).2 := by
  intro i
  induction i with
  | zero => intro j hj; omega
  | succ i ih =>
    intro j hj hjl k hk h0
    have hV := bfs_vi hn hx i
    simp only [bfsAt] at hjl hk ⊢
    split at hjl
    ·rename_i hil
     rw [if_pos hil] at hk ⊢
     have hpre := visits_pre (nx (bfsAt n nx i).2[i]!) (p := bfsAt n nx i)
     have hget : ∀ q < (bfsAt n nx i).2.length, ((nx (bfsAt n nx i).2[i]!).foldl visit (bfsAt n nx i)).2[q]! = (bfsAt n nx i).2[q]! := fun q hq => by
      obtain ⟨r, hr⟩ := hpre
      rw [← hr, List.getElem!_eq_getElem?_getD, List.getElem?_append_left hq, ← List.getElem!_eq_getElem?_getD]
     rcases Nat.lt_or_eq_of_le (Nat.le_of_lt_succ hj) with h1 | rfl
     ·rw [hget j (by omega)] at hk
      exact hpre.subset (ih j h1 (by omega) k hk h0)
     ·rw [hget j hil] at hk
      exact vis _ hV (hx _ (hV.get hil)) k hk h0
    ·rename_i hil
     rw [if_neg hil] at hk ⊢
     exact ih j (by omega) hjl k hk h0
 intro x hxm k hk h0
 obtain ⟨j, hj, e⟩ := getAt hxm
 unfold orderL at hj e ⊢
 have hl := (bfs_vi hn hx n).len
 exact key n j (by omega) hj k (by rw [e]; exact hk) h0
end Go.Mw
/- When a specification refines another one, plainly; trimmed ones. -/
namespace Go.Mw
set_option maxRecDepth 100000
theorem rising_len : ∀ {n : Nat} {l : List Int}, (∀ i < l.length, 0 ≤ l[i]! ∧ l[i]! < (n : Int)) → (∀ i < l.length, 0 < i → l[i-1]! < l[i]!) → l.length ≤ n := by
 intro n l h1 h2
 have key : ∀ i < l.length, (i : Int) ≤ l[i]! := by
  intro i
  induction i with
  | zero => intro hi; exact (h1 0 hi).1
  | succ i ih => intro hi; have := ih (by omega); have := h2 (i + 1) hi (by omega); simp only [Nat.add_sub_cancel] at this; omega
 rcases Nat.eq_zero_or_pos l.length with h | h
 ·omega
 ·have := key (l.length - 1) (by omega); have := (h1 (l.length - 1) (by omega)).2; omega
theorem SpcOk.alen {s : Spc} (h : SpcOk s) {x : Nat} (hx : x < s.S.length) : s.S[x]!.A.length ≤ 256 := by
 have h8 := actsOk_len h.acts
 have h28 : 2 ^ s.acts.length ≤ 2 ^ 8 := Nat.pow_le_pow_right (by omega) h8
 exact Nat.le_trans (rising_len (h.st x hx).a (h.st x hx).ris) h28
theorem SpcOk.sz {s : Spc} (h : SpcOk s) : SpSz s := by
 have h8 := actsOk_len h.acts
 have h2 := h.s2
 exact ⟨by omega, by omega, fun i hi => ⟨by have := h.alen hi; omega, by rw [(h.st i hi).len]; omega⟩⟩
theorem SpcOk.i {s : Spc} (h : SpcOk s) : SpI s := fun i hi j hj => by
 have h8 := actsOk_len h.acts
 have h28 : 2 ^ s.acts.length ≤ 2 ^ 8 := Nat.pow_le_pow_right (by omega) h8
 have := (h.st i hi).a j hj
 omega
structure TSpc (s : Spc) : Prop where
 ok : SpcOk s
 tight : ∀ x < s.S.length, ∀ a < s.S[x]!.X.length, 0 ≤ s.S[x]!.X[a]! → ∃ v ∈ s.S[x]!.A, hasA v a = true
def subP (s t : Spc) (x y : Nat) : Prop := ∀ v ∈ s.S[x]!.A, v ∈ t.S[y]!.A
structure Closed2 (s t : Spc) (P : Nat → Nat → Prop) : Prop where
 z : P 0 0
 n : ∀ x y, P x y → subP s t x y → ∀ a < s.S[x]!.X.length, 0 ≤ s.S[x]!.X[a]! → P s.S[x]!.X[a]!.toNat t.S[y]!.X[a]!.toNat
def Rch2 (s t : Spc) (x y : Nat) : Prop := ∀ P, Closed2 s t P → P x y
def Ref (s t : Spc) : Prop := ∀ x y, Rch2 s t x y → subP s t x y
theorem Rch2.closed (s t : Spc) : Closed2 s t (Rch2 s t) := ⟨fun P h => h.z, fun x y h hg a ha h0 P hP => hP.n x y (h P hP) hg a ha h0⟩
theorem ref_of {s t : Spc} {P : Nat → Nat → Prop} (h : Closed2 s t P) (hg : ∀ x y, P x y → subP s t x y) : Ref s t := fun x y hr => hg x y (hr P h)
theorem sub_nxt {s t : Spc} (hs : TSpc s) (ht : SpcOk t) (he : s.acts.length = t.acts.length) {x y : Nat} (hx : x < s.S.length) (hy : y < t.S.length) (hg : subP s t x y) {a : Nat} (ha : a < s.S[x]!.X.length) (h0 : 0 ≤ s.S[x]!.X[a]!) :
 s.S[x]!.X[a]! < (s.S.length : Int) ∧ a < t.S[y]!.X.length ∧ 0 ≤ t.S[y]!.X[a]! ∧ t.S[y]!.X[a]! < (t.S.length : Int) := by
 obtain ⟨v, hv, hb⟩ := hs.tight x hx a ha h0
 obtain ⟨j, hj, e⟩ := getAt (hg v hv)
 have h1 := (hs.ok.st x hx).len
 have h2 := (ht.st y hy).len
 refine ⟨((hs.ok.st x hx).x a (by omega)).2, by omega, (ht.st y hy).has j hj a (by omega) (by rw [e]; exact hb), ((ht.st y hy).x a (by omega)).2⟩
theorem Rch2.lt {s t : Spc} (hs : TSpc s) (ht : SpcOk t) (he : s.acts.length = t.acts.length) {x y : Nat} (h : Rch2 s t x y) : x < s.S.length ∧ y < t.S.length := by
 refine h (fun x y => x < s.S.length ∧ y < t.S.length) ⟨⟨by have := hs.ok.s1; omega, by have := ht.s1; omega⟩, ?_⟩
 rintro x y ⟨hx, hy⟩ hg a ha h0
 have := sub_nxt hs ht he hx hy hg ha h0
 omega
structure RI2 (s t : Spc) (M : List (List Bool)) (W : List (Nat × Nat)) : Prop where
 sz : MSz M s.S.length t.S.length
 z : Met M 0 0
 r : ∀ x y, Met M x y → Rch2 s t x y
 w : ∀ p ∈ W, Met M p.1 p.2
 c : ∀ x y, Met M x y → (x, y) ∈ W ∨ (subP s t x y ∧ ∀ a < s.S[x]!.X.length, 0 ≤ s.S[x]!.X[a]! → Met M s.S[x]!.X[a]!.toNat t.S[y]!.X[a]!.toNat)
theorem RI2.lt {s t : Spc} {M : List (List Bool)} {W : List (Nat × Nat)} (h : RI2 s t M W) (hs : TSpc s) (ht : SpcOk t) (he : s.acts.length = t.acts.length) {p : Nat × Nat} (hp : p ∈ W) : p.1 < s.S.length ∧ p.2 < t.S.length := (h.r _ _ (h.w p hp)).lt hs ht he
theorem RI2.meet {s t : Spc} {M : List (List Bool)} {W : List (Nat × Nat)} (h : RI2 s t M W) {x y : Nat} (hx : x < s.S.length) (hy : y < t.S.length) (hr : Rch2 s t x y) : RI2 s t (setM M x y) (W ++ [(x, y)]) := by
 have g := fun {x' y'} => @setM_get M _ _ x y h.sz hx hy x' y'
 refine ⟨setM_sz h.sz hx, g.2 (.inr h.z), fun x' y' hm => ?_, fun p hp => ?_, fun x' y' hm => ?_⟩
 ·rcases g.1 hm with ⟨rfl, rfl⟩ | hm
  ·exact hr
  ·exact h.r _ _ hm
 ·rw [List.mem_append, List.mem_singleton] at hp
  rcases hp with hp | rfl
  ·exact g.2 (.inr (h.w p hp))
  ·exact g.2 (.inl ⟨rfl, rfl⟩)
 ·rcases g.1 hm with ⟨rfl, rfl⟩ | hm
  ·exact .inl (List.mem_append_right _ (List.mem_singleton_self _))
  ·rcases h.c _ _ hm with h1 | ⟨h1, h2⟩
   ·exact .inl (List.mem_append_left _ h1)
   ·exact .inr ⟨h1, fun i hi h0 => g.2 (.inr (h2 i hi h0))⟩
theorem RI2.done {s t : Spc} {M : List (List Bool)} {p : Nat × Nat} {W : List (Nat × Nat)} (h : RI2 s t M (p :: W)) (hg : subP s t p.1 p.2) (hd : ∀ a < s.S[p.1]!.X.length, 0 ≤ s.S[p.1]!.X[a]! → Met M s.S[p.1]!.X[a]!.toNat t.S[p.2]!.X[a]!.toNat) : RI2 s t M W := by
 refine ⟨h.sz, h.z, h.r, fun q hq => h.w q (List.mem_cons_of_mem _ hq), fun x y hm => ?_⟩
 rcases h.c x y hm with h1 | h1
 ·rcases List.mem_cons.1 h1 with rfl | h1
  ·exact .inr ⟨hg, hd⟩
  ·exact .inl h1
 ·exact .inr h1
theorem RI2.fin {s t : Spc} {M : List (List Bool)} (h : RI2 s t M []) : Ref s t := by
 refine ref_of (P := Met M) ⟨h.z, fun x y hm hg a ha h0 => ?_⟩ (fun x y hm => ?_)
 ·rcases h.c x y hm with h1 | h1
  ·cases h1
  ·exact h1.2 a ha h0
 ·rcases h.c x y hm with h1 | h1
  ·cases h1
  ·exact h1.1
end Go.Mw
/- Trimming, as the program does it: plain facts. -/
namespace Go.Mw
set_option maxRecDepth 100000
theorem dies_iff {x : Stt} {st n : Nat} (h : SttOk x st n) {j : Nat} (hj : j < x.A.length) {P : Nat → Prop} : Dies x P x.A[j]! ↔ ∃ a, hasA x.A[j]! a = true ∧ P x.X[a]!.toNat := by
 constructor
 ·rintro ⟨a, _, _, h3, h4⟩; exact ⟨a, h3, h4⟩
 ·rintro ⟨a, h3, h4⟩
  have ha : a < n := testBit_lt (n := x.A[j]!.toNat) (by have := h.a j hj; omega) h3
  exact ⟨a, by rw [h.len]; exact ha, h.has j hj a ha h3, h3, h4⟩
end Go.Mw
/- Trimming, as the program does it. -/
namespace Go.Mw
set_option maxRecDepth 100000
end Go.Mw
/- Trimming, as the program does it: the end. -/
namespace Go.Mw
set_option maxRecDepth 100000
end Go.Mw
/- Small or not, for families of any size: a family that is small has small parts. -/
namespace Go.Mw
set_option maxRecDepth 100000
structure PBig (p : Plan) : Prop where
 a : p.A.length ≤ 140737488355328
 x : p.X.length ≤ 140737488355328
 y : ∀ i < p.X.length, p.X[i]!.length ≤ 140737488355328
structure FBig (f : Fam) : Prop where
 a : f.acts.length ≤ 140737488355328
 s : f.S.length ≤ 140737488355328
 p : ∀ i < f.S.length, PBig f.S[i]!
theorem FnP.flatB {f : FuncId} {xs : List AV} {P : Prop} (h : FnP G f xs fun rs h => ∃ v, packV (treeBL 0 h rs) = Bo v ∧ (v = true → P) ∧ rs.all AV.flats = true) : ∃ v, FnT G f xs (Bo v) ∧ (v = true → P) := by
 obtain ⟨F, n, rs, σ1, hf, h1, h2, h3, h4, hr, v, hR, hP, hfl⟩ := h
 exact ⟨v, ⟨F, n, rs, σ1, hf, h1, h2, h3, h4, hr, hR, hfl⟩, hP⟩
theorem bo_exB {b : Bool} {P : Prop} : (∃ v, AV.bool b = Bo v ∧ (v = true → P)) = (b = true → P) := by
 apply propext; constructor
 ·rintro ⟨v, hv, h⟩; cases hv; exact h
 ·intro h; exact ⟨b, rfl, h⟩
def Counted (f : Fam) (i : Nat) (c : Int) : Prop := (f.acts.length : Int) ≤ c ∧ (f.S.length : Int) ≤ c ∧ ∀ j < i, (f.S[j]!.A.length : Int) ≤ c ∧ (f.S[j]!.X.length : Int) ≤ c ∧ ∀ m < f.S[j]!.X.length, (f.S[j]!.X[m]!.length : Int) ≤ c
theorem Counted.mono {f : Fam} {i : Nat} {c d : Int} (h : Counted f i c) (hd : c ≤ d) : Counted f i d :=
 ⟨by have := h.1; omega, by have := h.2.1; omega, fun j hj => ⟨by have := (h.2.2 j hj).1; omega, by have := (h.2.2 j hj).2.1; omega, fun m hm => by have := (h.2.2 j hj).2.2 m hm; omega⟩⟩
theorem Counted.sz {f : Fam} {c : Int} (h : Counted f f.S.length c) (hc : c ≤ 1000) : FSz f :=
 ⟨by have := h.1; omega, by have := h.2.1; omega, fun j hj => ⟨by have := (h.2.2 j hj).1; omega, by have := (h.2.2 j hj).2.1; omega, fun m hm => by have := (h.2.2 j hj).2.2 m hm; omega⟩⟩
end Go.Mw
