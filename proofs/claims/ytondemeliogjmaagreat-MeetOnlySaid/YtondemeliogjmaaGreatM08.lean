/- Maps. -/
import Derived.Test.YtondemeliogjmaaGreatM07
set_option linter.unusedVariables false
set_option linter.unusedSimpArgs false
namespace Go.Mw
open Go.RowKit
section
variable {P:Program}{sm:List Nat}{o:Oper}{a:Act}{w0:World}{fz0:Nat→Prop}{m:Mem}{w:World}{L:Nat→Nat→Prop}{σ:St}{base:Nat}{i:Ins}{v:AV}{h':List Ob}
variable {fz:Nat→Prop}{R R':AV→Value→Prop}{w':World}
def Ahr (kk:KK)(k:AV):Prop:=∃b,C1 kk k k=some b
theorem NG {α:Type}{kk:KK}{k:AV}{es:List (AV×AV)}{f:Option Nat→Option α}{y:α}
 (h:(match findK kk k es with
   | some (some i)=>f (some i)
   | some none=>f none
   | none=>none)=some y):Ahr kk k∧∃r,findKey kk k es 0=some r∧f r=some y:=by
 unfold findK at h;by_cases hk:(C1 kk k k).isSome=true∧k.k64=true
 ·rw [if_pos hk] at h;refine ⟨Option.isSome_iff_exists.1 hk.1,?_⟩;cases hf:findKey kk k es 0 with
  | none=>simp [hf] at h
  | some r=>cases r<;>simp [hf] at h<;>exact ⟨_,rfl,h⟩
 ·simp [hk] at h
theorem Fp (em:Bool)(n:Nat){t:TypeId}{k:Nat}(h:Ld P t=some k)(c:Value):(Instr.checkKey em (n+1) t c).run P w = .ok () w:=by
 obtain ⟨_,_,hc⟩:=BR h;rcases hc with ⟨_,hu⟩|⟨_,q,hu⟩|⟨_,hu⟩<;>simp [Instr.checkKey,run_underlying hu]
theorem VB (em:Bool)(d:Nat){e:TypeId}{k:Nat}(hk:Ld P e=some k){X:Array Value}:∀(len n:Nat),n+len≤X.size →
 (forIn (m:=Sem) (List.range' n len) () fun i __s=>do
         let __do_lift ←sizeOf e;let __do_lift ←part e X (i*__do_lift)
         Instr.checkKey em (d+1) e __do_lift
         pure (ForInStep.yield ())).run P w = .ok () w:=by
 intro len;induction len with
 | zero=>intro n _;simp
 | succ len ih =>
   intro n h;rw [List.range'_succ,List.forIn_cons];have p1:=run_part1 (P:=P) (w:=w) (BR hk).2.1 (Array.getElem?_eq_getElem (show n<X.size by omega));simp only [Sem.run_bind,Ba (BR hk).1,Nat.mul_one,p1,Result.andThen,Fp em d hk,Sem.run_pure];exact ih (n+1) (by omega)
theorem T8 (em:Bool)(d:Nat){X:Array Value}:∀(fs:List Field) (n:Nat) (ks:List Nat),Ku P n fs=some ks→n+fs.length≤X.size →
 (forIn (m:=Sem) fs () fun (f:Field) __s =>
          if f.name = "_" then pure (ForInStep.yield ())
          else do
           let __do_lift ←part f.type X f.offset
           Instr.checkKey em (d+1) f.type __do_lift
           pure (ForInStep.yield ())).run P w = .ok () w:=by
 intro fs;induction fs with
 | nil=>intro n ks _ _;simp
 | cons f fs ih =>
   intro n ks hk hl;simp only [Ku] at hk;split at hk
   ·rename_i hnm;cases h1:Ld P f.type with
    | none=>simp [h1] at hk
    | some k =>
      cases h2:Ku P (n+1) fs with
      | none=>simp [h1,h2] at hk
      | some ks' =>
        simp only [List.length_cons] at hl;have p1:=run_part1 (P:=P) (w:=w) (BR h1).2.1 (Array.getElem?_eq_getElem (show n<X.size by omega));rw [List.forIn_cons,if_neg hnm.1,hnm.2];simp only [Sem.run_bind,p1,Result.andThen,Fp em d h1,Sem.run_pure];exact ih (n+1) ks' h2 (by omega)
   ·cases hk
theorem kindsF_len:∀(fs:List Field) (n:Nat) (ks:List Nat),Ku P n fs=some ks→ks.length=fs.length:=by
 intro fs;induction fs with
 | nil=>intro n ks h;simp [Ku] at h;subst h;rfl
 | cons f fs ih =>
   intro n ks h;simp only [Ku] at h;split at h
   ·split at h
    ·rename_i h1 h2;cases h;simp [ih _ _ h2]
    ·cases h
   ·cases h
theorem eqCells_len:∀(ks:List Nat) (xs ys:List AV) (b:Bool),eqCells ks xs ys=some b→xs.length=ks.length∧ys.length=ks.length:=by
 intro ks;induction ks with
 | nil=>intro xs ys b h;cases xs<;>cases ys<;>simp [eqCells] at h ⊢
 | cons k ks ih =>
   intro xs ys b h;obtain ⟨x,xs',y,ys',b1,b2,rfl,rfl,_,h2,_⟩:=eqCells_cons h;have:=ih _ _ _ h2;simp [this.1,this.2]
theorem keyT_cases {t:TypeId}{kk:KK}(h:Abr P t=some kk):(∃k,kk=(false,[k])∧Ld P t=some k)∨(∃ks,kk=(true,ks)∧UB P t=some ks):=by
 unfold Abr at h;cases hk:Ld P t with
 | some k=>simp [hk] at h;exact .inl ⟨k,h.symm,rfl⟩
 | none =>
   simp [hk] at h;obtain ⟨ks,h1,h2⟩:=h;exact .inr ⟨ks,h2.symm,h1⟩
theorem Qu {ks:List Nat}{x y:AV}{b:Bool}(h:C1 (true,ks) x y=some b):∃xs ys,x = .agg xs∧y = .agg ys∧eqCells ks xs ys=some b:=by
 cases x<;>cases y<;>simp [C1] at h;exact ⟨_,_,rfl,rfl,h⟩
theorem Lb (em:Bool){t:TypeId}{kk:KK}(h:Abr P t=some kk){k:AV}(hk:Ahr kk k){c:Value}(hc:VRel w' fz R k c):(Instr.checkKey em 10000 t c).run P w = .ok () w:=by
 obtain ⟨b,hk⟩:=hk;rcases keyT_cases h with ⟨q,rfl,hq⟩|⟨ks,rfl,hf⟩
 ·exact Fp em 9999 hq c
 ·obtain ⟨xs,ys,rfl,e3,hk⟩:=Qu hk;obtain ⟨X,rfl,hX,_⟩:=hc.inv_agg;obtain ⟨l1,_⟩:=eqCells_len _ _ _ _ hk;unfold UB at hf;split at hf
  ·rename_i fs hu;split at hf
   ·have hl:=kindsF_len _ _ _ hf;have:=T8 (P:=P) (w:=w) em 9998 (X:=X) fs.toList 0 _ hf (by rw [hX,l1,hl];omega);rw [Instr.checkKey];simp only [Sem.run_bind,run_underlying hu,Result.andThen];simp only [Array.forIn_toList] at this;have e2:(fun (f:Field) (__s:PUnit)=>if f.name ≠ "_" then (do
     let __do_lift ←part f.type X f.offset
     Instr.checkKey em 9999 f.type __do_lift
     pure (ForInStep.yield PUnit.unit):Sem (ForInStep PUnit)) else pure (ForInStep.yield PUnit.unit))=(fun (f:Field) (__s:PUnit)=>if f.name = "_" then pure (ForInStep.yield PUnit.unit) else (do
     let __do_lift ←part f.type X f.offset
     Instr.checkKey em 9999 f.type __do_lift
     pure (ForInStep.yield PUnit.unit))):=by
     funext f s;by_cases h:f.name = "_" <;> simp [h]
    rw [e2,this];rfl
   ·cases hf
  ·rename_i n e hu;cases hke:Ld P e with
   | none=>simp [hke] at hf
   | some k =>
     simp [hke] at hf;subst hf;have:=VB (P:=P) (w:=w) em 9998 hke (X:=X) n 0 (by rw [hX,l1];simp);rw [Instr.checkKey];simp only [Sem.run_bind,run_underlying hu,Result.andThen,Std.Legacy.Range.forIn_eq_forIn_range'];simp only [Std.Legacy.Range.size,Nat.sub_zero,Nat.add_sub_cancel,Nat.div_one];rw [this];rfl
  ·cases hf
theorem run_key_equal {t:TypeId}{kk:KK}(h:Abr P t=some kk){k k':AV}{b:Bool}(hk:C1 kk k k'=some b){c c':Value}(hc:VRel w' fz R k c)(hc':VRel w' fz R' k' c'):(Op.equal t c c').run P w = .ok b w:=by
 rcases keyT_cases h with ⟨q,rfl,hq⟩|⟨ks,rfl,hf⟩
 ·exact run_equalIn_kind 9999 hq hk hc hc'
 ·obtain ⟨xs,ys,rfl,rfl,hk⟩:=Qu hk;obtain ⟨X,rfl,hX,_,rX⟩:=hc.inv_agg;obtain ⟨Y,rfl,hY,_,rY⟩:=hc'.inv_agg;exact KE 9998 hf hk hX hY rX rY
def Wh (w:World)(fz:Nat→Prop)(es:List (AV×AV))(ents:List MapEntry):Prop :=
 ents.length=es.length∧∀(i:Nat) (k v:AV) (e:MapEntry),es[i]? = some (k,v)→ents[i]? = some e→VRel0 w fz k e.key∧VRel0 w fz v e.val
theorem Wh.tail {x:AV×AV}{es:List (AV×AV)}{e:MapEntry}{ents:List MapEntry}(h:Wh w' fz (x::es) (e::ents)):Wh w' fz es ents :=
 ⟨by simpa using h.1,fun i k v e' h1 h2=>h.2 (i+1) k v e' (by simpa using h1) (by simpa using h2)⟩
theorem Ly {kk:KK}{k:AV}:∀ {es:List (AV×AV)}{i:Nat}{r:Option Nat},findKey kk k es i=some r→(∀j,r=some j→i≤j∧j-i<es.length∧∃k' v,es[j-i]? = some (k',v)∧C1 kk k k'=some true):=by
 intro es;induction es with
 | nil=>intro i r h j hj;simp [findKey] at h;subst h;cases hj
 | cons x es ih =>
   intro i r h j hj;obtain ⟨k',v⟩:=x;simp only [findKey] at h;split at h
   ·rename_i he;cases h;cases hj;exact ⟨Nat.le_refl _,by simp,k',v,by simp,he⟩
   ·obtain ⟨g1,g2,k2,v2,g3,g4⟩:=ih h j hj;have e1:j-i=(j-(i+1))+1:=by omega
    refine ⟨by omega,by simp;omega,k2,v2,?_,g4⟩;rw [e1,List.getElem?_cons_succ];exact g3
   ·cases h
theorem run_findAsking {t:TypeId}{kk:KK}(h:Abr P t=some kk){k:AV}{c:Value}(hc:VRel w' fz R k c):∀(es:List (AV×AV)) (ents:List MapEntry) (i:Nat) (r:Option Nat),Wh w' fz es ents→findKey kk k es i=some r →
 (Instr.findAsking t c ents i).run P w = .ok (r.bind fun j=>(ents[j-i]?).map fun e=>(j,e.val)) w:=by
 intro es;induction es with
 | nil =>
   intro ents i r he hf;have:ents = []:=List.eq_nil_of_length_eq_zero (by simpa using he.1);subst this;simp [findKey] at hf;subst hf;simp [Instr.findAsking]
 | cons x es ih =>
   intro ents i r he hf;obtain ⟨k',v⟩:=x;cases ents with
   | nil=>have:=he.1;simp at this
   | cons e ents =>
     obtain ⟨r1,r2⟩:=he.2 0 k' v e rfl rfl;simp only [findKey] at hf;split at hf
     ·rename_i hq;cases hf;have:=run_key_equal (P:=P) (w:=w) h hq hc (.base _ _ r1:VRel w' fz R k' e.key);simp [Instr.findAsking,this]
     ·rename_i hq;have:=run_key_equal (P:=P) (w:=w) h hq hc (.base _ _ r1:VRel w' fz R k' e.key);have h2:=ih ents (i+1) r he.tail hf;simp only [Instr.findAsking,Sem.run_bind,this,Result.andThen,Bool.false_eq_true,if_false,h2];congr 1;cases r with
      | none=>rfl
      | some j =>
        obtain ⟨g1,_⟩:=Ly hf j rfl;have e1:j-i=(j-(i+1))+1:=by omega
        simp [e1]
     ·cases hf
theorem sameNow_kind {t:TypeId}{k:Nat}{d:TypeDesc}(h:Ld P t=some k)(hu:P.underlying t=some d){x y:AV}{b:Bool}(he:CP k x y=some b){c c':Value}(hc:VRel w' fz R x c)(hc':VRel w' fz R' y c') :
 Instr.sameNow d c c'=some b:=by
 obtain ⟨_,_,hk⟩:=BR h;unfold CP at he;split at he
 ·cases he;rcases hk with ⟨_,h⟩|⟨h,_⟩|⟨h,_⟩
  ·rw [hu] at h;cases h;rw [hc.inv_bool,hc'.inv_bool];rfl
  ·cases h
  ·cases h
 ·split at he
  ·rename_i hkk;cases he;subst hkk;rcases hk with ⟨h,_⟩|⟨_,q,h⟩|⟨h,_⟩
   ·cases h
   ·rw [hu] at h;cases h;rw [hc.inv_int,hc'.inv_int];simp [Instr.sameNow]
   ·cases h
  ·cases he
 ·cases he;rcases hk with ⟨h,_⟩|⟨h,_⟩|⟨_,h⟩
  ·cases h
  ·cases h
  ·rw [hu] at h;cases h;rw [hc.inv_str,hc'.inv_str];rfl
 ·cases he
theorem findNow_kind {t:TypeId}{q:Nat}{d:TypeDesc}(h:Ld P t=some q)(hu:P.underlying t=some d){k:AV}{c:Value}(hc:VRel w' fz R k c):∀(es:List (AV×AV)) (ents:List MapEntry) (i:Nat) (r:Option Nat),Wh w' fz es ents→findKey (false,[q]) k es i=some r →
 Instr.findNow d c ents i=some (r.bind fun j=>(ents[j-i]?).map fun e=>(j,e.val)):=by
 intro es;induction es with
 | nil =>
   intro ents i r he hf;have:ents = []:=List.eq_nil_of_length_eq_zero (by simpa using he.1);subst this;simp [findKey] at hf;subst hf;simp [Instr.findNow]
 | cons x es ih =>
   intro ents i r he hf;obtain ⟨k',v⟩:=x;cases ents with
   | nil=>have:=he.1;simp at this
   | cons e ents =>
     obtain ⟨r1,r2⟩:=he.2 0 k' v e rfl rfl;simp only [findKey,C1] at hf;split at hf
     ·rename_i hq;cases hf;have:=sameNow_kind (P:=P) h hu hq hc (.base _ _ r1:VRel w' fz R k' e.key);simp [Instr.findNow,this]
     ·rename_i hq;have:=sameNow_kind (P:=P) h hu hq hc (.base _ _ r1:VRel w' fz R k' e.key);have h2:=ih ents (i+1) r he.tail hf;simp only [Instr.findNow,this,h2];congr 1;cases r with
      | none=>rfl
      | some j =>
        obtain ⟨g1,_⟩:=Ly hf j rfl;have e1:j-i=(j-(i+1))+1:=by omega
        simp [e1]
     ·cases hf
theorem run_findKey {t:TypeId}{kk:KK}(h:Abr P t=some kk){k:AV}{c:Value}(hc:VRel w' fz R k c){es:List (AV×AV)}{ents:List MapEntry}{r:Option Nat}(he:Wh w' fz es ents)(hf:findKey kk k es 0=some r) :
 (Instr.findKey t c ents).run P w = .ok (r.bind fun j=>(ents[j]?).map fun e=>(j,e.val)) w:=by
 have hask:=run_findAsking (P:=P) (w:=w) h hc es ents 0 r he hf;simp only [Nat.sub_zero] at hask;rcases keyT_cases h with ⟨q,rfl,hq⟩|⟨ks,rfl,hfl⟩
 ·have hu:∃d,P.underlying t=some d:=by
   obtain ⟨_,_,hk⟩:=BR hq;rcases hk with ⟨_,h⟩|⟨_,q,h⟩|⟨_,h⟩<;>exact ⟨_,h⟩
  obtain ⟨d,hu⟩:=hu;have:=findNow_kind (P:=P) hq hu hc es ents 0 r he hf;simp only [Nat.sub_zero] at this;simp [Instr.findKey,run_underlying hu,this]
 ·have hu:∃d,P.underlying t=some d∧((∃fs,d = .struct fs)∨∃n e,d = .array n e):=by
   unfold UB at hfl;split at hfl
   ·rename_i fs hu;exact ⟨_,hu,.inl ⟨fs,rfl⟩⟩
   ·rename_i n e hu;exact ⟨_,hu,.inr ⟨n,e,rfl⟩⟩
   ·cases hfl
  obtain ⟨d,hu,hd⟩:=hu;cases ents with
  | nil =>
    have:es = []:=List.eq_nil_of_length_eq_zero (by simpa using he.1.symm);subst this;simp [findKey] at hf;subst hf;simp [Instr.findKey,run_underlying hu,Instr.findNow]
  | cons e ents =>
    have hsn:Instr.sameNow d c e.key=none:=by
     rcases hd with ⟨fs,rfl⟩|⟨n,el,rfl⟩<;>(cases c<;>rfl)
    have hfn:Instr.findNow d c (e::ents) 0=none:=by simp [Instr.findNow,hsn]
    simp only [Instr.findKey,Sem.run_bind,run_underlying hu,Result.andThen,hfn,hask]
theorem Rel.ents {h:List Ob}(hr:Rel w0 fz0 m h w){r st ss:Nat}{p:Path}{es:List (AV×AV)}(hnd:node h r st p ss=some (.ownm es)) :
 ∃(ents:Array MapEntry) (clock:Nat),w.heap[(m.blk r p).1]? = some (.map ents clock)∧Wh w m.fz es ents.toList∧(∀(i:Nat) (e:MapEntry),ents[i]? = some e→e.born<clock)∧(∀(i j:Nat) (ei ej:MapEntry),ents[i]? = some ei→ents[j]? = some ej→ei.born=ej.born→i=j):=by
 obtain ⟨ents,clock,h1,h2,h3,h4,h5⟩:=hr.nodeF hnd;refine ⟨ents,clock,h1,⟨by simpa using h2,fun i k v e hi he=>?_⟩,h4,h5⟩;obtain ⟨e',g1,g2,g3⟩:=h3 i k v hi;rw [←Array.getElem?_toList,he] at g1;cases g1;exact ⟨g2,g3⟩
theorem AjO (ht:TR w m σ.h L σ.t a.tmps)(hr:Rel w0 fz0 m σ.h w){t kt e:TypeId}{x y:Operand}{x' y':Opd}{kk:KK}{z:AV}{ok:Bool}(ho:o.op = .lookup t x y ok)
 (hu:P.underlying t=some (.map kt e)) (hk:Abr P kt=some kk) (hz:KL P e=some z) (h1:opd x=some x') (h2:opd y=some y')
 (hx:ax base (.lok kk z ok x' y') σ=some (v,h')):OpOk P o a w0 fz0 m σ.h w L v h':=by
 obtain ⟨d,zv,hi,hzv,hov⟩:=Eb hz;have hb:=ht.get (a:=a) h1;have hd:=ht.get (a:=a) h2;have main:∀(es:List (AV×AV)) (ents:Array MapEntry),Wh w m.fz es ents.toList→(match a.eval x with | .map none=>ents = #[] | .map (some r)=>∃clock,w.heap[r]? = some (.map ents clock)|_=>False) →
  (match findK kk (σ.get y') es with
  | some (some i)=>match es[i]? with
    | some (_,v)=>some (if ok then AV.tup [v,.bool true] else v,σ.h)
    | none=>none
  | some none=>some (if ok then .tup [z,.bool false] else z,σ.h)
  | none=>none)=some (v,h')→OpOk P o a w0 fz0 m σ.h w L v h':=by
  intro es ents hE hm hx;have hzr:VRel0 w m.fz z zv:=Tf hov;obtain ⟨hkey,hx⟩:=NG (f:=fun r=>match r with
   | (some i)=>match es[i]? with
     | some (_,v)=>some (if ok then AV.tup [v,.bool true] else v,σ.h)
     | none=>none
   | none=>some (if ok then .tup [z,.bool false] else z,σ.h)) hx
  have fin:∀(v0:AV) (c0:Value) (b:Bool),VRel0 w m.fz v0 c0→(∀f,findKey kk (σ.get y') es 0=some f→f.bind (fun j=>(ents.toList[j]?).map fun e=>(j,e.val))=(if b then (f.bind fun j=>some (j,c0)) else none)∧(b=false→c0=zv)∧(b=true→f.isSome=true)) →
   (findKey kk (σ.get y') es 0).isSome=true→v=(if ok then AV.tup [v0,.bool b] else v0)→h'=σ.h→OpOk P o a w0 fz0 m σ.h w L v h':=by
   intro v0 c0 b hv0 hfk hsome hv hh;subst hv;subst hh;obtain ⟨f,hf⟩:=Option.isSome_iff_exists.1 hsome;obtain ⟨g1,g2,g3⟩:=hfk f hf;have hrun:=run_findKey (P:=P) (w:=w) hk hd hE hf;rw [g1] at hrun;have hck:=fun em=>Lb (P:=P) (w:=w) em hk hkey hd;refine OpOk.quiet hr (c:=if ok then .tuple #[c0,.bool b] else c0) ?_ ?_
   ·simp only [execOp,ho,Instr.lookup];cases hax:a.eval x<;>simp only [hax] at hm;rename_i rr;have hfin:(do
     let es ←(match rr with
      | none=>pure #[]
      | some r=>do
        let .map es _ ←getObj r|stuck "Lookup: map expected"
        pure es:Sem (Array MapEntry))
     pure es:Sem (Array MapEntry)).run P w = .ok ents w:=by
     cases rr with
     | none=>simp only at hm;subst hm;simp
     | some r =>
       simp only at hm;obtain ⟨clock,hm⟩:=hm;simp [getObj,Sem.run,hm]
    cases rr with
    | none =>
      simp only at hm;subst hm;cases b
      ·have:=g2 rfl;subst this;simp only [Bool.false_eq_true,if_false] at hrun;cases ok<;>simp [run_underlying hu,hck,hrun,BA hi hzv]
      ·obtain ⟨j,hj⟩:=Option.isSome_iff_exists.1 (g3 rfl);subst hj;simp only [if_true,Option.bind_some] at hrun;cases ok<;>simp [run_underlying hu,hck,hrun]
    | some r =>
      simp only at hm;obtain ⟨clock,hm⟩:=hm;cases b
      ·have:=g2 rfl;subst this;simp only [Bool.false_eq_true,if_false] at hrun;cases ok<;>simp [run_underlying hu,hck,hrun,BA hi hzv,getObj,Sem.run,hm]
      ·obtain ⟨j,hj⟩:=Option.isSome_iff_exists.1 (g3 rfl);subst hj;simp only [if_true,Option.bind_some] at hrun;cases ok<;>simp [run_underlying hu,hck,hrun,getObj,Sem.run,hm]
   ·cases ok
    ·exact .base _ _ hv0
    ·refine .base _ _ (.tup _ _ rfl (fun j d u hd hu=>?_))
     match j with
     | 0=>simp at hd hu;subst hd;subst hu;exact hv0
     | 1=>simp at hd hu;subst hd;subst hu;exact .bool _
     | j+2=>simp at hd
  obtain ⟨r,hf,hx⟩:=hx;split at hx
  ·rename_i i;split at hx
   ·rename_i k' v' hi';simp only [Option.some.injEq,Prod.mk.injEq] at hx;have hlt:i<ents.toList.length:=by rw [hE.1];exact List.lt_of_some hi'
    have he0:=List.getElem?_eq_getElem hlt;refine fin v' _ true (hE.2 i k' v' _ hi' he0).2 (fun f hf'=>?_) (by simp [hf]) hx.1.symm hx.2.symm;rw [hf] at hf';cases hf';exact ⟨by rw [Option.bind_some,he0];rfl,(fun h=>by cases h),fun _=>rfl⟩
   ·cases hx
  ·simp only [Option.some.injEq,Prod.mk.injEq] at hx;refine fin z zv false hzr (fun f hf'=>?_) (by simp [hf]) hx.1.symm hx.2.symm;rw [hf] at hf';cases hf';exact ⟨by simp,(fun _=>rfl),fun h=>by cases h⟩
 simp only [ax] at hx;generalize hg:σ.get x'=g at hx hb;cases g<;>simp only [reduceCtorEq] at hx
 ·exact main [] #[] ⟨rfl,fun i k v e h=>by simp at h⟩ (by rw [hb.inv_nilm]) hx
 ·rename_i r st p ss;split at hx
  ·rename_i es hes;split at hes
   ·rename_i es' hnd;cases hes;obtain ⟨ents,clock,k1,k2,_⟩:=hr.ents hnd;obtain ⟨ob,g1,g2,g3,g4⟩:=hb.inv_ref rfl;exact main _ ents k2 (by rw [g4 _ hnd];exact ⟨clock,k1⟩) hx
   ·cases hes
  ·cases hx
end
end Go.Mw
namespace Go.Mw
open Go.RowKit
section
variable {P:Program}{sm:List Nat}{o:Oper}{a:Act}{w0:World}{fz0:Nat→Prop}{m:Mem}{w:World}{L:Nat→Nat→Prop}{σ:St}{base:Nat}{i:Ins}{v:AV}{h':List Ob}
variable {fz:Nat→Prop}{R R':AV→Value→Prop}{w':World}
theorem MI {v:AV}{c:Value}(h:VRel w fz R v c)(hf:v.free2=true):VRel0 w fz v c:=by
 cases h with
 | base _ _ h=>exact h
 | ref _ _ hv _=>cases v<;>simp [AV.isRef,AV.free2,AV.free1] at hv hf
 | fn f cs vs hl hr =>
   simp only [AV.free2,List.all_eq_true] at hf;exact .fn f cs vs hl (fun j d u hd hu=>Ni (hr j d u hd hu) (hf d (List.mem_of_getElem? hd)))
 | agg cs vs hl h1 hr =>
   simp only [AV.free2,List.all_eq_true] at hf;refine .agg cs vs hl h1 (fun j d u hd hu=>?_);have h2:=hf d (List.mem_of_getElem? hd);have h3:=hr j d u hd hu;split at h2
   ·rename_i f ds;exact V8 h3 (by simpa [AV.plain] using h2)
   ·exact Ni h3 h2
 | tup cs vs hl hr=>simp [AV.free2,AV.free1] at hf
theorem Pi {v:AV}{c:Value}(h:VRel w fz R v c)(hf:v.free=true):VRel0 w fz v c:=by
 cases h with
 | base _ _ h=>exact h
 | tup cs vs hl hr =>
   simp only [AV.free,List.all_eq_true] at hf;exact .tup cs vs hl (fun j d u hd hu=>MI (hr j d u hd hu) (hf d (List.mem_of_getElem? hd)))
 | ref v c hv h=>exact MI (.ref v c hv h) (by cases v<;>first|exact hf|cases hv)
 | fn f cs vs hl hr=>exact MI (.fn f cs vs hl hr) hf
 | agg cs vs hl h1 hr=>exact MI (.agg cs vs hl h1 hr) hf
theorem AgQ (a b:ByteArray):(a==b)=true↔a=b:=by
 cases a with|mk a=>cases b with|mk b =>
 show (a==b)=true↔_;simp
theorem UE {k:Nat}{x y:AV}(h:CP k x y=some true):x=y:=by
 unfold CP at h;split at h
 ·simp only [Option.some.injEq,beq_iff_eq] at h;rw [h]
 ·split at h
  ·rename_i hk;simp only [Option.some.injEq,beq_iff_eq] at h;rw [h,hk]
  ·cases h
 ·simp only [Option.some.injEq,AgQ] at h;rw [h]
 ·cases h
theorem eqCells_eq:∀ {ks:List Nat}{xs ys:List AV},eqCells ks xs ys=some true→xs=ys:=by
 intro ks;induction ks with
 | nil=>intro xs ys h;cases xs<;>cases ys<;>simp [eqCells] at h ⊢
 | cons k ks ih =>
   intro xs ys h;cases xs with
   | nil=>cases ys<;>simp [eqCells] at h
   | cons x xs =>
     cases ys with
     | nil=>simp [eqCells] at h
     | cons y ys =>
       simp only [eqCells] at h;split at h
       ·rename_i h1;rw [UE h1,ih h]
       ·split at h<;>cases h
       ·cases h
theorem keyEq_eq {kk:KK}{x y:AV}(h:C1 kk x y=some true):x=y:=by
 unfold C1 at h;split at h
 ·rw [eqCells_eq h]
 ·exact UE h
 ·cases h
theorem cell_kind {k:Nat}{x:AV}{b:Bool}(h:CP k x x=some b):(∃b,x = .bool b)∨(∃q n,x = .int q n)∨∃s,x = .str s:=by
 unfold CP at h;split at h
 ·exact .inl ⟨_,rfl⟩
 ·exact .inr (.inl ⟨_,_,rfl⟩)
 ·exact .inr (.inr ⟨_,rfl⟩)
 ·cases h
theorem cell_val {k:Nat}{x:AV}{b:Bool}(h:CP k x x=some b){c c':Value}(hc:VRel w fz R x c)(hc':VRel w' fz R' x c')(n:Nat):c=c'∧Instr.sameBits n c c=true:=by
 rcases cell_kind h with ⟨b,rfl⟩|⟨q,n,rfl⟩|⟨s,rfl⟩
 ·rw [hc.inv_bool,hc'.inv_bool];exact ⟨rfl,by cases n<;>simp [Instr.sameBits]⟩
 ·rw [hc.inv_int,hc'.inv_int];exact ⟨rfl,by simp [Instr.sameBits]⟩
 ·rw [hc.inv_str,hc'.inv_str];exact ⟨rfl,by cases n<;>simp [Instr.sameBits,AgQ]⟩
theorem AdF:∀ {ks:List Nat}{xs:List AV}{b:Bool},eqCells ks xs xs=some b→∀(j:Nat) (x:AV),xs[j]? = some x→∃k b',CP k x x=some b':=by
 intro ks;induction ks with
 | nil=>intro xs b h j x hx;cases xs<;>simp [eqCells] at h hx
 | cons k ks ih =>
   intro xs b h j x hx;cases xs with
   | nil=>simp at hx
   | cons y ys =>
     simp only [eqCells] at h;split at h
     ·rename_i h1;cases j with
      | zero=>simp at hx;subst hx;exact ⟨k,_,h1⟩
      | succ j=>exact ih h j x (by simpa using hx)
     ·rename_i h1;split at h
      ·rename_i h2;cases j with
       | zero=>simp at hx;subst hx;exact ⟨k,_,h1⟩
       | succ j=>exact ih h2 j x (by simpa using hx)
      ·cases h
     ·cases h
theorem key_val {kk:KK}{k:AV}(h:Ahr kk k){c c':Value}(hc:VRel w fz R k c)(hc':VRel w' fz R' k c'):c=c'∧Instr.sameBits 10000 c c=true:=by
 obtain ⟨b,h⟩:=h;obtain ⟨fl,ks⟩:=kk;cases fl
 rotate_left
 ·obtain ⟨xs,ys,rfl,e3,h⟩:=Qu h;cases e3;obtain ⟨X,rfl,hX,_,rX⟩:=hc.inv_agg;obtain ⟨Y,rfl,hY,_,rY⟩:=hc'.inv_agg;have key:=fun j (hj:j<xs.length)=>AdF h j xs[j] (List.getElem?_eq_getElem hj);refine ⟨?_,?_⟩
  ·congr 1;apply Array.ext (by omega);intro j h1 h2;obtain ⟨k,b',h3⟩:=key j (by omega);have hj:j<xs.length:=by omega
   exact (cell_val h3 (rX j _ _ (List.getElem?_eq_getElem hj) (Array.getElem?_eq_getElem h1)) (rY j _ _ (List.getElem?_eq_getElem hj) (Array.getElem?_eq_getElem h2)) 0).1
  ·simp only [Instr.sameBits,beq_self_eq_true,Bool.true_and,List.all_eq_true,List.mem_iff_getElem?,Prod.forall];rintro x y ⟨j,hj⟩;rw [List.getElem?_zip_eq_some] at hj;obtain ⟨h1,h2⟩:=hj;rw [h1] at h2;cases h2;have hjl:j<xs.length:=by rw [←hX];simpa using List.lt_of_some h1
   obtain ⟨k,b',h3⟩:=key j hjl;have h4:=rX j _ x (List.getElem?_eq_getElem hjl) (by rw [←Array.getElem?_toList];exact h1);exact (cell_val h3 h4 h4 9999).2
 ·match ks,h with
  | [q],h=>exact cell_val (show CP q k k=some b from h) hc hc' 10000
  | [],h=>exact absurd h (by cases k<;>simp [C1])
  | _::_::_,h=>exact absurd h (by cases k<;>simp [C1])
def setMap (w:World)(b:Nat)(ents:Array MapEntry)(clock:Nat):World:={ w with heap:=w.heap.setIfInBounds b (.map ents clock) }
theorem setMap_other (w:World)(b:Nat)(ents:Array MapEntry)(clock k:Nat)(h:k≠b):(setMap w b ents clock).heap[k]? = w.heap[k]? := by
 simp only [setMap,Array.getElem?_setIfInBounds];rw [if_neg (fun e=>h e.symm)]
theorem Mc {w:World}{b:Nat}{ob:Obj}(ents:Array MapEntry)(clock:Nat)(h:w.heap[b]? = some ob):(setMap w b ents clock).heap[b]? = some (.map ents clock):=by
 simp only [setMap,Array.getElem?_setIfInBounds];simp [(Array.getElem?_eq_some_iff.1 h).1]
theorem setMap_size (w:World)(b:Nat)(ents:Array MapEntry)(clock:Nat):(setMap w b ents clock).heap.size=w.heap.size:=by simp [setMap]
theorem setMap_same {w:World}{b:Nat}{ents:Array MapEntry}{clock:Nat}(h:w.heap[b]? = some (.map ents clock)):setMap w b ents clock=w:=by
 have:w.heap.setIfInBounds b (.map ents clock)=w.heap:=by
  apply Array.ext (by simp);intro k h1 h2;have h3:=Array.getElem?_eq_getElem h1;by_cases e:b=k
  ·subst e;simp only [Array.getElem_setIfInBounds_self];exact ((Array.getElem?_eq_some_iff.1 h).2).symm
  ·rw [Array.getElem_setIfInBounds_ne (h:=e)]
 simp only [setMap,this]
theorem BQ.keepm {r:Nat}{o:Ob}{p:Path}{es es':List (AV×AV)}{c:AV}(hu:upd o.c p (.ownm es')=some c)(hn:nav o.c p=some (.ownm es))(hl:es.length≤es'.length):BQ m m r o { o with c }:=by
 have hvo:∀cs,AV.ownm es'≠.agg cs:=by intro cs h;cases h
 refine .inr ⟨rfl,.inr ⟨rfl,fun q nd' hq hi=>?_⟩⟩;simp only at hq;by_cases hp:p <+: q
 ·obtain ⟨t,rfl⟩:=hp;rw [Cs p _ _ _ hvo hu t] at hq;cases t with
  | nil=>rw [nav_nil] at hq;cases hq;exact ⟨_,by rw [List.append_nil];exact hn,⟨es,rfl,hl⟩,rfl⟩
  | cons x t=>obtain ⟨i,j⟩:=x;simp [nav] at hq
 ·rcases nav_upd_other p _ _ _ hvo hu q nd' hp hq with ⟨es1,xs1,xs1',g1,g2,rfl,g4,g5⟩|g
  ·exact ⟨_,g2,⟨xs1,rfl,by omega⟩,rfl⟩
  ·exact ⟨nd',g,Fr _,rfl⟩
theorem KU {h hf:List Ob}(hr:Rel w0 fz0 m h w){r st ss:Nat}{p:Path}{es es':List (AV×AV)}{ents ents':Array MapEntry}{clock clock':Nat}(hnd:node h r st p ss=some (.ownm es))
 (hso:setOb h r p (.ownm es') false=some hf) (hb:w.heap[(m.blk r p).1]? = some (.map ents clock)) (hlen:es.length≤es'.length)
 (hkeep:∀(i:Nat) (e:MapEntry),ents[i]? = some e→∃e':MapEntry,ents'[i]? = some e'∧e'.born=e.born)
 (hE:Wh w m.fz es' ents'.toList) (hbn:∀(i:Nat) (e:MapEntry),ents'[i]? = some e→e.born<clock') (hin:∀(i j:Nat) (ei ej:MapEntry),ents'[i]? = some ei→ents'[j]? = some ej→ei.born=ej.born→i=j) :
 Rel w0 fz0 m hf (setMap w (m.blk r p).1 ents' clock')∧HStep m m h hf∧WKeep w (setMap w (m.blk r p).1 ents' clock')∧FKeep w (setMap w (m.blk r p).1 ents' clock') m.fz∧hf.length=h.length:=by
 obtain ⟨o,c,ho,hu,rfl⟩:=Cc hso;have hlo:=hr.lo _ _ _ (CK hnd) rfl;have hfk:FKeep w (setMap w (m.blk r p).1 ents' clock') m.fz:=by
  intro b off v hbf hc;have hne:b≠(m.blk r p).1:=fun e=>hlo.2 (e▸hbf);exact (World.cell?_of_block (a:=⟨b,off,none⟩) (setMap_other _ _ _ _ _ hne)).trans hc
 have hwk:WKeep w (setMap w (m.blk r p).1 ents' clock'):=by
  refine ⟨fun b arr ty hh=>?_,fun b en ck hh=>?_,fun b o hh ho=>?_,by rw [setMap_size];exact Nat.le_refl _⟩
  rotate_left 2
  ·have hne:b≠(m.blk r p).1:=fun e=>by subst e;rw [hb] at hh;cases hh;cases ho
   rw [setMap_other _ _ _ _ _ hne];exact hh
  ·have hne:b≠(m.blk r p).1:=fun e=>by subst e;rw [hb] at hh;cases hh
   exact ⟨arr,by rw [setMap_other _ _ _ _ _ hne];exact hh,rfl⟩
  ·by_cases e:b=(m.blk r p).1
   ·subst e;rw [hb] at hh;cases hh;exact ⟨ents',clock',Mc _ _ hb,hkeep⟩
   ·exact ⟨en,ck,by rw [setMap_other _ _ _ _ _ e];exact hh,fun i e he=>⟨e,he,rfl⟩⟩
 have hnav:nav o.c p=some (.ownm es):=by
  obtain ⟨o1,e1,e2⟩:=Ac.1 (CK hnd);rw [ho] at e1;cases e1;exact e2
 have hrl:=List.lt_of_some ho;refine ⟨hr.putMap (es':=es') (CK hnd) (hr.below.trans ⟨rfl,rfl,rfl,by rw [setMap_size];exact Nat.le_refl _,fun k hk=>setMap_other _ _ _ _ _ (by omega)⟩) (by rw [setMap_size];exact Nat.le_refl _)
  (fun k hk _=>setMap_other _ _ _ _ _ hk) hwk ?_ ?_ ?_,?_,hwk,hfk,by simp⟩
 ·refine ⟨ents',clock',Mc _ _ hb,by simpa using hE.1,fun i k v hi=>?_,hbn,hin⟩;have hlt:i<ents'.toList.length:=by rw [hE.1];exact List.lt_of_some hi
  have:=hE.2 i k v _ hi (List.getElem?_eq_getElem hlt);exact ⟨_,by rw [←Array.getElem?_toList];exact List.getElem?_eq_getElem hlt,this.1.mono hfk (fun _ h=>h),this.2.mono hfk (fun _ h=>h)⟩
 ·intro r2 o2 hne ho2 hi;rw [List.getElem?_set_ne (fun h=>hne h.symm)] at ho2;exact ⟨o2,ho2,rfl⟩
 ·exact ⟨o,_,ho,by rw [List.getElem?_set_self hrl],hu⟩
 ·intro r2 o2 ho2;by_cases e:r2=r
  ·subst e;rw [ho] at ho2;cases ho2;exact ⟨_,by rw [List.getElem?_set_self hrl];rfl,BQ.keepm hu hnav hlen⟩
  ·exact ⟨o2,by rw [List.getElem?_set_ne (fun h=>e h.symm)];exact ho2,BQ.refl _ _ _⟩
theorem Wh.set {es:List (AV×AV)}{ents:Array MapEntry}(h:Wh w fz es ents.toList){i:Nat}{k v v':AV}{c:Value}(hi:es[i]? = some (k,v))(hv:VRel0 w fz v' c) :
 Wh w fz (es.set i (k,v')) (ents.modify i fun e=>{ e with val:=c }).toList:=by
 refine ⟨by simpa using h.1,fun j k2 v2 e hj he=>?_⟩;rw [Array.getElem?_toList,Array.getElem?_modify] at he;by_cases hij:i=j
 ·subst hij;rw [List.getElem?_set_self (List.lt_of_some hi)] at hj;cases hj;rw [if_pos rfl] at he;cases hx:ents[i]? with
  | none=>simp [hx] at he
  | some e0 =>
    simp only [hx,Option.map_some,Option.some.injEq] at he;subst he;have:=h.2 i k v e0 hi (by rw [Array.getElem?_toList];exact hx);exact ⟨this.1,hv⟩
 ·rw [List.getElem?_set_ne hij] at hj;rw [if_neg hij] at he;exact h.2 j k2 v2 e hj (by rw [Array.getElem?_toList];exact he)
theorem Wh.push {es:List (AV×AV)}{ents:Array MapEntry}(h:Wh w fz es ents.toList){k v:AV}{ck c:Value}{n:Nat}(hk:VRel0 w fz k ck)(hv:VRel0 w fz v c) :
 Wh w fz (es++[(k,v)]) (ents.push { key:=ck,val:=c,born:=n }).toList:=by
 have hl:ents.size=es.length:=by simpa using h.1
 refine ⟨by simp [hl],fun j k2 v2 e hj he=>?_⟩;rw [Array.getElem?_toList,Array.getElem?_push] at he;by_cases hjl:j=es.length
 ·subst hjl;rw [List.getElem?_append_right (Nat.le_refl _)] at hj;simp at hj;obtain ⟨rfl,rfl⟩:=hj;rw [if_pos hl.symm] at he;cases he;exact ⟨hk,hv⟩
 ·rw [if_neg (by omega)] at he;have hlt:=(Array.getElem?_eq_some_iff.1 he).1;rw [List.getElem?_append_left (by omega)] at hj;exact h.2 j k2 v2 e hj (by rw [Array.getElem?_toList];exact he)
theorem E2 {ents:Array MapEntry}{i:Nat}{f:MapEntry→MapEntry}(hf:∀e,(f e).born=e.born){j:Nat}{e:MapEntry}(h:(ents.modify i f)[j]? = some e):∃e0,ents[j]? = some e0∧e.born=e0.born:=by
 rw [Array.getElem?_modify] at h;split at h
 ·cases hx:ents[j]? with
  | none=>simp [hx] at h
  | some e0=>simp [hx] at h;subst h;exact ⟨e0,rfl,hf e0⟩
 ·exact ⟨e,h,rfl⟩
theorem PB {ents:Array MapEntry}{i:Nat}{f:MapEntry→MapEntry}(hf:∀e,(f e).born=e.born){j:Nat}{e:MapEntry}(h:ents[j]? = some e):∃e',(ents.modify i f)[j]? = some e'∧e'.born=e.born:=by
 rw [Array.getElem?_modify];split
 ·exact ⟨f e,by simp [h],hf e⟩
 ·exact ⟨e,h,rfl⟩
theorem AgZ (ht:TR w m σ.h L σ.t a.tmps)(hr:Rel w0 fz0 m σ.h w){t kt e:TypeId}{x y z:Operand}{x' y' z':Opd}{kk:KK}(ho:o.op = .mapUpdate t x y z∨o.op = .insert t x y z)
 (hu:P.underlying t=some (.map kt e)) (hk:Abr P kt=some kk) (h1:opd x=some x') (h2:opd y=some y') (h3:opd z=some z')
 (hx:ax base (.mup kk x' y' z') σ=some (v,h')):OpOk P o a w0 fz0 m σ.h w L v h':=by
 have hb:=ht.get (a:=a) h1;have hd:=ht.get (a:=a) h2;have hv:=ht.get (a:=a) h3;simp only [ax] at hx;generalize hg:σ.get x'=g at hx hb;cases g<;>simp only [reduceCtorEq] at hx;rename_i r st p ss;split at hx
 ·rename_i es hnd;split at hx
  ·rename_i hfr;obtain ⟨ents,clock,k1,k2,k3,k4⟩:=hr.ents hnd;obtain ⟨ob,g1,g2,g3,g4⟩:=hb.inv_ref rfl;have eA:=g4 _ hnd;have hv0:=Pi hv hfr.1;have hk0:=Pi hd hfr.2;obtain ⟨hkey,rr,hfk,hx⟩:=NG (f:=fun q=>match q with
    | (some i)=>match es[i]? with
      | some (k',_)=>(setOb σ.h r p (.ownm (es.set i (k',σ.get z'))) false).map (AV.undef,·)
      | none=>none
    | none=>(setOb σ.h r p (.ownm (es++[(σ.get y',σ.get z')])) false).map (AV.undef,·)) hx
   have hck:=Lb (P:=P) (w:=w) false hk hkey hd;have hrun:=run_findKey (P:=P) (w:=w) hk hd k2 hfk;have fin:∀(es':List (AV×AV)) (hf:List Ob) (ents':Array MapEntry) (clock':Nat),setOb σ.h r p (.ownm es') false=some hf→es.length≤es'.length →
    (∀(i:Nat) (e:MapEntry),ents[i]? = some e→∃e':MapEntry,ents'[i]? = some e'∧e'.born=e.born)→Wh w m.fz es' ents'.toList →
    (∀(i:Nat) (e:MapEntry),ents'[i]? = some e→e.born<clock')→(∀(i j:Nat) (ei ej:MapEntry),ents'[i]? = some ei→ents'[j]? = some ej→ei.born=ej.born→i=j) →
    (Instr.mapUpdate t (a.eval x) (a.eval y) (a.eval z)).run P w = .ok () (setMap w (m.blk r p).1 ents' clock')→OpOk P o a w0 fz0 m σ.h w L .undef hf:=by
    intro es' hf ents' clock' hso q1 q2 q3 q4 q5 q6;obtain ⟨s1,s2,s3,s4,s5⟩:=KU hr hnd hso k1 q1 q2 q3 q4 q5;refine ⟨undef,_,m,.inr ⟨?_,rfl⟩,s1,s2,s3,s4,fun _ h=>h,s5,.base _ _ (.undef _)⟩;rcases ho with ho|ho<;>simp [execOp,ho,q6]
   split at hx
   ·rename_i i;split at hx
    ·rename_i k' v0 hi;cases hso:setOb σ.h r p (.ownm (es.set i (k',σ.get z'))) false with
     | none=>simp [hso] at hx
     | some hf =>
       simp only [hso,Option.map_some,Option.some.injEq,Prod.mk.injEq] at hx;obtain ⟨rfl,rfl⟩:=hx;obtain ⟨_,_,k2',v2',f1,f2⟩:=Ly hfk i rfl;simp only [Nat.sub_zero] at f1;rw [hi] at f1;cases f1;have hlt:i<ents.size:=by rw [←Array.length_toList,k2.1];exact List.lt_of_some hi
       have he0:=Array.getElem?_eq_getElem hlt;have hkr:=(k2.2 i _ _ _ hi (by rw [Array.getElem?_toList];exact he0)).1;have:=keyEq_eq f2;subst this;obtain ⟨ev,hsb⟩:=key_val hkey hd (VRel.base (R:=fun _ _=>False) _ _ hkr);have hsame:ents.modify i (fun e=>{ e with key:=a.eval y,val:=a.eval z })=ents.modify i (fun e=>{ e with val:=a.eval z }):=by
        apply Array.ext (by simp);intro j q1 q2;simp only [Array.getElem_modify];split
        ·rename_i hij;subst hij;exact congrArg (fun c=>({ key:=c,val:=a.eval z,born:=ents[i].born }:MapEntry)) ev
        ·rfl
       refine fin _ _ (ents.modify i (fun e=>{ e with val:=a.eval z })) clock hso (by simp) (fun j e he=>PB (f:=fun e=>{ e with val:=a.eval z }) (fun _=>rfl) he) (k2.set hi hv0)
        (fun j e he=>by obtain ⟨e0,h0,h1⟩:=E2 (f:=fun e=>{ e with val:=a.eval z }) (fun _=>rfl) he;rw [h1];exact k3 j e0 h0)
        (fun j1 j2 e1 e2 he1 he2 he=>by
          obtain ⟨e3,h3,h5⟩:=E2 (f:=fun e=>{ e with val:=a.eval z }) (fun _=>rfl) he1;obtain ⟨e4,h4,h6⟩:=E2 (f:=fun e=>{ e with val:=a.eval z }) (fun _=>rfl) he2;exact k4 j1 j2 e3 e4 h3 h4 (by rw [←h5,←h6,he])) ?_
       rw [←hsame];have hrun':(Instr.findKey kt (a.eval y) ents.toList).run P w = .ok (some (i,ents[i].val)) w:=by
        rw [hrun];simp only [Option.bind_some];rw [Array.getElem?_toList,he0];rfl
       simp only [Instr.mapUpdate,eA,Sem.run_bind,run_underlying hu,Result.andThen,getObj,Sem.run,k1,hck,hrun',he0,Option.map_some,Option.getD_some,Instr.keyThatStays,←ev,hsb,if_true,setObj,setMap,Sem.run_pure]
    ·cases hx
   ·cases hso:setOb σ.h r p (.ownm (es++[(σ.get y',σ.get z')])) false with
    | none=>simp [hso] at hx
    | some hf =>
      simp only [hso,Option.map_some,Option.some.injEq,Prod.mk.injEq] at hx;obtain ⟨rfl,rfl⟩:=hx;have hpush:∀(j:Nat) (e:MapEntry),(ents.push { key:=a.eval y,val:=a.eval z,born:=clock })[j]? = some e→(j=ents.size∧e.born=clock)∨(ents[j]? = some e):=by
       intro j e he;rw [Array.getElem?_push] at he;split at he
       ·rename_i h;cases he;exact .inl ⟨h,rfl⟩
       ·exact .inr he
      refine fin _ _ (ents.push { key:=a.eval y,val:=a.eval z,born:=clock }) (clock+1) hso (by simp) (fun j e he=>⟨e,by
       rw [Array.getElem?_push,if_neg (by have:=(Array.getElem?_eq_some_iff.1 he).1;omega)];exact he,rfl⟩) (k2.push hk0 hv0)
       (fun j e he=>by
         rcases hpush j e he with ⟨_,h⟩|h
         ·omega
         ·have:=k3 j e h;omega)
       (fun j1 j2 e1 e2 he1 he2 he=>by
         rcases hpush j1 e1 he1 with ⟨h3,h4⟩|h3<;>rcases hpush j2 e2 he2 with ⟨h5,h6⟩|h5
         ·omega
         ·have:=k3 j2 e2 h5;omega
         ·have:=k3 j1 e1 h3;omega
         ·exact k4 _ _ _ _ h3 h5 he) ?_
      simp only [Option.bind_none] at hrun;simp only [Instr.mapUpdate,eA,Sem.run_bind,run_underlying hu,Result.andThen,getObj,Sem.run,k1,hck,hrun,setObj,setMap,Sem.run_pure]
  ·cases hx
 ·cases hx
theorem ok_men (ht:TR w m σ.h L σ.t a.tmps)(hr:Rel w0 fz0 m σ.h w){t kt e:TypeId}{x y:Operand}{x' y':Opd}{kk:KK}{z:AV}(ho:o.op = .mapEntry t x y)
 (hu:P.underlying t=some (.map kt e)) (hk:Abr P kt=some kk) (hz:KL P e=some z) (h1:opd x=some x') (h2:opd y=some y')
 (hx:ax base (.men kk z x' y') σ=some (v,h')):OpOk P o a w0 fz0 m σ.h w L v h':=by
 obtain ⟨d,zv,hi0,hzv,hov⟩:=Eb hz;have hb:=ht.get (a:=a) h1;have hd:=ht.get (a:=a) h2;have hzr:VRel0 w m.fz z zv:=Tf hov;simp only [ax] at hx;generalize hg:σ.get x'=g at hx hb;cases g<;>simp only [reduceCtorEq] at hx;rename_i r st p ss;split at hx
 ·rename_i es hnd;split at hx
  ·rename_i hfr;obtain ⟨ents,clock,k1,k2,k3,k4⟩:=hr.ents hnd;obtain ⟨ob,g1,g2,g3,g4⟩:=hb.inv_ref rfl;have eA:=g4 _ hnd;have hk0:=Pi hd hfr.1;obtain ⟨hkey,rr,hfk,hx⟩:=NG (f:=fun q=>match q with
    | (some i)=>match es[i]? with
      | some (_,v)=>some (AV.tup [v,.ent r st p ss i],σ.h)
      | none=>none
    | none=>(setOb σ.h r p (.ownm (es++[(σ.get y',z)])) false).map (AV.tup [z,.ent r st p ss es.length],·)) hx
   have hck:=Lb (P:=P) (w:=w) false hk hkey hd;have hrun:=run_findKey (P:=P) (w:=w) hk hd k2 hfk;have htup:∀(w':World) (hf:List Ob) (v0:AV) (c0:Value) (i n:Nat),VRel0 w' m.fz v0 c0→RefR w' m hf L (.ent r st p ss i) (.int .i64 n)→VRel w' m.fz (RefR w' m hf L) (.tup [v0,.ent r st p ss i]) (.tuple #[c0,goInt n]):=by
    intro w' hf v0 c0 i n q1 q2;refine .tup _ _ rfl (fun j d u hd hu=>?_)
    match j with
    | 0=>simp at hd hu;subst hd;subst hu;exact .base _ _ q1
    | 1=>simp at hd hu;subst hd;subst hu;exact .ref _ _ rfl q2
    | j+2=>simp at hd
   split at hx
   ·rename_i i;split at hx
    ·rename_i k' v0 hi;simp only [Option.some.injEq,Prod.mk.injEq] at hx;obtain ⟨rfl,rfl⟩:=hx;obtain ⟨_,_,k2',v2',f1,f2⟩:=Ly hfk i rfl;simp only [Nat.sub_zero] at f1;rw [hi] at f1;cases f1;have hlt:i<ents.size:=by rw [←Array.length_toList,k2.1];exact List.lt_of_some hi
     have he0:=Array.getElem?_eq_getElem hlt;have hkr:=(k2.2 i _ _ _ hi (by rw [Array.getElem?_toList];exact he0));have:=keyEq_eq f2;subst this;obtain ⟨ev,hsb⟩:=key_val hkey hd (VRel.base (R:=fun _ _=>False) _ _ hkr.1);have hsame:ents.modify i (fun e=>{ e with key:=a.eval y })=ents:=by
      apply Array.ext (by simp);intro j q1 q2;simp only [Array.getElem_modify];split
      ·rename_i hij;subst hij;exact congrArg (fun c=>({ key:=c,val:=ents[i].val,born:=ents[i].born }:MapEntry)) ev
      ·rfl
     have hrun':(Instr.findKey kt (a.eval y) ents.toList).run P w = .ok (some (i,ents[i].val)) w:=by
      rw [hrun];simp only [Option.bind_some];rw [Array.getElem?_toList,he0];rfl
     refine OpOk.quiet hr (c:=.tuple #[ents[i].val,goInt ents[i].born]) ?_ (htup _ _ _ _ _ _ hkr.2 ⟨ob,g1,g2,g3,fun es2 hn2=>⟨ents,clock,ents[i],k1,he0,rfl⟩⟩);have hm:(Instr.mapEntry t (a.eval x) (a.eval y)).run P w = .ok (.tuple #[ents[i].val,goInt ents[i].born]) (setMap w (m.blk r p).1 (ents.modify i (fun e=>{ e with key:=a.eval y })) clock):=by
      simp only [Instr.mapEntry,eA,Sem.run_bind,run_underlying hu,Result.andThen,getObj,Sem.run,k1,hck,hrun',he0,Option.map_some,Option.getD_some,Instr.keyThatStays,←ev,hsb,if_true,setObj,setMap,Sem.run_pure]
     rw [hsame,setMap_same k1] at hm;simp [execOp,ho,hm]
    ·cases hx
   ·cases hso:setOb σ.h r p (.ownm (es++[(σ.get y',z)])) false with
    | none=>simp [hso] at hx
    | some hf =>
      simp only [hso,Option.map_some,Option.some.injEq,Prod.mk.injEq] at hx;obtain ⟨rfl,rfl⟩:=hx;have hpush:∀(j:Nat) (e:MapEntry),(ents.push { key:=a.eval y,val:=zv,born:=clock })[j]? = some e→(j=ents.size∧e.born=clock)∨(ents[j]? = some e):=by
       intro j e he;rw [Array.getElem?_push] at he;split at he
       ·rename_i h;cases he;exact .inl ⟨h,rfl⟩
       ·exact .inr he
      obtain ⟨s1,s2,s3,s4,s5⟩:=KU (clock':=clock+1) hr hnd hso k1 (by simp) (fun j e he=>⟨e,by
       rw [Array.getElem?_push,if_neg (by have:=(Array.getElem?_eq_some_iff.1 he).1;omega)];exact he,rfl⟩) (k2.push hk0 hzr)
       (fun j e he=>by
         rcases hpush j e he with ⟨_,h⟩|h
         ·omega
         ·have:=k3 j e h;omega)
       (fun j1 j2 e1 e2 he1 he2 he=>by
         rcases hpush j1 e1 he1 with ⟨h3,h4⟩|h3<;>rcases hpush j2 e2 he2 with ⟨h5,h6⟩|h5
         ·omega
         ·have:=k3 j2 e2 h5;omega
         ·have:=k3 j1 e1 h3;omega
         ·exact k4 _ _ _ _ h3 h5 he)
      have hl:ents.size=es.length:=by simpa using k2.1
      obtain ⟨o2,e1,e2⟩:=s2 r ob g1;obtain ⟨t1,t2⟩:=e2.le g2 g3;refine ⟨.tuple #[zv,goInt clock],_,m,.inl ?_,s1,s2,s3,s4,fun _ h=>h,s5,htup _ _ _ _ _ _ (hzr.mono s4 (fun _ h=>h)) ⟨o2,e1,t1,t2,fun es2 hn2=>⟨_,_,_,Mc _ _ k1,by rw [Array.getElem?_push,if_pos hl.symm],rfl⟩⟩⟩;simp only [Option.bind_none] at hrun;have hm:(Instr.mapEntry t (a.eval x) (a.eval y)).run P w = .ok (.tuple #[zv,goInt clock]) (setMap w (m.blk r p).1 (ents.push { key:=a.eval y,val:=zv,born:=clock }) (clock+1)):=by
       simp only [Instr.mapEntry,eA,Sem.run_bind,run_underlying hu,Result.andThen,getObj,Sem.run,k1,hck,hrun,BA hi0 hzv,setObj,setMap,Sem.run_pure]
      simp [execOp,ho,hm]
  ·cases hx
 ·cases hx
theorem ok_est (ht:TR w m σ.h L σ.t a.tmps)(hr:Rel w0 fz0 m σ.h w){t:TypeId}{x y z:Operand}{x' y' z':Opd}(ho:o.op = .entryStore t x y z)
 (h1:opd x=some x') (h2:opd y=some y') (h3:opd z=some z')
 (hx:ax base (.est x' y' z') σ=some (v,h')):OpOk P o a w0 fz0 m σ.h w L v h':=by
 have hb:=ht.get (a:=a) h1;have hd:=ht.get (a:=a) h2;have hv:=ht.get (a:=a) h3;simp only [ax] at hx;generalize hg:σ.get x'=g at hx hb;generalize hg2:σ.get y'=g2 at hx hd;split at hx
 ·rename_i r st p ss r' st' p' ss' i;split at hx
  ·rename_i hc;obtain ⟨rfl,rfl,rfl,rfl,hfr⟩:=hc;split at hx
   ·rename_i es hnd;split at hx
    ·rename_i k v0 hi;obtain ⟨ents,clock,k1,k2,k3,k4⟩:=hr.ents hnd;obtain ⟨ob,_,_,_,g4⟩:=hb.inv_ref rfl;have eA:=g4 _ hnd;obtain ⟨_,_,_,_,g5⟩:=hd.inv_ref rfl;obtain ⟨ents2,clock2,e0,q1,q2,q3⟩:=g5 _ hnd;rw [k1] at q1;cases q1;have hv0:=Pi hv hfr;cases hso:setOb σ.h r' p' (.ownm (es.set i (k,σ.get z'))) false with
     | none=>simp [hso] at hx
     | some hf =>
       simp only [hso,Option.map_some,Option.some.injEq,Prod.mk.injEq] at hx;obtain ⟨rfl,rfl⟩:=hx;obtain ⟨s1,s2,s3,s4,s5⟩:=KU (ents':=ents.modify i (fun e=>{ e with val:=a.eval z })) (clock':=clock) hr hnd hso k1 (by simp) (fun j e he=>PB (f:=fun e=>{ e with val:=a.eval z }) (fun _=>rfl) he) (k2.set hi hv0)
        (fun j e he=>by obtain ⟨e0,h0,h1⟩:=E2 (f:=fun e=>{ e with val:=a.eval z }) (fun _=>rfl) he;rw [h1];exact k3 j e0 h0)
        (fun j1 j2 e1 e2 he1 he2 he=>by
          obtain ⟨e3,h3,h5⟩:=E2 (f:=fun e=>{ e with val:=a.eval z }) (fun _=>rfl) he1;obtain ⟨e4,h4,h6⟩:=E2 (f:=fun e=>{ e with val:=a.eval z }) (fun _=>rfl) he2;exact k4 j1 j2 e3 e4 h3 h4 (by rw [←h5,←h6,he]))
       refine ⟨undef,_,m,.inr ⟨?_,rfl⟩,s1,s2,s3,s4,fun _ h=>h,s5,.base _ _ (.undef _)⟩;have hfi:ents.findIdx? (fun e=>(e.born:Int)==(e0.born:Int))=some i:=by
        obtain ⟨hil,hie⟩:=Array.getElem?_eq_some_iff.1 q2;rw [Array.findIdx?_eq_some_iff_getElem];refine ⟨hil,by rw [hie];simp,fun j hj=>?_⟩;have hjl:j<ents.size:=by omega
        simp only [beq_iff_eq,Bool.not_eq_true];intro hh;have:=k4 j i _ _ (Array.getElem?_eq_getElem hjl) q2 (by omega);omega
       have hm:(Instr.entryStore t (a.eval x) (a.eval y) (a.eval z)).run P w = .ok () (setMap w (m.blk r' p').1 (ents.modify i (fun e=>{ e with val:=a.eval z })) clock):=by
        simp only [Instr.entryStore,eA,q3,Sem.run_bind,Result.andThen,getObj,Sem.run,k1,asInt,asIntOf,Sem.run_pure,hfi,setObj,setMap]
       simp [execOp,ho,hm]
    ·cases hx
   ·cases hx
  ·cases hx
 ·cases hx
end
end Go.Mw
namespace Go.Mw
open Go.RowKit
theorem map_opd {x:Operand}{f:Opd→Ins}{i:Ins}(h:(opd x).map f=some i):∃y,opd x=some y∧i=f y:=by
 cases hx:opd x with
 | none=>simp [hx] at h
 | some y=>simp [hx] at h;exact ⟨y,rfl,h.symm⟩
theorem Afc {P:Program}{sm:List Nat}{o:Oper}{a:Act}{w0:World}{fz0:Nat→Prop}{m:Mem}{w:World}{L:Nat→Nat→Prop}{σ:St}{base:Nat}{i:Ins}{v:AV}{h':List Ob}
 (ht:TR w m σ.h L σ.t a.tmps) (hr:Rel w0 fz0 m σ.h w) (hc:BY P sm o=some i) (hx:ax base i σ=some (v,h')):OpOk P o a w0 fz0 m σ.h w L v h':=by
 have hc0:=hc;cases ho:o.op with
 | move x=>exact AgO ht hr (.inl ho) (by simpa only [BY,ho] using hc) hx
 | assign x=>exact AgO ht hr (.inr ho) (by simpa only [BY,ho] using hc) hx
 | pick c x y=>exact AhY ht hr ho hc hx
 | unOp op t x=>exact ok_un ht hr ho hc hx
 | build t ps=>exact ok_bld ht hr ho hc hx
 | alloc t =>
   simp only [BY,ho] at hc;split at hc<;>try cases hc
   rename_i h1 h2 h3;exact ok_alc ht hr ho h3 hx
 | box t x =>
   simp only [BY,ho] at hc;split at hc<;>try cases hc
   rename_i h1 h2 h3;split at hx
   ·exact AjX ht hr ho h3 hx
   ·exact ok_bxf ht hr ho h3 hx
 | buildSlice t len ps =>
   simp only [BY,ho] at hc;split at hc<;>try cases hc
   rename_i hu;split at hc<;>try cases hc
   rename_i h1 h2 h3 h4;split at hc<;>try cases hc
   rename_i h5;exact Ajj ht hr ho hu h2 h3 h4 h5.2 h5.1 hx
 | load t x =>
   simp only [BY,ho] at hc;split at hc<;>try cases hc
   rename_i h1 h2 h3;split at hc<;>try cases hc
   rename_i h5;exact ok_ld ht hr ho h1 h2 h5 h3 hx
 | store t x y =>
   simp only [BY,ho] at hc;split at hc<;>try cases hc
   rename_i h1 h2 h3;exact AjP ht hr ho h1 h2 h3 hx
 | binOp op t x y yt =>
   simp only [BY,ho] at hc;split at hc<;>try cases hc
   rename_i h1 h2;split at hc
   ·cases hc;exact Ag2 ht hr ho h1 h2 hx
   ·cases hc;exact Ag2 ht hr ho h1 h2 hx
   ·rename_i hu;cases op<;>simp only [reduceCtorEq] at hc<;>cases hc
    ·exact ok_beq (neg:=false) ht hr ho hu h1 h2 hx
    ·exact ok_beq (neg:=true) ht hr ho hu h1 h2 hx
   ·rename_i hu;cases op<;>simp only [reduceCtorEq] at hc<;>cases hc
    ·exact ok_nilc (neg:=false) ht hr ho hu h1 h2 hx
    ·exact ok_nilc (neg:=true) ht hr ho hu h1 h2 hx
   ·split at hc<;>try cases hc
    rename_i hk;split at hc<;>try cases hc
    rename_i hg;cases op<;>simp only [reduceCtorEq] at hc<;>cases hc
    ·exact ok_eqa (neg:=false) ht hr ho hk hg h1 h2 hx
    ·exact ok_eqa (neg:=true) ht hr ho hk hg h1 h2 hx
   ·split at hc<;>try cases hc
    rename_i hk;split at hc<;>try cases hc
    rename_i hg;cases op<;>simp only [reduceCtorEq] at hc<;>cases hc
    ·exact ok_eqa (neg:=false) ht hr ho hk hg h1 h2 hx
    ·exact ok_eqa (neg:=true) ht hr ho hk hg h1 h2 hx
   ·cases hc
 | convert src dst x =>
   simp only [BY,ho] at hc;split at hc<;>try cases hc
   rename_i h1 h2 h3;exact AiX ht hr ho h1 h2 h3 hx
 | makeFunc fn first caps =>
   cases fn with
   | func f =>
     simp only [BY,ho] at hc;split at hc<;>try cases hc
     rename_i h1;cases h2:opds caps.toList with
     | none=>simp [h2] at hc
     | some ys =>
       simp only [h2,Option.map_some,Option.some.injEq] at hc;subst hc;exact Aje ht hr ho h1 h2 hx
   | _=>simp only [BY,ho] at hc;cases hc
 | makeMap t r =>
   cases r with
   | none =>
     simp only [BY,ho] at hc;cases hs:Ahc sm o.dst with
     | none=>simp [hs] at hc
     | some s =>
       simp only [hs,Option.map_some,Option.some.injEq] at hc;subst hc;exact ok_mkm ht hr ho hx
   | some r=>simp only [BY,ho] at hc;cases hc
 | makeSlice t l c =>
   simp only [BY,ho] at hc;split at hc<;>try cases hc
   rename_i hu;split at hc<;>try cases hc
   rename_i h1 h2 h3 h4 h5;split at hc<;>try cases hc
   rename_i h6;exact Ajx ht hr ho hu h2 h3 h6.1 h6.2 h4 h5 hx
 | slice t x lo hi mx =>
   simp only [BY,ho] at hc;split at hc
   ·rename_i hu;split at hc<;>try cases hc
    rename_i h1 h2 h3 h4 h5;exact Aji ht hr ho hu h1 h2 h3 h4 h5 hx
   ·rename_i hu;split at hc<;>try cases hc
    rename_i h1 h2 h3;exact AjR ht hr ho hu h1 h2 h3 hx
   ·cases hc
 | nilCheck x =>
   simp only [BY,ho] at hc;cases h1:opd x with
   | none=>simp [h1] at hc
   | some x' =>
     simp only [h1,Option.map_some,Option.some.injEq] at hc;cases hc;exact ok_nil ht hr ho h1 hx
 | fieldAddr t x f =>
   simp only [BY,ho] at hc;split at hc<;>try cases hc
   rename_i hu;split at hc<;>try cases hc
   rename_i h1 h2;split at hc<;>try cases hc
   rename_i h3;exact AjT ht hr ho hu h1 h2 h3 hx
 | field t x f =>
   simp only [BY,ho] at hc;split at hc<;>try cases hc
   rename_i hu;split at hc<;>try cases hc
   rename_i h1 h2;split at hc<;>try cases hc
   rename_i h3 h4;split at hc<;>try cases hc
   exact ok_fld ht hr ho hu h1 h2 h3 h4 hx
 | indexAddr t x y =>
   simp only [BY,ho] at hc;split at hc
   ·rename_i hu;split at hc<;>try cases hc
    rename_i h1 h2 h3;exact Ajw ht hr ho hu h2 h3 h1 hx
   ·rename_i hu;split at hc<;>try cases hc
    rename_i h1 h2 h3;exact Ajy ht hr ho hu h2 h3 h1 hx
   ·cases hc
 | index t x y =>
   simp only [BY,ho] at hc;split at hc
   ·rename_i hu;split at hc<;>try cases hc
    rename_i h1 h2;exact AjY ht hr ho hu h1 h2 hx
   ·rename_i hu;split at hc<;>try cases hc
    rename_i h1 h2 h3 h4;split at hc<;>try cases hc
    exact ok_ixa ht hr ho hu h3 h4 h1 h2 hx
   ·cases hc
 | lookup t x y ok =>
   simp only [BY,ho] at hc;split at hc<;>try cases hc
   rename_i hu;split at hc<;>try cases hc
   rename_i h1 h2 h3 h4;exact AjO ht hr ho hu h1 h2 h3 h4 hx
 | mapUpdate t x y z =>
   simp only [BY,ho] at hc;split at hc<;>try cases hc
   rename_i hu;split at hc<;>try cases hc
   rename_i h1 h2 h3 h4;exact AgZ ht hr (.inl ho) hu h1 h2 h3 h4 hx
 | insert t x y z =>
   simp only [BY,ho] at hc;split at hc<;>try cases hc
   rename_i hu;split at hc<;>try cases hc
   rename_i h1 h2 h3 h4;exact AgZ ht hr (.inr ho) hu h1 h2 h3 h4 hx
 | mapEntry t x y =>
   simp only [BY,ho] at hc;split at hc<;>try cases hc
   rename_i hu;split at hc<;>try cases hc
   rename_i h1 h2 h3 h4;exact ok_men ht hr ho hu h1 h2 h3 h4 hx
 | entryStore t x y z =>
   simp only [BY,ho] at hc;split at hc<;>try cases hc
   rename_i h1 h2 h3;exact ok_est ht hr ho h1 h2 h3 hx
 | extract x k =>
   simp only [BY,ho] at hc;obtain ⟨y,h1,rfl⟩:=map_opd hc;exact Ajb ht hr ho h1 hx
 | call c =>
   obtain ⟨cal,args,ts⟩:=c;simp only [BY,ho] at hc;split at hc
   ·rename_i h1 h2 h3;split at hc
    ·rename_i hu;obtain ⟨y,h4,rfl⟩:=map_opd hc;exact Aie ht hr ho h4 h2 h3 hu hx
    ·rename_i hu;obtain ⟨y,h4,rfl⟩:=map_opd hc;exact Ahz ht hr ho h4 h2 h3 hu hx
    ·rename_i hu;obtain ⟨y,h4,rfl⟩:=map_opd hc;exact Ahe ht hr ho h4 h2 h3 hu hx
    ·cases hc
   ·rename_i h1 h2 h3;split at hc<;>try cases hc
    rename_i hu hv;split at hc<;>try cases hc
    rename_i g1 g2 g3 g4 g5;split at hc<;>try cases hc
    rename_i g6;exact Ajg ht hr ho h2 h3 hu hv g2 g3 g6.1 g6.2 g4 g5 hx
   ·rename_i h1 h2 h3;split at hc<;>try cases hc
    rename_i hu hv;split at hc<;>try cases hc
    rename_i g1 g2 g3;exact ok_cpy ht hr ho h2 h3 hu g1 g2 g3 hx
   ·rename_i h1 h2 h3;split at hc<;>try cases hc
    rename_i hu;split at hc<;>try cases hc
    rename_i g1 g2;exact ok_clr ht hr ho h2 h3 hu g1 g2 hx
   ·rename_i h1 h2;split at hc<;>try cases hc
    rename_i g1 g2;exact AgW (mx:=true) ht hr ho rfl h2 g1 g2 hx
   ·rename_i h1 h2;split at hc<;>try cases hc
    rename_i g1 g2;exact AgW (mx:=false) ht hr ho rfl h2 g1 g2 hx
   ·cases hc
 | _=>simp only [BY,ho] at hc;cases hc
end Go.Mw
