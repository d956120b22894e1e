/- Which systems satisfy a specification: the pairs that are reached, as the reference finds them. -/
import Derived.Test.YtondemeliogjmaaGreatM20
set_option linter.unusedVariables false
set_option linter.unusedSimpArgs false
namespace Go.Mw
set_option maxRecDepth 100000
def Met (M:List (List Bool))(x y:Nat):Prop:=M[x]![y]! = true
structure MSz (M:List (List Bool))(a b:Nat):Prop where
 l:M.length=a
 r:∀x<a,M[x]!.length=b
def μM (M:List (List Bool)):Nat:=(M.map outN).sum
def YA (M:List (List Bool))(x y:Nat):List (List Bool):=M.set x (M[x]!.set y true)
theorem sum_set {l:List Nat}{i v:Nat}(h:i<l.length):(l.set i v).sum+l[i]! = l.sum+v:=by
 induction l generalizing i with
 | nil=>simp at h
 | cons a l ih =>
   cases i with
   | zero=>simp;omega
   | succ i=>have:=ih (i:=i) (by simpa using h);simp at this ⊢;omega
theorem μM_set {M:List (List Bool)}{a b x y:Nat}(h:MSz M a b)(hx:x<a)(hy:y<b)(hf:M[x]![y]! = false):μM (YA M x y)+1=μM M:=by
 unfold μM YA;rw [List.map_set];have h1:=@sum_set (M.map outN) x (outN (M[x]!.set y true)) (by rw [List.length_map,h.l];exact hx);have h2:=MP (l:=M[x]!) (i:=y) (by rw [h.r x hx];exact hy) hf;have h3:(M.map outN)[x]! = outN M[x]!:=by rw [getElem!_pos _ x (by rw [List.length_map,h.l];exact hx),getElem!_pos M x (by rw [h.l];exact hx),List.getElem_map]
 omega
theorem WN {M:List (List Bool)}{a b x y:Nat}(h:MSz M a b)(hx:x<a):MSz (YA M x y) a b:=by
 refine ⟨by unfold YA;rw [List.length_set];exact h.l,fun z hz=>?_⟩;unfold YA;rw [LN (by rw [h.l];exact hx)];split
 ·rename_i e;subst e;rw [List.length_set];exact h.r x hx
 ·exact h.r z hz
theorem setM_get {M:List (List Bool)}{a b x y:Nat}(h:MSz M a b)(hx:x<a)(hy:y<b){x' y':Nat}:Met (YA M x y) x' y'↔(x'=x∧y'=y)∨Met M x' y':=by
 unfold Met YA;rw [LN (by rw [h.l];exact hx)];by_cases e:x=x'
 ·subst e;rw [if_pos rfl,LN (by rw [h.r x hx];exact hy)];by_cases e2:y=y'
  ·subst e2;simp
  ·rw [if_neg e2];exact ⟨.inr,fun h=>h.resolve_left (fun h=>e2 h.2.symm)⟩
 ·rw [if_neg e];exact ⟨.inr,fun h=>h.resolve_left (fun h=>e h.1.symm)⟩
theorem μM_le {M:List (List Bool)}{a b:Nat}(h:MSz M a b):μM M≤a*b:=by
 obtain ⟨rfl,hr⟩:=h;unfold μM;induction M with
 | nil=>simp
 | cons r M ih =>
   have h0:=hr 0 (by simp);have h1:outN r≤r.length:=List.length_filter_le _ _;have h2:=ih (fun x hx=>by have:=hr (x+1) (by simpa using hx);simpa using this);simp at h0 ⊢;rw [Nat.add_mul];omega
structure RI (m:Sys)(s:Spc)(M:List (List Bool))(W:List (Nat×Nat)):Prop where
 sz:MSz M m.S.length s.S.length
 z:Met M 0 0
 r:∀x y,Met M x y→Rch m s x y
 w:∀p∈W,Met M p.1 p.2
 c:∀x y,Met M x y→(x,y)∈W∨(goodP m s x y∧∀i<m.S[x]!.length,Met M m.S[x]![i]!.t.toNat (nxt s y m.S[x]![i]!.a.toNat).toNat)
theorem RI.lt {m:Sys}{s:Spc}{M:List (List Bool)}{W:List (Nat×Nat)}(h:RI m s M W)(hm:SysOk m)(hs:FY s)(he:m.acts.length=s.acts.length){p:Nat×Nat}(hp:p∈W):p.1<m.S.length∧p.2<s.S.length:=(h.r _ _ (h.w p hp)).lt hm hs he
theorem RI.meet {m:Sys}{s:Spc}{M:List (List Bool)}{W:List (Nat×Nat)}(h:RI m s M W){x y:Nat}(hx:x<m.S.length)(hy:y<s.S.length)(hr:Rch m s x y):RI m s (YA M x y) (W++[(x,y)]):=by
 have g:=fun {x' y'}=>@setM_get M _ _ x y h.sz hx hy x' y';refine ⟨WN h.sz hx,g.2 (.inr h.z),fun x' y' hm=>?_,fun p hp=>?_,fun x' y' hm=>?_⟩
 ·rcases g.1 hm with ⟨rfl,rfl⟩|hm
  ·exact hr
  ·exact h.r _ _ hm
 ·rw [List.mem_append,List.mem_singleton] at hp;rcases hp with hp|rfl
  ·exact g.2 (.inr (h.w p hp))
  ·exact g.2 (.inl ⟨rfl,rfl⟩)
 ·rcases g.1 hm with ⟨rfl,rfl⟩|hm
  ·exact .inl (List.mem_append_right _ (List.mem_singleton_self _))
  ·rcases h.c _ _ hm with h1|⟨h1,h2⟩
   ·exact .inl (List.mem_append_left _ h1)
   ·exact .inr ⟨h1,fun i hi=>g.2 (.inr (h2 i hi))⟩
theorem RI.done {m:Sys}{s:Spc}{M:List (List Bool)}{p:Nat×Nat}{W:List (Nat×Nat)}(h:RI m s M (p::W))(hg:goodP m s p.1 p.2)(hd:∀i<m.S[p.1]!.length,Met M m.S[p.1]![i]!.t.toNat (nxt s p.2 m.S[p.1]![i]!.a.toNat).toNat):RI m s M W:=by
 refine ⟨h.sz,h.z,h.r,fun q hq=>h.w q (List.mem_cons_of_mem _ hq),fun x y hm=>?_⟩;rcases h.c x y hm with h1|h1
 ·rcases List.mem_cons.1 h1 with rfl|h1
  ·exact .inr ⟨hg,hd⟩
  ·exact .inl h1
 ·exact .inr h1
theorem RI.fin {m:Sys}{s:Spc}{M:List (List Bool)}(h:RI m s M []):Sat m s:=by
 refine AgV (P:=Met M) ⟨h.z,fun x y hm hg i hi=>?_⟩ (fun x y hm=>?_)
 ·rcases h.c x y hm with h1|h1
  ·cases h1
  ·exact h1.2 i hi
 ·rcases h.c x y hm with h1|h1
  ·cases h1
  ·exact h1.1
theorem RI.perm {m:Sys}{s:Spc}{M:List (List Bool)}{W W':List (Nat×Nat)}(h:RI m s M W)(hp:∀q,q∈W↔q∈W'):RI m s M W' :=
 ⟨h.sz,h.z,h.r,fun q hq=>h.w q ((hp q).2 hq),fun x y hm=>(h.c x y hm).imp (hp _).1 id⟩
theorem AcR {l:List (Nat×Nat)}:(l.map eN2).map frz=l.map eN2:=by rw [List.map_map];rfl
def P1 (n i x:Nat):AV:=if x<i then .own 1 ((List.replicate n false).map Bo) else .nils
theorem AaO {n i:Nat}:P1 n i i = .nils:=by simp [P1]
theorem Ab7 {n k i:Nat}:((List.range k).map (P1 n i)).set i (.own 1 (List.replicate n (.bool false)))=(List.range k).map (P1 n (i+1)):=by
 apply List.ext_getElem?;intro j;rw [List.getElem?_set];by_cases h:i=j
 ·subst h;by_cases hl:i<k<;>simp [hl,P1]
 ·by_cases hl:j<k
  ·have e:(j<i)=(j<i+1):=propext ⟨fun _=>by omega,fun _=>by omega⟩;simp [h,hl,P1,e]
  ·simp [h,hl]
theorem Acf {n k:Nat}:(List.range k).map (P1 n k)=(List.replicate k (List.replicate n false)).map rowB:=by
 apply List.ext_getElem (by simp);intro j h1 h2;simp at h1;simp [P1,rowB,h1]
def bitsN (p:Nat→Bool):Nat→Nat
 | 0=>0
 | j+1=>if p j then bitsN p j|||2 ^ j else bitsN p j
theorem Sa {p:Nat→Bool}{j:Nat}:bitsN p (j+1)=if p j then bitsN p j|||2 ^ j else bitsN p j:=(rfl)
theorem Nq {p:Nat→Bool}{n a:Nat}:(bitsN p n).testBit a=(decide (a<n)&&p a):=by
 induction n with
 | zero=>simp [bitsN]
 | succ n ih =>
   rw [Sa];split
   ·rename_i h;rw [Nat.testBit_or,ih,Nat.testBit_two_pow];by_cases e:n=a
    ·subst e;simp [h]
    ·have h1:decide (a<n+1)=decide (a<n):=by apply decide_eq_decide.2;omega
     simp [e,h1]
   ·rename_i h;rw [ih];by_cases e:n=a
    ·subst e;simp [h]
    ·have h1:decide (a<n+1)=decide (a<n):=by apply decide_eq_decide.2;omega
     rw [h1]
theorem Yy {p:Nat→Bool}{n:Nat}:bitsN p n<2 ^ n:=by
 apply Nat.lt_pow_two_of_testBit;intro i hi;rw [Nq];simp;omega
theorem AeF {p:Nat→Bool}{n:Nat}(hn:n≤32):bitsN p n<2 ^ 63:=Nat.lt_of_lt_of_le Yy (Nat.pow_le_pow_right (by omega) (by omega))
theorem Ab0 {p:Nat→Bool}{n:Nat}(hn:n≤32):bor .i64 (bitsN p n:Int) ((2 ^ n:Nat):Int)=((bitsN p n|||2 ^ n:Nat):Int):=L5 (AeF hn) (Nat.pow_lt_pow_right (by omega) (by omega))
theorem Wx {l:List Int}(h:l.Pairwise (· < ·)){i:Nat}(hi:i<l.length)(h0:0<i):l[i-1]! < l[i]!:=by
 rw [getElem!_pos l (i-1) (by omega),getElem!_pos l i hi];exact (List.pairwise_iff_getElem.1 h) (i-1) i (by omega) hi (by omega)
theorem AJ {α:Type}[Inhabited α]{l:List α}{i:Nat}(h:i<l.length):l[i]!∈l:=by rw [getElem!_pos l i h];exact List.getElem_mem h
theorem PlanOk.disj {x:Plan}{n st pr:Nat}(h:PlanOk x n st pr)(hpr:pr≤32){a:Nat}(ha:a<x.X.length):x.X[a]!.Pairwise Aip:=by
 obtain ⟨h1,h2⟩:=h.nxt a ha;exact (AeI (Wk hpr h1).m).1 h2
theorem SpcK.b {m:Nat}{s:Spc}(h:SpcK m s)(hz:SpSz s):SpB s:=by
 have h8:=Ax h.acts;refine ⟨hz.s,fun i hi=>⟨fun j hj=>?_,fun j hj=>?_,(hz.x i hi).1,(hz.x i hi).2⟩⟩
 ·have:=(h.st i hi).a j hj;have h28:2 ^ s.acts.length≤2 ^ 8:=Nat.pow_le_pow_right (by omega) h8;omega
 ·exact ((h.st i hi).x j (by rw [←(h.st i hi).len];exact hj)).2
theorem SpcK.x8 {m:Nat}{s:Spc}(h:SpcK m s):∀i<s.S.length,s.S[i]!.X.length≤8:=fun i hi=>by
 rw [(h.st i hi).len];exact Ax h.acts
open Classical in
noncomputable def Akd (m:Sys)(f:Fam)(p:Nat):Bool:=decide (Sat m (prodOf f p))
abbrev KV:=(Int×Int)×AV
def eKV (e:KV):AV×AV:=(.agg [I e.1.1,I e.1.2],e.2)
def FF (l:List KV):List (AV×AV):=l.map eKV
def Aem (l:List KV)(k:Int×Int):Bool:=l.any fun e=>e.1==k
def idxM (l:List KV)(k:Int×Int):Nat:=(l.findIdx? fun e=>e.1==k).getD l.length
def Z7 (l:List KV)(k:Int×Int)(z:AV):AV:=match l.find? fun e=>e.1==k with|some e=>e.2|none=>z
def ensM (l:List KV)(k:Int×Int)(z:AV):List KV:=if Aem l k then l else l++[(k,z)]
def X5:List KV→Nat→AV→List KV
 | [],_,_=>[]
 | e::l,0,v=>(e.1,v)::l
 | e::l,i+1,v=>e::X5 l i v
def putM (l:List KV)(k:Int×Int)(v:AV):List KV:=X5 (ensM l k v) (idxM l k) v
theorem findK_E {l:List KV}{a b:Int}:findK (true,[1,1]) (.agg [I a,I b]) (FF l)=some (l.findIdx? fun e=>e.1==(a,b)):=by
 have hk:(C1 (true,[1,1]) (.agg [I a,I b]) (.agg [I a,I b])).isSome=true∧(AV.agg [I a,I b]).k64=true:=by
  simp [C1,eqCells,CP,AV.k64,AV.c64]
 have key:∀(l:List KV) (n:Nat),findKey (true,[1,1]) (.agg [I a,I b]) (FF l) n=some ((l.findIdx? fun e=>e.1==(a,b)).map (· + n)):=by
  intro l;induction l with
  | nil=>intro n;rfl
  | cons e l ih =>
    intro n;obtain ⟨⟨c,d⟩,v⟩:=e;simp only [FF,List.map_cons,eKV,findKey];have he:C1 (true,[1,1]) (.agg [I a,I b]) (.agg [I c,I d])=some ((c,d)==(a,b)):=by
     simp only [C1,eqCells,CP,if_true];have e1:(a==c)=(c==a):=Bool.beq_comm;have e2:(b==d)=(d==b):=Bool.beq_comm;have e3:((c,d)==(a,b))=((c==a)&&(d==b)):=rfl;rw [e1,e2,e3];cases (c==a)<;>cases (d==b)<;>rfl
    rw [he,List.findIdx?_cons];cases hb:((c,d)==(a,b)) with
    | true=>simp
    | false =>
      simp only [Bool.false_eq_true,if_false];have:=ih (n+1);unfold FF at this;rw [this,Option.map_map];congr 2;funext i;simp;omega
 rw [findK,if_pos hk,key l 0];simp
theorem Ael {l:List KV}{k:Int×Int}{i:Nat}(h:(l.findIdx? fun e=>e.1==k)=some i):∃hi:i<l.length,l[i].1=k:=by
 obtain ⟨h1,h2,_⟩:=List.findIdx?_eq_some_iff_getElem.1 h;exact ⟨h1,by simpa using h2⟩
theorem Afh {l:List KV}{k:Int×Int}:(l.find? fun e=>e.1==k)=match l.findIdx? fun e=>e.1==k with|some i=>l[i]? | none=>none:=by
 induction l with
 | nil=>rfl
 | cons e l ih =>
   rw [List.find?_cons,List.findIdx?_cons];cases hb:(e.1==k) with
   | true=>simp
   | false =>
     simp only [Bool.false_eq_true,if_false,ih];cases l.findIdx? fun e=>e.1==k<;>simp
theorem Ql {l:List KV}{k:Int×Int}:Aem l k=(l.findIdx? fun e=>e.1==k).isSome:=by
 unfold Aem;rw [List.findIdx?_isSome]
section
variable {G:Prg}{b:Nat}{σ:St}{k:AV→St→Prop}
def Qf (x:AV)(k:List (AV×AV)→Prop)(u:Tg k:=tg):Prop:=match x with | .ownm es=>k es|_=>False
theorem XE {k:List (AV×AV)→Prop}{x x':AV}(h0:x=x'):Qf x k=Qf x' k:=by cases h0;rfl
theorem Z6 {es:List (AV×AV)}{q:List (AV×AV)→Prop}:Qf (.ownm es) q=q es:=(rfl)
def AiS (kk:KK)(z:AV)(ok:Bool)(m x:AV)(h:List Ob)(k:AV→Prop)(u:Tg k:=tg):Prop :=
 match (match m with | .nilm=>some [] | .mp r st p ss=>(match node h r st p ss with|some (.ownm es)=>some es|_=>none)|_=>none:Option (List (AV×AV))) with
 | some es=>(match findK kk x es with
   | some (some i)=>(match es[i]? with|some (_,v)=>k (if ok then .tup [v,.bool true] else v)|none=>False)
   | some none=>k (if ok then .tup [z,.bool false] else z)
   | none=>False)
 | none=>False
theorem AaY {kk:KK}{z:AV}{ok:Bool}{m m' x x':AV}{h h':List Ob}{k:AV→Prop}(h0:m=m')(h1:x=x')(h2:h=h'):AiS kk z ok m x h k=AiS kk z ok m' x' h' k:=by cases h0;cases h1;cases h2;rfl
attribute [congr] XE AaY
theorem Ait {kk:KK}{z:AV}{ok:Bool}{m x:Opd}:wpI G (.lok kk z ok m x) b σ k=AiS kk z ok (σ.get m) (σ.get x) σ.h (fun v=>k v σ):=by
 have key:∀es:Option (List (AV×AV)),(Bm (match es with
  | some es=>match findK kk (σ.get x) es with
    | some (some i)=>match es[i]? with
      | some (_,v)=>some (if ok then .tup [v,.bool true] else v,σ.h)
      | none=>none
    | some none=>some (if ok then .tup [z,.bool false] else z,σ.h)
    | none=>none
  | none=>none) (fun v h=>k v { σ with h }))=(match es with
  | some es=>(match findK kk (σ.get x) es with
    | some (some i)=>(match es[i]? with|some (_,v)=>k (if ok then .tup [v,.bool true] else v) σ|none=>False)
    | some none=>k (if ok then .tup [z,.bool false] else z) σ
    | none=>False)
  | none=>False):=by
  intro es;cases es with
  | none=>rfl
  | some es =>
    simp only;cases findK kk (σ.get x) es with
    | none=>rfl
    | some o =>
      cases o with
      | none=>rfl
      | some i =>
        simp only;cases es[i]? with
        | none=>rfl
        | some e=>obtain ⟨a,v⟩:=e;rfl
 simp only [wpI,ax,AiS];cases σ.get m<;>first|exact key none|exact key (some [])|skip
 rename_i r st p ss;simp only;cases node σ.h r st p ss with
 | none=>exact key none
 | some nd=>cases nd<;>first|exact key none|exact key (some _)
def AiP (kk:KK)(z:AV)(ok:Bool)(x:AV)(es:List (AV×AV))(k:AV→Prop)(u:Tg k:=tg):Prop :=
 match findK kk x es with
 | some (some i)=>(match es[i]? with|some (_,v)=>k (if ok then .tup [v,.bool true] else v)|none=>False)
 | some none=>k (if ok then .tup [z,.bool false] else z)
 | none=>False
theorem Aaw {kk:KK}{z:AV}{ok:Bool}{x x':AV}{es es':List (AV×AV)}{k:AV→Prop}(h0:x=x')(h1:es=es'):AiP kk z ok x es k=AiP kk z ok x' es' k:=by cases h0;cases h1;rfl
attribute [congr] Aaw
theorem Ajd {z:AV}{ok:Bool}{a c:Int}{l:List KV}{q:AV→Prop}:AiP (true,[1,1]) z ok (.agg [I a,I c]) (FF l) q=q (if ok then .tup [Z7 l (a,c) z,Bo (Aem l (a,c))] else Z7 l (a,c) z):=by
 simp only [AiP,findK_E,Z7,Afh,Ql];cases h:l.findIdx? fun e=>e.1==(a,c) with
 | none=>rfl
 | some i =>
   obtain ⟨hi,_⟩:=Ael h;simp only [FF,List.getElem?_map,List.getElem?_eq_getElem hi,Option.map_some,eKV,Option.isSome_some]
def AiK (kk:KK)(m x v:AV)(h:List Ob)(k:List Ob→Prop)(u:Tg k:=tg):Prop :=
 match m with
 | .mp r st p ss=>(match node h r st p ss with
   | some (.ownm es)=>if v.free=true∧x.free=true then (match findK kk x es with
     | some (some i)=>(match es[i]? with
       | some (k',_)=>(match setOb h r p (.ownm (es.set i (k',v))) false with|some h'=>k h'|none=>False)
       | none=>False)
     | some none=>(match setOb h r p (.ownm (es++[(x,v)])) false with|some h'=>k h'|none=>False)
     | none=>False) else False
   | _=>False)
 | _=>False
theorem Aa4 {kk:KK}{m m' x x' v v':AV}{h h':List Ob}{k:List Ob→Prop}(h0:m=m')(h1:x=x')(h2:h=h')(h3:v=v'):AiK kk m x v h k=AiK kk m' x' v' h' k:=by cases h0;cases h1;cases h2;cases h3;rfl
attribute [congr] Aa4
theorem Ah5 {kk:KK}{m x v:Opd}:wpI G (.mup kk m x v) b σ k=AiK kk (σ.get m) (σ.get x) (σ.get v) σ.h (fun h=>k .undef { σ with h }):=by
 simp only [wpI,ax,AiK];cases σ.get m<;>first|rfl|skip
 rename_i r st p ss;simp only;cases node σ.h r st p ss with
 | none=>rfl
 | some nd =>
   cases nd<;>first|rfl|skip
   rename_i es;simp only;split
   ·cases findK kk (σ.get x) es with
    | none=>rfl
    | some o =>
      cases o with
      | none=>simp only;cases setOb σ.h r p (.ownm (es++[(σ.get x,σ.get v)])) false<;>rfl
      | some i =>
        simp only;cases es[i]? with
        | none=>rfl
        | some e=>obtain ⟨a,w⟩:=e;simp only;cases setOb σ.h r p (.ownm (es.set i (a,σ.get v))) false<;>rfl
   ·rfl
theorem Acb {l:List KV}{i:Nat}{v:AV}{kv:AV×AV}(h:(FF l)[i]? = some kv):(FF l).set i (kv.1,v)=FF (X5 l i v):=by
 induction l generalizing i with
 | nil=>simp [FF] at h
 | cons e l ih =>
   cases i with
   | zero=>simp [FF] at h;subst h;rfl
   | succ i =>
     have:=ih (i:=i) (by simpa [FF] using h);simp only [FF,X5,List.map_cons,List.set_cons_succ] at this ⊢;rw [this]
def Aj3 (a c:Int)(v:AV)(h:List Ob)(r st ss:Nat)(es:List (AV×AV))(k:List Ob→Prop)(u:Tg k:=tg):Prop :=
 match findK (true,[1,1]) (.agg [I a,I c]) es with
 | some (some i)=>(match es[i]? with|some (k',_)=>k (h.set r ⟨st,ss,.ownm (es.set i (k',v))⟩)|none=>False)
 | some none=>k (h.set r ⟨st,ss,.ownm (es++[(.agg [I a,I c],v)])⟩)
 | none=>False
theorem Z4 {a c:Int}{v v':AV}{h h':List Ob}{r st ss:Nat}{es es':List (AV×AV)}{k:List Ob→Prop}(h0:v=v')(h1:h=h')(h2:es=es'):Aj3 a c v h r st ss es k=Aj3 a c v' h' r st ss es' k:=by cases h0;cases h1;cases h2;rfl
attribute [congr] Z4
theorem Adp {l:List KV}{e:KV}{v:AV}:X5 (l++[e]) l.length v=l++[(e.1,v)]:=by
 induction l with
 | nil=>rfl
 | cons x l ih=>simp only [List.cons_append,List.length_cons,X5,ih]
theorem TC {l:List KV}{k:Int×Int}{z v:AV}(h:(l.findIdx? fun e=>e.1==k)=none):X5 (ensM l k z) (idxM l k) v=l++[(k,v)]:=by
 have h1:Aem l k=false:=by rw [Ql,h];rfl
 simp only [ensM,h1,Bool.false_eq_true,if_false,idxM,h,Option.getD_none];exact Adp
theorem mupE_E {a c:Int}{v:AV}{h:List Ob}{r st ss:Nat}{l:List KV}{q:List Ob→Prop}:Aj3 a c v h r st ss (FF l) q=q (h.set r ⟨st,ss,.ownm (FF (putM l (a,c) v))⟩):=by
 simp only [Aj3,findK_E];cases hf:l.findIdx? fun e=>e.1==(a,c) with
 | none =>
   have:=@TC l (a,c) v v hf;simp only [putM,this];simp [FF,eKV]
 | some i =>
   obtain ⟨hi,_⟩:=Ael hf;have hs:Aem l (a,c)=true:=by rw [Ql,hf];rfl
   have hg:(FF l)[i]? = some (eKV l[i]):=by simp [FF,hi]
   simp only [hg];simp only [putM,ensM,hs,if_true,idxM,hf,Option.getD_some];rw [←Acb hg]
def menE (a c:Int)(z:AV)(h:List Ob)(r st ss ss0:Nat)(es:List (AV×AV))(k:AV→List Ob→Prop)(u:Tg k:=tg):Prop :=
 match findK (true,[1,1]) (.agg [I a,I c]) es with
 | some (some i)=>(match es[i]? with|some (_,v)=>k (.tup [v,.ent r st [] ss0 i]) (h.set r ⟨st,ss,.ownm es⟩)|none=>False)
 | some none=>k (.tup [z,.ent r st [] ss0 es.length]) (h.set r ⟨st,ss,.ownm (es++[(.agg [I a,I c],z)])⟩)
 | none=>False
theorem Zk {a c:Int}{z:AV}{h h':List Ob}{r st ss ss0:Nat}{es es':List (AV×AV)}{k:AV→List Ob→Prop}(h1:h=h')(h2:es=es'):menE a c z h r st ss ss0 es k=menE a c z h' r st ss ss0 es' k:=by cases h1;cases h2;rfl
def Aki (kk:KK)(z m x:AV)(h:List Ob)(k:AV→List Ob→Prop)(u:Tg k:=tg):Prop :=
 match m with
 | .mp r st p ss=>(match node h r st p ss with
   | some (.ownm es)=>if x.free=true∧z.free=true then (match findK kk x es with
     | some (some i)=>(match es[i]? with|some (_,v)=>k (.tup [v,.ent r st p ss i]) h|none=>False)
     | some none=>(match setOb h r p (.ownm (es++[(x,z)])) false with|some h'=>k (.tup [z,.ent r st p ss es.length]) h'|none=>False)
     | none=>False) else False
   | _=>False)
 | _=>False
theorem ZB {kk:KK}{z m m' x x':AV}{h h':List Ob}{k:AV→List Ob→Prop}(h0:m=m')(h1:x=x')(h2:h=h'):Aki kk z m x h k=Aki kk z m' x' h' k:=by cases h0;cases h1;cases h2;rfl
attribute [congr] Zk ZB
def Akk (m s v:AV)(h:List Ob)(k:List Ob→Prop)(u:Tg k:=tg):Prop :=
 match m,s with
 | .mp r st p ss,.ent r' st' p' ss' i=>if r'=r∧st'=st∧p'=p∧ss'=ss∧v.free=true then (match node h r st p ss with
   | some (.ownm es)=>(match es[i]? with
     | some (k',_)=>(match setOb h r p (.ownm (es.set i (k',v))) false with|some h'=>k h'|none=>False)
     | none=>False)
   | _=>False) else False
 | _,_=>False
theorem Abo {m m' s s' v v':AV}{h h':List Ob}{k:List Ob→Prop}(h0:m=m')(h1:s=s')(h2:h=h')(h3:v=v'):Akk m s v h k=Akk m' s' v' h' k:=by cases h0;cases h1;cases h2;cases h3;rfl
attribute [congr] Abo
def Akn (i:Nat)(v:AV)(h:List Ob)(r st ss:Nat)(es:List (AV×AV))(k:List Ob→Prop)(u:Tg k:=tg):Prop :=
 match es[i]? with
 | some (k',_)=>k (h.set r ⟨st,ss,.ownm (es.set i (k',v))⟩)
 | none=>False
theorem ZZ {i:Nat}{v v':AV}{h h':List Ob}{r st ss:Nat}{es es':List (AV×AV)}{k:List Ob→Prop}(h0:v=v')(h1:h=h')(h2:es=es'):Akn i v h r st ss es k=Akn i v' h' r st ss es' k:=by cases h0;cases h1;cases h2;rfl
attribute [congr] ZZ
end
attribute [go_sem] Z6 Ait  Ajd Ah5  mupE_E
end Go.Mw
namespace Go.Mw
set_option maxRecDepth 100000
def andn (m n:Nat):Nat:=m ^^^ (m&&&n)
theorem Nk {m n a:Nat}:(andn m n).testBit a=(m.testBit a && !n.testBit a):=by
 unfold andn;rw [Nat.testBit_xor,Nat.testBit_and];cases m.testBit a<;>cases n.testBit a<;>rfl
theorem RY {m n:Nat}(h:∀a,m.testBit a=n.testBit a):m=n:=Nat.eq_of_testBit_eq h
theorem AcA {m n:Nat}(hm:m<2 ^ 63)(hn:n<2 ^ 63):bandn .i64 (m:Int) (n:Int)=((andn m n:Nat):Int):=by
 unfold bandn;have hb:IntKind.i64.bits=64:=rfl;rw [hb,BitVec.ofInt_natCast,BitVec.ofInt_natCast];have hle:(BitVec.ofNat 64 m &&& ~~~ BitVec.ofNat 64 n).toNat<2 ^ 63:=by
  rw [BitVec.toNat_and,BitVec.toNat_ofNat];exact Nat.lt_of_le_of_lt (Nat.and_le_left) (by rw [Nat.mod_eq_of_lt (by omega)];exact hm)
 rw [Aff hle];congr 1;apply RY;intro a;rw [Nk,BitVec.testBit_toNat,BitVec.getLsbD_and,BitVec.getLsbD_not,BitVec.getLsbD_ofNat,BitVec.getLsbD_ofNat];by_cases h64:a<64
 ·simp [h64]
 ·have:m.testBit a=false:=Nat.testBit_lt_two_pow (Nat.lt_of_lt_of_le hm (Nat.pow_le_pow_right (by omega) (by omega)));simp [h64,this]
theorem AO {n P a:Nat}(h:n<2 ^ P)(ha:n.testBit a=true):a<P:=by
 rcases Nat.lt_or_ge a P with h1|h1
 ·exact h1
 ·rw [testBit_big h h1] at ha;cases ha
theorem lt_of_bits {n P:Nat}(h:∀a,n.testBit a=true→a<P):n<2 ^ P:=by
 apply Nat.lt_pow_two_of_testBit;intro i hi;cases hb:n.testBit i with
 | false=>rfl
 | true=>have:=h i hb;omega
def Aj7 (R:Nat→Nat→Nat)(x y v:Nat):Nat→Nat→Nat:=fun x' y'=>if x'=x∧y'=y then v else R x' y'
open Classical in
structure SI (m:Sys)(f:Fam)(P:Nat)(good:Nat)(R:Nat→Nat→Nat)(Q:List (Nat×Nat))(I:Option (Nat×Nat×Nat)):Prop where
 gl:good<2 ^ P
 q:∀p∈Q,p.1<m.S.length∧p.2<f.S.length
 a:∀p x y,(R x y).testBit p=true→p<P∧Rch m (prodOf f p) x y
 z:∀p<P,(R 0 0).testBit p=true
 g:∀p<P,good.testBit p=false→¬Sat m (prodOf f p)
 c:∀p,good.testBit p=true→∀x y,(R x y).testBit p=true→(x,y)∈Q∨(∃H,I=some (x,y,H)∧H.testBit p=true)∨(goodP m (prodOf f p) x y∧∀i<m.S[x]!.length,(R m.S[x]![i]!.t.toNat (nxt (prodOf f p) y m.S[x]![i]!.a.toNat).toNat).testBit p=true)
theorem SI.rl {m:Sys}{f:Fam}{P good:Nat}{R:Nat→Nat→Nat}{Q:List (Nat×Nat)}{I:Option (Nat×Nat×Nat)}(h:SI m f P good R Q I)(x y:Nat):R x y<2 ^ P:=lt_of_bits fun a ha=>(h.a a x y ha).1
theorem SI.fin {m:Sys}{f:Fam}{P good:Nat}{R:Nat→Nat→Nat}(h:SI m f P good R [] none):good=bitsN (Akd m f) P:=by
 apply RY;intro p;rw [Nq];by_cases hp:p<P
 ·cases hg:good.testBit p with
  | true =>
    have:Sat m (prodOf f p):=by
     refine AgV (P:=fun x y=>(R x y).testBit p=true) ⟨h.z p hp,fun x y hr _ i hi=>?_⟩ (fun x y hr=>?_)
     ·rcases h.c p hg x y hr with h1|⟨H,h1,_⟩|h1
      ·cases h1
      ·cases h1
      ·exact h1.2 i hi
     ·rcases h.c p hg x y hr with h1|⟨H,h1,_⟩|h1
      ·cases h1
      ·cases h1
      ·exact h1.1
    simp [hp,Akd,this]
  | false=>simp [hp,Akd,h.g p hp hg]
 ·have hg:good.testBit p=false:=by
   cases hg:good.testBit p with
   | false=>rfl
   | true=>have:=AO h.gl hg;omega
  simp [hp,hg]
theorem SI.take {m:Sys}{f:Fam}{P good:Nat}{R:Nat→Nat→Nat}{Q:List (Nat×Nat)}{x y acc:Nat}(h:SI m f P good R ((x,y)::Q) none)(hacc:∀p<P,acc.testBit p=true↔goodP m (prodOf f p) x y) :
 SI m f P (andn good (andn (R x y&&&good) acc)) R Q (some (x,y,R x y&&&good&&&acc)):=by
 have hgb:∀p,(andn good (andn (R x y&&&good) acc)).testBit p=(good.testBit p && !((R x y).testBit p && !acc.testBit p)):=by
  intro p;rw [Nk,Nk,Nat.testBit_and];cases good.testBit p<;>cases (R x y).testBit p<;>cases acc.testBit p<;>rfl
 refine ⟨lt_of_bits fun p hp=>?_,fun p hp=>h.q p (List.mem_cons_of_mem _ hp),h.a,h.z,fun p hp hg=>?_,fun p hp x' y' hr=>?_⟩
 ·rw [hgb] at hp;exact AO h.gl (by simp at hp;exact hp.1)
 ·rw [hgb] at hg;cases hgo:good.testBit p with
  | false=>exact h.g p hp hgo
  | true =>
    rw [hgo] at hg;simp at hg;obtain ⟨h1,h2⟩:=hg;intro hs;have:=(hacc p hp).2 (hs x y (h.a p x y h1).2);rw [h2] at this;cases this
 ·rw [hgb] at hp;simp only [Bool.and_eq_true,Bool.not_eq_true'] at hp;rcases h.c p hp.1 x' y' hr with h1|⟨H,h1,_⟩|h1
  ·rcases List.mem_cons.1 h1 with h1|h1
   ·simp only [Prod.mk.injEq] at h1;obtain ⟨rfl,rfl⟩:=h1;right;left;refine ⟨_,rfl,?_⟩;rw [Nat.testBit_and,Nat.testBit_and,hr,hp.1];have:=hp.2;rw [hr] at this;simpa using this
   ·exact .inl h1
  ·cases h1
  ·exact .inr (.inr h1)
theorem SI.more {m:Sys}{f:Fam}{P good:Nat}{R:Nat→Nat→Nat}{Q:List (Nat×Nat)}{x y H tx ty mo:Nat}(h:SI m f P good R Q (some (x,y,H)))(htx:tx<m.S.length)(hty:ty<f.S.length)
 (hm:∀p,mo.testBit p=true→p<P∧Rch m (prodOf f p) tx ty):SI m f P good (Aj7 R tx ty (R tx ty|||mo)) (Q++[(tx,ty)]) (some (x,y,H)):=by
 have hu:∀p x' y',(Aj7 R tx ty (R tx ty|||mo) x' y').testBit p=true↔(R x' y').testBit p=true∨(x'=tx∧y'=ty∧mo.testBit p=true):=by
  intro p x' y';unfold Aj7;split
  ·rename_i e;obtain ⟨rfl,rfl⟩:=e;rw [Nat.testBit_or,Bool.or_eq_true];simp
  ·rename_i e;exact ⟨.inl,fun h=>h.resolve_right (fun h=>e ⟨h.1,h.2.1⟩)⟩
 refine ⟨h.gl,fun p hp=>?_,fun p x' y' hr=>?_,fun p hp=>(hu p 0 0).2 (.inl (h.z p hp)),h.g,fun p hp x' y' hr=>?_⟩
 ·rw [List.mem_append,List.mem_singleton] at hp;rcases hp with hp|rfl
  ·exact h.q p hp
  ·exact ⟨htx,hty⟩
 ·rcases (hu p x' y').1 hr with hr'|⟨e1,e2,hr'⟩
  ·exact h.a p x' y' hr'
  ·rw [e1,e2];exact hm p hr'
 ·rcases (hu p x' y').1 hr with hr|⟨rfl,rfl,_⟩
  ·rcases h.c p hp x' y' hr with h1|h1|⟨h1,h2⟩
   ·exact .inl (List.mem_append_left _ h1)
   ·exact .inr (.inl h1)
   ·exact .inr (.inr ⟨h1,fun i hi=>(hu p _ _).2 (.inl (h2 i hi))⟩)
  ·exact .inl (List.mem_append_right _ (List.mem_singleton_self _))
theorem SI.done {m:Sys}{f:Fam}{P good:Nat}{R:Nat→Nat→Nat}{Q:List (Nat×Nat)}{x y H:Nat}(h:SI m f P good R Q (some (x,y,H)))(hg:∀p,H.testBit p=true→goodP m (prodOf f p) x y)
 (hd:∀p,H.testBit p=true→∀i<m.S[x]!.length,(R m.S[x]![i]!.t.toNat (nxt (prodOf f p) y m.S[x]![i]!.a.toNat).toNat).testBit p=true):SI m f P good R Q none:=by
 refine ⟨h.gl,h.q,h.a,h.z,h.g,fun p hp x' y' hr=>?_⟩;rcases h.c p hp x' y' hr with h1|⟨H',h1,h2⟩|h1
 ·exact .inl h1
 ·simp only [Option.some.injEq,Prod.mk.injEq] at h1;obtain ⟨rfl,rfl,rfl⟩:=h1;exact .inr (.inr ⟨hg p h2,hd p h2⟩)
 ·exact .inr (.inr h1)
theorem Mu {nt t s r st ss ss1 len es a c:Nat}{xs:List AV}{d:AV}{l:List (Nat×AV)}{h:List Ob}{lp:List Lp}(hl:Kl d t l = .sl r st [] ss 0 len)(hr:h[r]? = some ⟨st,ss1,.own es xs⟩)(hs:h[s]? = some ⟨a,c,.gone⟩)(hn:r≠s)(hx:len=xs.length)(ht:t<nt) :
 mv1 0 t s ⟨aT d nt l,h,lp⟩=⟨aT d nt ((t,.sl s (a+1) [] 0 0 len)::OS t l),(h.set r ⟨st,ss1,.gone⟩).set s ⟨a+1,0,.own es xs⟩,lp⟩:=by
 have e1:=AbE (d:=d) (l:=l) (h:=h) (lp:=lp) ht;have hnd:node h r st [] ss=some (.own es xs):=by simp [node,hr,nav]
 have ha:(aT d nt l)[t]? = some (.sl r st [] ss 0 len):=by rw [aT_get ht,hl]
 simp only [mv1,ha,hnd,hr,Nat.zero_add,hs];rw [if_pos ⟨hn,hx⟩];congr 1;rw [aT_set ht];apply List.ext_getElem?;intro i;by_cases hi:i<nt
 ·rw [aT_get hi,aT_get hi];simp only [Kl];split
  ·rfl
  ·rename_i e;rw [Ns e]
 ·rw [List.getElem?_eq_none (by rw [aT_len];omega),List.getElem?_eq_none (by rw [aT_len];omega)]
theorem Bt {nt t s st ss len:Nat}{d:AV}{l:List (Nat×AV)}{h:List Ob}{lp:List Lp}(hl:Kl d t l = .sl s st [] ss 0 len)(ht:t<nt):mv1 0 t s ⟨aT d nt l,h,lp⟩=⟨aT d nt ((t,.sl s st [] ss 0 len)::OS t l),h,lp⟩:=by
 have ha:(aT d nt l)[t]? = some (.sl s st [] ss 0 len):=by rw [aT_get ht,hl]
 have hsame:aT d nt ((t,.sl s st [] ss 0 len)::OS t l)=aT d nt l:=by
  apply List.ext_getElem?;intro i;by_cases hi:i<nt
  ·rw [aT_get hi,aT_get hi];simp only [Kl];split
   ·rename_i e;subst e;rw [hl]
   ·rename_i e;rw [Ns e]
  ·rw [List.getElem?_eq_none (by rw [aT_len];omega),List.getElem?_eq_none (by rw [aT_len];omega)]
 rw [hsame];simp only [mv1,ha,Nat.zero_add];split
 ·split
  ·rw [if_neg (fun h=>h.1 rfl)]
  ·rfl
 ·rfl
attribute [go_sem] LR
theorem AbU (l k:List ByteArray)(hl:l.length≤1048576)(hk:k.length≤1048576):FnT G AI [.lst (l.map .str),.lst (k.map .str)] (Bo (decide (l=k))):=by
 refine FnP.mk' J0 rfl rfl ?_;simp only [go_sem,↓reduceIte,↓Aa,E7];refine ⟨fun h=>?_,fun h=>?_⟩
 ·have h1:=h;rw [decide_eq_false];intro e;subst e;simp at h1
 ·have hlk:l.length=k.length:=by have:=h;simp at this;omega
  refine Ad (fun (i:Nat) σ=>i≤l.length∧(∀j<i,l[j]! = k[j]!)∧σ=⟨aT .undef 26 [(1,.lst (k.map .str)),(12,.lst (l.map .str)),(13,I l.length),(14,I i)],[],[]⟩) (fun i=>l.length-i) ?_ 0 ?_
  ·rintro i σ ⟨hi,hall,rfl⟩ N Q hQ hN;by_cases hlt:i<l.length
   ·have hltk:i<k.length:=by omega
    simp only [go_sem,↓reduceIte,↓Aa,Ab hlt (by omega),Int.ofNat_lt,hlt,hltk];refine ⟨fun h=>?_,fun h=>?_⟩
    ·subst hQ;simp only [go_sem,↓reduceIte,↓Aa];rw [decide_eq_false (fun e=>h (by rw [e]))]
    ·refine hN (i+1) _ (by omega) ⟨by omega,Ae hall h,?_⟩;simp only [go_sem,↓reduceIte,↓Aa]
   ·have hil:i=l.length:=by omega
    subst hil hQ;simp only [go_sem,↓reduceIte,↓Aa,Int.ofNat_lt,hlt];rw [decide_eq_true];apply List.ext_getElem hlk;intro j h1 h2;have:=hall j h1;rwa [getElem!_pos l j h1,getElem!_pos k j h2] at this
  ·exact ⟨by omega,by simp,by simp only [go_sem,↓reduceIte,↓Aa]⟩
section
variable {fr:Bool}{roots:List Nat}{b:Nat}{ss:List Nat}{σ:St}{q:AV→St→Prop}
theorem Ae3 {l k:List ByteArray}(hl:l.length≤1048576)(hk:k.length≤1048576):callT G AI [.lst (l.map .str),.lst (k.map .str)] fr roots b ss σ q=q (Bo (decide (l=k))) σ:=(AbU l k hl hk).rule
end
end Go.Mw
namespace Go.Mw
set_option maxRecDepth 100000
theorem rising_ok (l:List Int)(hl:l.length≤1048576):FnT G Ej [.lst (l.map I)] (Bo (decide (∀i<l.length,0<i→l[i-1]! < l[i]!))):=by
 refine FnP.mk' Vf rfl rfl ?_;simp only [go_sem,↓reduceIte,↓Aa,Ol];refine Ad (fun (i:Nat) σ=>(1≤i∧(i≤l.length∨i=1))∧(∀j<i,0<j→l[j-1]! < l[j]!)∧σ=⟨aT .undef 20 [(0,.lst (l.map I)),(3,I i)],[],[]⟩) (fun i=>l.length-i) ?_ 1 ?_
 ·rintro i σ ⟨⟨hi1,hi⟩,hall,rfl⟩ N Q hQ hN;by_cases hlt:i<l.length
  ·have hsub:IntKind.i64.wrap ((i:Int)-1)=(i:Int)-1:=by rw [L7]<;>omega
   have ht1:((i:Int)-1).toNat=i-1:=by omega
   simp only [go_sem,↓reduceIte,↓Aa,Int.ofNat_lt,hlt,Ab hlt (by omega),hsub,ht1];refine ⟨by omega,by omega,fun h=>?_,fun h=>?_⟩
   ·subst hQ;simp only [go_sem,↓reduceIte,↓Aa];rw [decide_eq_false];intro hp;have:=hp i hlt (by omega);omega
   ·refine hN (i+1) _ (by omega) ⟨by omega,Ae hall (fun _=>by omega),?_⟩;simp only [go_sem,↓reduceIte,↓Aa]
  ·subst hQ;simp only [go_sem,↓reduceIte,↓Aa,Int.ofNat_lt,hlt];rw [decide_eq_true];intro j hj h0;exact hall j (by omega) h0
 ·exact ⟨by omega,fun j hj h0=>by omega,by simp only [go_sem,↓reduceIte,↓Aa]⟩
theorem AjW (n:Nat)(hn:n≤62)(s:Int):FnT G JY [I n,I s] (Bo (decide (0≤s∧s<((2 ^ n:Nat):Int)))):=by
 refine FnP.mk' AcU rfl rfl ?_;simp only [go_sem,↓reduceIte,↓Aa,UF,Pe hn];generalize ((2 ^ n:Nat):Int)=most
 grind
section
variable {fr:Bool}{roots:List Nat}{b:Nat}{ss:List Nat}{σ:St}{k:AV→St→Prop}
theorem Aev {l:List Int}(hl:l.length≤1048576):callT G Ej [.lst (l.map I)] fr roots b ss σ k=k (Bo (decide (∀i<l.length,0<i→l[i-1]! < l[i]!))) σ:=(rising_ok l hl).rule
theorem Akb {n:Nat}{s:Int}(hn:n≤62):callT G JY [I n,I s] fr roots b ss σ k=k (Bo (decide (0≤s∧s<((2 ^ n:Nat):Int)))) σ:=(AjW n hn s).rule
end
open Classical in
theorem sttR_ok (x:Stt)(st n:Nat)(hn:n≤8)(hA:x.A.length≤1048576)(hX:x.X.length≤1048576):FnT G E8 [eSt x,I st,I n] (Bo (decide (SttOk x st n))):=by
 have hno:(SttOk x st n→False)→AV.bool false=Bo (decide (SttOk x st n)):=fun h=>by rw [decide_eq_false (fun hp=>h hp)]
 refine FnP.mk' WJ rfl rfl ?_;simp only [go_sem,↓reduceIte,↓Aa,Qm,eSt,Aev hA];refine ⟨fun h1=>⟨fun h2=>hno (fun hp=>h2 hp.ris),fun h2=>?_⟩,fun h1=>hno (fun hp=>by have:=hp.len;simp at h1;omega)⟩;have hXn:x.X.length=n:=by simp at h1;omega
 have hris:∀i<x.A.length,0<i→x.A[i-1]! < x.A[i]!:=by simpa using h2
 refine Ad (fun (i:Nat) σ=>i≤x.X.length∧(∀j<i,-1≤x.X[j]!∧x.X[j]! < (st:Int))∧σ=⟨aT .undef 66 [(1,I st),(2,I n),(3,.ptr 0 1 [] 0 0 0),(25,.lst (x.X.map I)),(26,I x.X.length),(27,I i)],
  [⟨1,0,.own 2 [.agg [.lst (x.A.map I),.lst (x.X.map I)]]⟩],[]⟩) (fun i=>x.X.length-i) ?_ 0 ?_
 ·rintro i σ ⟨hi,hall,rfl⟩ N Q hQ hN;by_cases hlt:i<x.X.length
  ·simp only [go_sem,↓reduceIte,↓Aa,Ab hlt (by omega),Int.ofNat_lt,hlt]
   (repeat' (first|intro _|refine And.intro ?_ ?_))<;>first
     | (subst hQ;simp only [go_sem,↓reduceIte,↓Aa];exact hno (fun hp=>by have:=hp.x i (by omega);omega))
     | (refine hN (i+1) _ (by omega) ⟨by omega,Ae hall (by omega),?_⟩;simp only [go_sem,↓reduceIte,↓Aa])
  ·have hil:i=x.X.length:=by omega
   subst hQ;simp only [go_sem,↓reduceIte,↓Aa,Int.ofNat_lt,hlt];have h28:2 ^ n≤2 ^ 8:=Nat.pow_le_pow_right (by omega) hn;refine Ad (fun (m:Nat) σ=>m≤x.A.length∧(∀m'<m,(0≤x.A[m']!∧x.A[m']! < ((2 ^ n:Nat):Int))∧∀a<n,hasA x.A[m']! a=true→0≤x.X[a]!)∧σ=⟨aT .undef 66 [(2,I n),(3,.ptr 0 1 [] 0 0 0),(40,.lst (x.A.map I)),(41,I x.A.length),(42,I m)],
    [⟨1,0,.own 2 [.agg [.lst (x.A.map I),.lst (x.X.map I)]]⟩],[]⟩) (fun m=>x.A.length-m) ?_ 0 ?_
   ·rintro m σ ⟨hm,hall3,rfl⟩ N3 Q3 hQ3 hN3;by_cases hlt3:m<x.A.length
    ·simp only [go_sem,↓reduceIte,↓Aa,Ab hlt3 (by omega),Int.ofNat_lt,hlt3,Akb (show n≤62 by omega)];refine ⟨fun h=>?_,fun h=>?_⟩
     ·subst hQ3;simp only [go_sem,↓reduceIte,↓Aa];exact hno (fun hp=>h (hp.a m hlt3))
     have hb:0≤x.A[m]!∧x.A[m]! < ((2 ^ n:Nat):Int):=by simpa using h
     obtain ⟨s,hs,hs2⟩:∃s:Nat,x.A[m]! = s∧s<2 ^ n:=⟨x.A[m]!.toNat,by omega,by omega⟩;simp only [go_sem,↓reduceIte,↓Aa,hs,Aj1 (show n≤1000 by omega) (show s<2 ^ 63 by omega)];refine Ad (fun (j:Nat) σ=>j≤(bitsL n s).length∧(∀j'<j,0≤x.X[(bitsL n s)[j']!]!)∧σ=⟨aT .undef 66 [(2,I n),(3,.ptr 0 1 [] 0 0 0),(40,.lst (x.A.map I)),(41,I x.A.length),(42,I m),(52,.lst ((bitsL n s).map nI)),(53,I (bitsL n s).length),(54,I j)],
      [⟨1,0,.own 2 [.agg [.lst (x.A.map I),.lst (x.X.map I)]]⟩],[]⟩) (fun j=>(bitsL n s).length-j) ?_ 0 ?_
     ·rintro j σ ⟨hj,hall4,rfl⟩ N4 Q4 hQ4 hN4;by_cases hlt4:j<(bitsL n s).length
      ·have hb:=@V5 n s;obtain ⟨hb1,hb2⟩:=Adl hlt4;have hbx:(bitsL n s)[j]! < x.X.length:=by omega
       simp only [go_sem,↓reduceIte,↓Aa,Ab hlt4 (by omega),Int.ofNat_lt,hlt4,hbx];refine ⟨fun h=>?_,fun h=>?_⟩
       ·subst hQ4;simp only [go_sem,↓reduceIte,↓Aa];subst hQ3;simp only [go_sem,↓reduceIte,↓Aa];refine hno (fun hp=>?_);have:=hp.has m hlt3 _ hb1 (by rw [hs];exact hb2);omega
       ·refine hN4 (j+1) _ (by omega) ⟨by omega,Ae hall4 (by omega),?_⟩;simp only [go_sem,↓reduceIte,↓Aa]
      ·have hjl:j=(bitsL n s).length:=by omega
       subst hQ4;simp only [go_sem,↓reduceIte,↓Aa,Int.ofNat_lt,hlt4,Ab hlt3 (show x.A.length≤1000000000 by omega)];refine hN3 (m+1) _ (by omega) ⟨by omega,Ae hall3 ⟨by omega,fun a ha hbit=>?_⟩,?_⟩
       ·obtain ⟨j',hj',e⟩:=AdZ (s:=s) ha (by unfold hasA at hbit;rw [hs,Int.toNat_natCast] at hbit;exact hbit);rw [←e];exact hall4 j' (by omega)
       ·simp only [go_sem,↓reduceIte,↓Aa]
     ·exact ⟨by omega,by simp,by simp only [go_sem,↓reduceIte,↓Aa]⟩
    ·subst hQ3;simp only [go_sem,↓reduceIte,↓Aa,Int.ofNat_lt,hlt3];rw [decide_eq_true ⟨hXn,fun k hk=>(hall3 k (by omega)).1,hris,fun k hk=>hall k (by omega),fun k hk=>(hall3 k (by omega)).2⟩]
   ·exact ⟨by omega,by simp,by simp only [go_sem,↓reduceIte,↓Aa]⟩
 ·exact ⟨by omega,by simp,by simp only [go_sem,↓reduceIte,↓Aa]⟩
open Classical in
theorem Aiy (s:Spc)(h:SpSz s):FnT G Jw [eSp s] (Bo (decide (FY s))):=by
 have hno:(FY s→False)→AV.bool false=Bo (decide (FY s)):=fun h=>by rw [decide_eq_false (fun hp=>h hp)]
 refine FnP.mk' Afm rfl rfl ?_;have hS:=h.s;simp only [go_sem,↓reduceIte,↓Aa,Y4,eSp,Ah3 h.a];refine ⟨fun h1=>⟨fun h2=>⟨fun h3=>?_,fun h3=>?_⟩,fun h2=>?_⟩,fun h1=>?_⟩
 all_goals first
  | exact hno (fun hp=>by have:=hp.s1;have:=hp.s2;omega)
  | exact hno (fun hp=>by have:=hp.acts;simp_all)
  | skip
 have hacts:actsOk s.acts=true:=by assumption
 have h8:=Ax hacts;refine Ad (fun (i:Nat) σ=>i≤s.S.length∧(∀j<i,SttOk s.S[j]! s.S.length s.acts.length)∧∃a c,σ=⟨aT .undef 38 [(1,.ptr 0 1 [] 0 0 0),(22,.lst (s.S.map eSt)),(23,I s.S.length),(24,I i)],[⟨1,0,.own 2 [.agg [.lst (s.acts.map .str),.lst (s.S.map eSt)]]⟩,⟨a,c,.gone⟩],[]⟩) (fun i=>s.S.length-i) ?_ 0 ?_
 ·rintro i σ ⟨hi,hall,a,c,rfl⟩ N Q hQ hN;by_cases hlt:i<s.S.length
  ·obtain ⟨hA,hX⟩:=h.x i hlt;have hcall:∀ {fr:Bool}{roots:List Nat}{b:Nat}{ss:List Nat}{σ:St}{k:AV→St→Prop},callT G E8 [.agg [.lst (s.S[i]!.A.map I),.lst (s.S[i]!.X.map I)],I s.S.length,I s.acts.length] fr roots b ss σ k=k (Bo (decide (SttOk s.S[i]! s.S.length s.acts.length))) σ:=(sttR_ok _ _ _ h8 hA hX).rule;simp only [go_sem,↓reduceIte,↓Aa,eSt,Ab hlt (by omega),Int.ofNat_lt,hlt,hcall];refine ⟨fun hb=>?_,fun hb=>?_⟩
   ·subst hQ;simp only [go_sem,↓reduceIte,↓Aa];exact hno (fun hp=>hb (hp.st i hlt))
   ·refine hN (i+1) _ (by omega) ⟨by omega,Ae hall (by simpa using hb),a+1,0,?_⟩;simp only [go_sem,↓reduceIte,↓Aa]
  ·subst hQ;simp only [go_sem,↓reduceIte,↓Aa,Int.ofNat_lt,hlt];rw [decide_eq_true ⟨hacts,by omega,by omega,fun j hj=>hall j (by omega)⟩]
 ·exact ⟨by omega,by simp,0,0,by simp only [go_sem,↓reduceIte,↓Aa]⟩
end Go.Mw
namespace Go.Mw
set_option maxRecDepth 100000
def isRep (n:Nat):Option (List AV×St)→Bool
 | some ([.sl r st p ss 0 len],σ)=>len==n&&(match node σ.h r st p ss with|some (.own 1 ys)=>ys.length==n&&ys.all (fun | .int .i64 v=>v == -1|_=>false)|_=>false)
 | _=>false
theorem AeV {n:Nat}{x:Option (List AV×St)}(h:isRep n x=true):∃r st p ss σ,x=some ([.sl r st p ss 0 n],σ)∧node σ.h r st p ss=some (.own 1 (List.replicate n (I (-1)))):=by
 unfold isRep at h;split at h
 ·rename_i r st p ss len σ;simp only [Bool.and_eq_true,beq_iff_eq] at h;obtain ⟨rfl,h⟩:=h;refine ⟨r,st,p,ss,σ,rfl,?_⟩;split at h
  ·rename_i ys hn;simp only [Bool.and_eq_true,beq_iff_eq,List.all_eq_true] at h;rw [hn];congr 2;refine List.eq_replicate_iff.2 ⟨h.1,fun y hy=>?_⟩;have:=h.2 y hy;split at this
   ·rw [beq_iff_eq] at this;subst this;rfl
   ·cases this
  ·cases h
 ·cases h
theorem rep_run:∀n<9,isRep n (runF G 100 AK [.lst [I (-1)],I (n:Nat)] [] [])=true:=by decide +kernel
theorem Ai9 (n:Nat)(hn:n≤8):FnO G Aw [.lst [.int .i64 (-1)],I n] 1 (List.replicate n (.int .i64 (-1))):=by
 obtain ⟨r,st,p,ss,σ,h,h2⟩:=AeV (rep_run n (by omega));refine ⟨⟨AK,100,r,st,p,ss,σ,LQ,rfl,rfl,rfl,rfl,?_,h2⟩,?_⟩
 ·rw [List.length_replicate];exact h
 ·rw [List.all_eq_true];intro x hx;rw [List.eq_of_mem_replicate hx];rfl
theorem AfC {n:Nat}(hn:n≤8){fr:Bool}{roots:List Nat}{b s:Nat}{σ:St}{k:AV→St→Prop} :
 callT G Aw [.lst [.int .i64 (-1)],I n] fr roots b [s] σ k=OC (if fr then σ.h else At σ.h roots) (b+s) (.own 1 (List.replicate n (.int .i64 (-1)))) (fun h st=>k (.sl (b+s) st [] 0 0 n) { σ with h }):=by
 have:=(Ai9 n hn).rule (fr:=fr) (roots:=roots) (b:=b) (s:=s) (σ:=σ) (k:=k);rw [List.length_replicate] at this;exact this
def B5 (acts:List ByteArray):Spc:=⟨acts,[⟨[],List.replicate acts.length (-1)⟩]⟩
theorem RZ (acts:List ByteArray)(h:acts.length≤8):Fn G BE [.lst (acts.map .str)] (eSp (B5 acts)):=by
 refine FnP.mk' Q1 rfl rfl ?_;simp only [go_sem,↓reduceIte,↓Aa,LX,TZ (show acts.length≤1048576 by omega),AfC h];simp only [eSp,B5,eSt,List.map_cons,List.map_nil,List.map_replicate,frz]
theorem PR (acts:List ByteArray)(h:acts.length≤8):Fn G BV [.lst (acts.map .str)] (eSp (B5 acts)):=by
 refine FnP.mk' TY rfl rfl ?_;simp only [go_sem,↓reduceIte,↓Aa,MX];refine Ad (fun (i:Nat) σ=>i≤acts.length∧∃z1 a2 c2 a3 c3,σ=⟨aT .undef 19 [(0,.lst (acts.map .str)),(2,.ptr 0 1 [] 0 0 0),(3,.ptr 1 1 [] 0 0 0),(5,I acts.length),(6,I i)],
  [⟨1,0,.own 2 [.agg [.nils,.nils]]⟩,⟨1,z1,.own 2 [.agg [.nils,cellv .nils 1 (List.replicate i (I (-1)))]]⟩,⟨a2,c2,.gone⟩,⟨a3,c3,.gone⟩,⟨0,0,.gone⟩,⟨0,0,.gone⟩],[]⟩) (fun i=>acts.length-i) ?_ 0 ?_
 ·rintro i σ ⟨hi,z1,a2,c2,a3,c3,rfl⟩ N Q hQ hN;by_cases hlt:i<acts.length
  ·simp only [go_sem,↓reduceIte,↓Aa,Ab hlt (by omega),Int.ofNat_lt,hlt,List.length_replicate];refine ⟨by omega,hN (i+1) _ (by omega) ⟨by omega,?_⟩⟩;simp only [go_sem,↓reduceIte,↓Aa,List.replicate_succ'];repeat apply Exists.intro
   rfl
  ·have hil:i=acts.length:=by omega
   subst hil hQ;simp only [go_sem,↓reduceIte,↓Aa,Int.ofNat_lt,hlt];refine ⟨by omega,?_⟩;simp only [eSp,B5,eSt,List.map_cons,List.map_nil,List.map_replicate,frz]
 ·refine ⟨by omega,?_⟩;simp only [go_sem,↓reduceIte,↓Aa,List.replicate_zero];repeat apply Exists.intro
  rfl
section
variable {roots:List Nat}{b:Nat}{ss:List Nat}{σ:St}{k:AV→St→Prop}
theorem AcZ {acts:List ByteArray}(h:acts.length≤8):callT G BE [.lst (acts.map .str)] true roots b ss σ k=k (eSp (B5 acts)) σ:=(RZ acts h).rule
theorem ZC {acts:List ByteArray}(h:acts.length≤8):callT G BV [.lst (acts.map .str)] true roots b ss σ k=k (eSp (B5 acts)) σ:=(PR acts h).rule
end
end Go.Mw
namespace Go.Mw
set_option maxRecDepth 100000
def rowS (x:Stt):AV:=.agg [cellv .nils 1 (x.A.map I),cellv .nils 1 (x.X.map I)]
theorem frz_rowS (x:Stt):frz (rowS x)=eSt x:=by
 have h:∀l:List Int,(l.map I).map frz=l.map I:=fun l=>by rw [List.map_map];rfl
 simp only [rowS,eSt,go_sem,h]
theorem Aaj (s:Spc)(h:SpSz s):Fn G HE [eSp s] (eSp s):=by
 refine FnP.mk' Abb rfl rfl ?_;have ha:=h.a;have hS:=h.s;simp only [go_sem,↓reduceIte,↓Aa,Sh,eSp];refine ⟨by omega,?_⟩;refine Ad (fun (i:Nat) σ=>i≤s.S.length∧∃a0 c0 a2 c2 z a4 c4 a5 c5 a6 c6 a7 c7 a8 c8,σ=⟨aT .undef 31 [(2,.ptr 1 1 [] 0 0 0),(3,.ptr 3 1 [] 0 0 0),(11,.lst (s.S.map eSt)),(12,I s.S.length),(13,I i)],
  [⟨a0,c0,.own 2 [.agg [.lst (s.acts.map .str),.lst (s.S.map eSt)]]⟩,⟨1,0,.own 2 [.agg [.nils,.nils]]⟩,⟨a2,c2,.gone⟩,⟨1,z,.own 2 [.agg [cellv .nils 1 (s.acts.map .str),cellv .nils 2 ((s.S.take i).map rowS)]]⟩,⟨a4,c4,.gone⟩,⟨a5,c5,.gone⟩,⟨a6,c6,.gone⟩,⟨a7,c7,.gone⟩,⟨a8,c8,.gone⟩],[]⟩) (fun i=>s.S.length-i) ?_ 0 ?_
 ·rintro i σ ⟨hi,a0,c0,a2,c2,z,a4,c4,a5,c5,a6,c6,a7,c7,a8,c8,rfl⟩ N Q hQ hN;by_cases hlt:i<s.S.length
  ·obtain ⟨g1,g2⟩:=h.x i hlt;simp only [go_sem,↓reduceIte,↓Aa,eSt,Ab hlt (by omega),Int.ofNat_lt,hlt];generalize hx:s.S[i]! = x at *;refine ⟨by omega,by omega,by rw [List.length_take];omega,hN (i+1) _ (by omega) ⟨by omega,?_⟩⟩;simp only [go_sem,↓reduceIte,↓Aa,EK _ hlt,hx,rowS];repeat apply Exists.intro
   rfl
  ·have hil:i=s.S.length:=by omega
   subst hil hQ;simp only [go_sem,↓reduceIte,↓Aa,Int.ofNat_lt,hlt,List.take_length];have e:frz∘rowS=eSt:=funext frz_rowS;rw [List.map_map,e]
 ·refine ⟨by omega,?_⟩;simp only [go_sem,↓reduceIte,↓Aa,List.take_zero];repeat apply Exists.intro
  rfl
theorem spcCopy_r {s:Spc}(h:SpSz s){roots:List Nat}{b:Nat}{ss:List Nat}{σ:St}{k:AV→St→Prop}:callT G HE [.agg [.lst (s.acts.map .str),.lst (s.S.map eSt)]] true roots b ss σ k=k (eSp s) σ:=(Aaj s h).rule
def canN (x:Stt)(i:Nat):Nat:=bitsN (fun a=>decide (0≤x.X[a]!)) i
theorem Aif {x:Stt}{i:Nat}:canN x i<2 ^ i:=Yy
theorem Pq {x:Stt}{i a:Nat}:(canN x i).testBit a=true↔a<i∧0≤x.X[a]!:=by unfold canN;rw [Nq];simp
def SpI (s:Spc):Prop:=∀i<s.S.length,∀j<s.S[i]!.A.length,s.S[i]!.A[j]! < 9223372036854775808
theorem Ada {m n:Nat}:andn m n=0↔∀a,m.testBit a=true→n.testBit a=true:=by
 rw [nat_zero_bits];refine forall_congr' (fun a=>?_);rw [Nk];cases m.testBit a<;>cases n.testBit a<;>simp
open Classical in
theorem Ai5 (s:Spc)(h:SpSz s)(hI:SpI s):FnT G Co [eSp s] (Bo (decide (FY s))):=by
 have hno:(FY s→False)→AV.bool false=Bo (decide (FY s)):=fun h=>by rw [decide_eq_false (fun hp=>h hp)]
 refine FnP.mk' V4 rfl rfl ?_;have hS:=h.s;simp only [go_sem,↓reduceIte,↓Aa,Oa,eSp,AiZ h.a];refine ⟨fun h1=>⟨fun h2=>⟨fun h3=>?_,fun h3=>?_⟩,fun h2=>?_⟩,fun h1=>?_⟩
 all_goals first
  | exact hno (fun hp=>by have:=hp.s1;have:=hp.s2;omega)
  | exact hno (fun hp=>by have:=hp.acts;simp_all)
  | skip
 have hacts:actsOk s.acts=true:=by assumption
 have h8:=Ax hacts;refine Ad (fun (i:Nat) σ=>i≤s.S.length∧(∀j<i,SttOk s.S[j]! s.S.length s.acts.length)∧∃a c,σ=⟨aT .undef 94 [(1,.ptr 0 1 [] 0 0 0),(3,I s.S.length),(27,.lst (s.S.map eSt)),(28,I s.S.length),(29,I i)],[⟨1,0,.own 2 [.agg [.lst (s.acts.map .str),.lst (s.S.map eSt)]]⟩,⟨a,c,.gone⟩],[]⟩) (fun i=>s.S.length-i) ?_ 0 ?_
 ·rintro i σ ⟨hi,hall,a,c,rfl⟩ N Q hQ hN;by_cases hlt:i<s.S.length
  ·obtain ⟨hA,hX⟩:=h.x i hlt;have hII:=hI i hlt;simp only [go_sem,↓reduceIte,↓Aa,eSt,Ab hlt (by omega),Int.ofNat_lt,hlt];generalize hx:s.S[i]! = x at *;have hnoS:(SttOk x s.S.length s.acts.length→False)→AV.bool false=Bo (decide (FY s)):=fun h=>hno (fun hp=>h (by have:=hp.st i hlt;rw [hx] at this;exact this));refine ⟨fun hl=>?_,fun hl=>?_⟩
   ·subst hQ;simp only [go_sem,↓reduceIte,↓Aa];exact hnoS (fun hp=>by have:=hp.len;simp at hl;omega)
   have hXn:x.X.length=s.acts.length:=by simp at hl;omega
   refine Ad (fun (j:Nat) σ=>j≤x.X.length∧(∀k<j,-1≤x.X[k]!∧x.X[k]! < (s.S.length:Int))∧σ=⟨aT .undef 94 [(1,.ptr 0 1 [] 0 0 0),(3,I s.S.length),(5,.ptr 1 (a+1) [] 0 0 0),(6,I (canN x j:Nat)),(27,.lst (s.S.map eSt)),(28,I s.S.length),(29,I i),(41,.lst (x.X.map I)),(42,I x.X.length),(43,I j)],
    [⟨1,0,.own 2 [.agg [.lst (s.acts.map .str),.lst (s.S.map eSt)]]⟩,⟨a+1,0,.own 2 [.agg [.lst (x.A.map I),.lst (x.X.map I)]]⟩],[]⟩) (fun j=>x.X.length-j) ?_ 0 ?_
   ·rintro j σ ⟨hj,hall2,rfl⟩ N2 Q2 hQ2 hN2;by_cases hlt2:j<x.X.length
    ·have hcs:canN x (j+1)=if decide (0≤x.X[j]!) then canN x j|||2 ^ j else canN x j:=Sa;simp only [go_sem,↓reduceIte,↓Aa,Ab hlt2 (by omega),Int.ofNat_lt,hlt2,Pe (show j≤62 by omega),canN,Ab0 (show j≤32 by omega)]
     (repeat' (first|intro _|refine And.intro ?_ ?_))<;>first
       | (subst hQ2;simp only [go_sem,↓reduceIte,↓Aa];subst hQ;simp only [go_sem,↓reduceIte,↓Aa]
          exact hnoS (fun hp=>by have:=hp.x j (by omega);omega))
       | (refine hN2 (j+1) _ (by omega) ⟨by omega,Ae hall2 (by omega),?_⟩
          unfold canN at hcs
          first
           | (rw [if_pos (by simpa using (by assumption:0≤x.X[j]!))] at hcs;simp only [go_sem,↓reduceIte,↓Aa,canN,hcs])
           | (rw [if_neg (by simpa using (by assumption:¬0≤x.X[j]!))] at hcs;simp only [go_sem,↓reduceIte,↓Aa,canN,hcs]))
    ·have hjl:j=x.X.length:=by omega
     subst hQ2;simp only [go_sem,↓reduceIte,↓Aa,Int.ofNat_lt,hlt2];have hc8:canN x j<2 ^ 8:=Nat.lt_of_lt_of_le Aif (Nat.pow_le_pow_right (by omega) (by omega));refine Ad (fun (m:Nat) σ=>m≤x.A.length∧(∀k<m,(0≤x.A[k]!∧(∀a,hasA x.A[k]! a=true→(canN x j).testBit a=true))∧(0<k→x.A[k-1]! < x.A[k]!))∧σ=⟨aT .undef 94 [(1,.ptr 0 1 [] 0 0 0),(3,I s.S.length),(5,.ptr 1 (a+1) [] 0 0 0),(6,I (canN x j:Nat)),(27,.lst (s.S.map eSt)),(28,I s.S.length),(29,I i),(63,.lst (x.A.map I)),(64,I x.A.length),(65,I m)],
      [⟨1,0,.own 2 [.agg [.lst (s.acts.map .str),.lst (s.S.map eSt)]]⟩,⟨a+1,0,.own 2 [.agg [.lst (x.A.map I),.lst (x.X.map I)]]⟩],[]⟩) (fun m=>x.A.length-m) ?_ 0 ?_
     ·rintro m σ ⟨hm,hall3,rfl⟩ N3 Q3 hQ3 hN3;by_cases hlt3:m<x.A.length
      ·have hsub:IntKind.i64.wrap ((m:Int)-1)=(m:Int)-1:=by rw [L7]<;>omega
       have ht1:((m:Int)-1).toNat=m-1:=by omega
       have hbd:=hII m hlt3;by_cases h0:x.A[m]! < 0
       ·simp only [go_sem,↓reduceIte,↓Aa,Ab hlt3 (by omega),Int.ofNat_lt,hlt3,h0];subst hQ3;simp only [go_sem,↓reduceIte,↓Aa];subst hQ;simp only [go_sem,↓reduceIte,↓Aa];exact hnoS (fun hp=>by have:=(hp.a m hlt3).1;omega)
       ·obtain ⟨t,ht⟩:∃t:Nat,x.A[m]! = t:=⟨x.A[m]!.toNat,by omega⟩;have hbits:(((andn t (canN x j):Nat):Int) != 0)=true↔¬ ∀a,hasA x.A[m]! a=true→(canN x j).testBit a=true:=by
         rw [bne_iff_ne];have:((andn t (canN x j):Nat):Int)=0↔andn t (canN x j)=0:=by omega
         rw [Ne,this,Ada];simp only [hasA,ht,Int.toNat_natCast]
        simp only [go_sem,↓reduceIte,↓Aa,Ab hlt3 (by omega),Int.ofNat_lt,hlt3,h0,ht,AcA (show t<2 ^ 63 by omega) (show canN x j<2 ^ 63 by omega),hsub,ht1]
        (repeat' (first|intro _|refine And.intro ?_ ?_))<;>first
          | omega
          | (subst hQ3;simp only [go_sem,↓reduceIte,↓Aa];subst hQ;simp only [go_sem,↓reduceIte,↓Aa]
             refine hnoS (fun hp=>?_)
             first
              | (have g1:=hp.ris m hlt3 (by omega);omega)
              | (have g2:=hbits.1 (by assumption)
                 refine g2 (fun a ha=>Pq.2 ?_);have g3:=hp.a m hlt3;have g4:a<s.acts.length:=AO (n:=t) (by omega) (by simpa [hasA,ht] using ha);exact ⟨by omega,hp.has m hlt3 a g4 ha⟩))
          | (refine hN3 (m+1) _ (by omega) ⟨by omega,Ae hall3 ⟨⟨by omega,?_⟩,fun _=>by omega⟩,?_⟩
             ·exact Classical.byContradiction fun hc=>by have:=hbits.2 hc;simp_all
             ·simp only [go_sem,↓reduceIte,↓Aa])
      ·subst hQ3;simp only [go_sem,↓reduceIte,↓Aa,Int.ofNat_lt,hlt3,Ab hlt (show s.S.length≤1000000000 by omega)];have hml:m=x.A.length:=by omega
       refine hN (i+1) _ (by omega) ⟨by omega,Ae hall ?_,a+1,0,?_⟩
       ·rw [hx];refine ⟨hXn,fun k hk=>?_,fun k hk=>(hall3 k (by omega)).2,fun k hk=>hall2 k (by omega),fun k hk b hb hh=>(Pq.1 ((hall3 k (by omega)).1.2 b hh)).2⟩;obtain ⟨g1,g2⟩:=(hall3 k (by omega)).1;refine ⟨g1,?_⟩;have:x.A[k]!.toNat<2 ^ s.acts.length:=lt_of_bits fun b hb=>by have:=(Pq.1 (g2 b hb)).1;omega
        omega
       ·simp only [go_sem,↓reduceIte,↓Aa]
     ·exact ⟨by omega,by simp,by simp only [go_sem,↓reduceIte,↓Aa]⟩
   ·exact ⟨by omega,by simp,by simp only [go_sem,↓reduceIte,↓Aa,canN,bitsN]⟩
  ·subst hQ;simp only [go_sem,↓reduceIte,↓Aa,Int.ofNat_lt,hlt];rw [decide_eq_true ⟨hacts,by omega,by omega,fun j hj=>hall j (by omega)⟩]
 ·exact ⟨by omega,by simp,0,0,by simp only [go_sem,↓reduceIte,↓Aa]⟩
section
variable {fr:Bool}{roots:List Nat}{b:Nat}{ss:List Nat}{σ:St}{k:AV→St→Prop}
open Classical in
theorem AbD {s:Spc}(h:SpSz s)(hI:SpI s):callT G Co [.agg [.lst (s.acts.map .str),.lst (s.S.map eSt)]] fr roots b ss σ k=k (Bo (decide (FY s))) σ:=(Ai5 s h hI).rule
open Classical in
theorem AgN {s:Spc}(h:SpSz s):callT G Jw [.agg [.lst (s.acts.map .str),.lst (s.S.map eSt)]] fr roots b ss σ k=k (Bo (decide (FY s))) σ:=(Aiy s h).rule
end
end Go.Mw
