/- Hollow states: what they are, and how the reference finds them. -/
import Derived.Test.YtondemeliogjmaaGreatM19
set_option linter.unusedVariables false
set_option linter.unusedSimpArgs false
namespace Go.Mw
set_option maxRecDepth 100000
def hasA (set:Int)(a:Nat):Bool:=set.toNat.testBit a
def Dies (x:Stt)(P:Nat→Prop)(set:Int):Prop:=∃a<x.X.length,0≤x.X[a]!∧hasA set a=true∧P x.X[a]!.toNat
def AllDie (x:Stt)(P:Nat→Prop):Prop:=∀i<x.A.length,Dies x P x.A[i]!
def P5 (s:Spc)(P:Nat→Prop):Prop:=∀x<s.S.length,AllDie s.S[x]! P→P x
def Hol (s:Spc)(x:Nat):Prop:=x<s.S.length∧∀P,P5 s P→P x
theorem Dies.mono {x:Stt}{P Q:Nat→Prop}{set:Int}(h:Dies x P set)(hq:∀k,P k→Q k):Dies x Q set:=by
 obtain ⟨a,h1,h2,h3,h4⟩:=h;exact ⟨a,h1,h2,h3,hq _ h4⟩
theorem AllDie.mono {x:Stt}{P Q:Nat→Prop}(h:AllDie x P)(hq:∀k,P k→Q k):AllDie x Q:=fun i hi=>(h i hi).mono hq
theorem Hol.closed (s:Spc):P5 s (Hol s):=fun x hx h=>⟨hx,fun P hP=>hP x hx (h.mono fun k hk=>hk.2 P hP)⟩
theorem Ab5 {s:Spc}{P:Nat→Prop}(h1:∀x<s.S.length,P x→Hol s x)(h2:P5 s P){x:Nat}(hx:x<s.S.length):P x↔Hol s x:=⟨h1 x hx,fun h=>h.2 P h2⟩
def inB (l:List Bool)(x:Nat):Prop:=l[x]! = true
structure StB (z:Stt)(n:Nat):Prop where
 a:∀i<z.A.length,0≤z.A[i]!∧z.A[i]! < 2 ^ 62
 x:∀i<z.X.length,z.X[i]! < (n:Int)
 la:z.A.length≤1048576
 lx:z.X.length≤1048576
theorem StB.nat {x:Stt}{n:Nat}(h:StB x n){i:Nat}(hi:i<x.A.length):∃k:Nat,x.A[i]! = k∧k<2 ^ 62:=by
 have:=h.a i hi;exact ⟨x.A[i]!.toNat,by omega,by omega⟩
open Classical in
theorem Af3 (x:Stt)(set:Nat)(hs:set<2 ^ 62)(l:List Bool)(h:StB x l.length):FnT G DM [eSt x,I set,.lst (l.map Bo)] (Bo (decide (Dies x (inB l) set))):=by
 refine FnP.mk' XS rfl rfl ?_;have hX:=h.lx;simp only [go_sem,↓reduceIte,↓Aa,P6,eSt];refine Ad (fun (i:Nat) σ=>i≤x.X.length∧(∀a<i,¬(0≤x.X[a]!∧hasA set a=true∧inB l x.X[a]!.toNat))∧σ=⟨aT .undef 31 [(1,I set),(2,.lst (l.map Bo)),(10,.lst (x.X.map I)),(11,I x.X.length),(12,I i)],[⟨1,0,.own 2 [.agg [.lst (x.A.map I),.lst (x.X.map I)]]⟩],[]⟩) (fun i=>x.X.length-i) ?_ 0 ?_
 ·rintro i σ ⟨hi,hall,rfl⟩ N Q hQ hN;by_cases hlt:i<x.X.length
  ·have hb:=h.x i hlt;simp only [go_sem,↓reduceIte,↓Aa,Ab hlt (by omega),Int.ofNat_lt,hlt,Ac4 (show set<2 ^ 63 by omega)]
   (repeat' (first|intro _|refine And.intro ?_ ?_))<;>first
     | omega
     | (subst hQ;simp only [go_sem,↓reduceIte,↓Aa];rw [decide_eq_true];exact ⟨i,hlt,by assumption,by simpa [hasA] using (by assumption:set.testBit i=true),by assumption⟩)
     | (refine hN (i+1) _ (by omega) ⟨by omega,Ae hall (by rintro ⟨h1,h2,h3⟩;simp only [hasA,Int.toNat_natCast] at h2;unfold inB at h3;first|omega|simp_all),?_⟩;simp only [go_sem,↓reduceIte,↓Aa])
  ·have:i=x.X.length:=by omega
   subst this hQ;simp only [go_sem,↓reduceIte,↓Aa,Int.ofNat_lt,hlt];rw [decide_eq_false];rintro ⟨a,h1,h2⟩;exact hall a h1 h2
 ·exact ⟨by omega,by simp,by simp only [go_sem,↓reduceIte,↓Aa]⟩
section
open Classical in
theorem Ado {x:Stt}{set:Nat}{l:List Bool}(hs:set<2 ^ 62)(h:StB x l.length){fr:Bool}{roots:List Nat}{b:Nat}{ss:List Nat}{σ:St}{k:AV→St→Prop} :
 callT G DM [.agg [.lst (x.A.map I),.lst (x.X.map I)],I set,.lst (l.map Bo)] fr roots b ss σ k=k (Bo (decide (Dies x (inB l) set))) σ:=(Af3 x set hs l h).rule
end
open Classical in
theorem allFall_ok (x:Stt)(l:List Bool)(h:StB x l.length):FnT G C6 [eSt x,.lst (l.map Bo)] (Bo (decide (AllDie x (inB l)))):=by
 refine FnP.mk' TQ rfl rfl ?_;have hA:=h.la;simp only [go_sem,↓reduceIte,↓Aa,MO,eSt];refine Ad (fun (i:Nat) σ=>i≤x.A.length∧(∀j<i,Dies x (inB l) x.A[j]!)∧σ=⟨aT .undef 20 [(1,.lst (l.map Bo)),(2,.ptr 0 1 [] 0 0 0),(8,.lst (x.A.map I)),(9,I x.A.length),(10,I i)],[⟨1,0,.own 2 [.agg [.lst (x.A.map I),.lst (x.X.map I)]]⟩],[]⟩) (fun i=>x.A.length-i) ?_ 0 ?_
 ·rintro i σ ⟨hi,hall,rfl⟩ N Q hQ hN;by_cases hlt:i<x.A.length
  ·obtain ⟨s,e,hs⟩:=h.nat hlt;simp only [go_sem,↓reduceIte,↓Aa,Ab hlt (by omega),Int.ofNat_lt,hlt,e,Ado hs h];refine ⟨fun hd=>?_,fun hd=>?_⟩
   rotate_left
   ·refine hN (i+1) _ (by omega) ⟨by omega,Ae hall (by rw [e];simpa using hd),?_⟩;simp only [go_sem,↓reduceIte,↓Aa]
   ·subst hQ;simp only [go_sem,↓reduceIte,↓Aa];rw [decide_eq_false];intro ha;have:=ha i hlt;rw [e] at this;simp_all
  ·have:i=x.A.length:=by omega
   subst this hQ;simp only [go_sem,↓reduceIte,↓Aa,Int.ofNat_lt,hlt];rw [decide_eq_true (show AllDie x (inB l) from hall)]
 ·exact ⟨by omega,by simp,by simp only [go_sem,↓reduceIte,↓Aa]⟩
open Classical in
theorem Ad7 {x:Stt}{l:List Bool}(h:StB x l.length){fr:Bool}{roots:List Nat}{b:Nat}{ss:List Nat}{σ:St}{k:AV→St→Prop} :
 callT G C6 [.agg [.lst (x.A.map I),.lst (x.X.map I)],.lst (l.map Bo)] fr roots b ss σ k=k (Bo (decide (AllDie x (inB l)))) σ:=(allFall_ok x l h).rule
structure SpB (s:Spc):Prop where
 sz:s.S.length≤1048576
 st:∀i<s.S.length,StB s.S[i]! s.S.length
def outN (l:List Bool):Nat:=(l.filter fun b => !b).length
theorem MP {l:List Bool}{i:Nat}(hi:i<l.length)(h:l[i]! = false):outN (l.set i true)+1=outN l:=by
 induction l generalizing i with
 | nil=>simp at hi
 | cons b l ih =>
   cases i with
   | zero=>simp at h;subst h;simp [outN]
   | succ i =>
     have:=ih (i:=i) (by simpa using hi) (by simpa using h);cases b<;>simp_all [outN]<;>omega
theorem AfF {l:List Bool}{i j:Nat}:(l.set i true)[j]! = if i=j∧i<l.length then true else l[j]!:=by
 simp only [List.getElem!_eq_getElem?_getD,List.getElem?_set];by_cases h:i=j
 ·subst h;by_cases h2:i<l.length
  ·simp [h2]
  ·simp [h2]
 ·simp [h]
open Classical in
noncomputable def Cp (s:Spc):List Bool:=(List.range s.S.length).map fun x=>decide (Hol s x)
open Classical in
theorem AhR {s:Spc}{l:List Bool}(hl:l.length=s.S.length)(h1:∀x<s.S.length,inB l x→Hol s x)(h2:P5 s (inB l)):l=Cp s:=by
 apply List.ext_getElem (by simp [Cp,hl]);intro i hi hi2;have hi3:i<s.S.length:=by omega
 have:=Ab5 h1 h2 hi3;unfold inB at this;rw [getElem!_pos l i hi] at this;simp only [Cp,List.getElem_map,List.getElem_range];cases hb:l[i]<;>simp_all
theorem Kh {l:List Bool}{i:Nat}{v:Bool}:(l.map Bo).set i (.bool v)=(l.set i v).map Bo:=by rw [List.map_set]
theorem AllDieB {x:Stt}{n:Nat}{P Q:Nat→Prop}(h:AllDie x P)(hb:StB x n)(hq:∀k<n,P k→Q k):AllDie x Q:=by
 intro i hi;obtain ⟨a,h1,h2,h3,h4⟩:=h i hi;exact ⟨a,h1,h2,h3,hq _ (by have:=hb.x a h1;omega) h4⟩
open Classical in
theorem Zt (s:Spc)(h:SpB s):Fn G CR [eSp s] (.lst ((Cp s).map Bo)):=by
 refine FnP.mk' Ur rfl rfl ?_;have hS:=h.sz;simp only [go_sem,↓reduceIte,↓Aa,N9,eSp];refine ⟨by omega,?_⟩;refine Ad (fun (g:List Bool×Bool) σ=>g.1.length=s.S.length∧(∀x<s.S.length,inB g.1 x→Hol s x)∧(g.2=false→P5 s (inB g.1))∧∃a c,σ=⟨aT .undef 35 [(1,.ptr 0 1 [] 0 0 0),(3,.sl 1 1 [] 0 0 s.S.length),(4,Bo g.2)],[⟨1,0,.own 2 [.agg [.lst (s.acts.map .str),.lst (s.S.map eSt)]]⟩,⟨1,0,.own 1 (g.1.map Bo)⟩,⟨a,c,.gone⟩],[]⟩) (fun g=>outN g.1+outN g.1+if g.2 then 1 else 0) ?_ (List.replicate s.S.length false,true) ?_
 ·rintro ⟨l,ag⟩ σ ⟨hl,hin,hcl,a,c,rfl⟩ N Q hQ hN;simp only at hl hin hcl;cases ag with
  | false =>
    subst hQ;simp only [go_sem,↓reduceIte,↓Aa];rw [←AhR hl hin (hcl rfl)];rw [if_pos (by omega),←hl,←List.length_map (f:=Bo),List.take_length];simp only [go_sem,↓reduceIte,↓Aa,List.map_map];rfl
  | true =>
    simp only [go_sem,↓reduceIte,↓Aa];refine Ad (fun (g:Nat×List Bool×Bool) σ=>g.1≤s.S.length∧g.2.1.length=s.S.length∧(∀x<s.S.length,inB g.2.1 x→Hol s x)∧(g.2.2=false→g.2.1=l∧∀x<g.1,AllDie s.S[x]! (inB l)→inB l x)∧(g.2.2=true→outN g.2.1<outN l)∧∃a c,σ=⟨aT .undef 35 [(1,.ptr 0 1 [] 0 0 0),(3,.sl 1 1 [] 0 0 s.S.length),(4,Bo g.2.2),(13,.lst (s.S.map eSt)),(14,I s.S.length),(15,I g.1)],[⟨1,0,.own 2 [.agg [.lst (s.acts.map .str),.lst (s.S.map eSt)]]⟩,⟨1,0,.own 1 (g.2.1.map Bo)⟩,⟨a,c,.gone⟩],[]⟩) (fun g=>s.S.length-g.1) ?_ (0,l,false) ?_
    ·rintro ⟨i,l1,ag⟩ σ ⟨hi,hl1,hin1,hno,hye,a,c,rfl⟩ N2 Q2 hQ2 hN2;simp only at hi hl1 hin1 hno hye;by_cases hlt:i<s.S.length
     ·have hst:=h.st i hlt;simp only [go_sem,↓reduceIte,↓Aa,eSt,Ab hlt (by omega),Int.ofNat_lt,hlt,hl1];simp only [go_sem,↓reduceIte,↓Aa,Ad7 (show StB s.S[i]! l1.length by rw [hl1];exact hst),Kh,Ab hlt (show s.S.length≤1000000000 by omega),hl1,Int.ofNat_lt,hlt];refine ⟨fun hb=>⟨fun hd=>?_,fun hd=>?_⟩,fun hb=>?_⟩
      ·refine hN2 (i+1,l1.set i true,true) _ (by simp only;omega) ⟨by simp only;omega,by simpa using hl1,fun x hx hix=>?_,(by intro h;cases h),fun _=>?_,a+1,0,?_⟩
       ·simp only [inB,AfF] at hix;split at hix
        ·rename_i hc;rw [←hc.1];exact Hol.closed s i hlt (AllDieB hd hst hin1)
        ·exact hin1 x hx hix
       ·simp only;have h1:=MP (l:=l1) (i:=i) (by omega) hb;cases ag with
        | true=>have:=hye rfl;omega
        | false=>rw [(hno rfl).1] at h1 ⊢;omega
       ·simp only [go_sem,↓reduceIte,↓Aa]
      ·refine hN2 (i+1,l1,ag) _ (by simp only;omega) ⟨by simp only;omega,hl1,hin1,fun h=>⟨(hno h).1,Ae (hno h).2 (fun hd2=>?_)⟩,hye,a+1,0,?_⟩
       ·rw [(hno h).1] at hd;simp_all
       ·simp only [go_sem,↓reduceIte,↓Aa]
      ·refine hN2 (i+1,l1,ag) _ (by simp only;omega) ⟨by simp only;omega,hl1,hin1,fun h=>⟨(hno h).1,Ae (hno h).2 (fun hd2=>?_)⟩,hye,a+1,0,?_⟩
       ·rw [(hno h).1] at hb;exact hb
       ·simp only [go_sem,↓reduceIte,↓Aa]
     ·have hil:i=s.S.length:=by omega
      subst hQ2;simp only [go_sem,↓reduceIte,↓Aa,Int.ofNat_lt,hlt];refine hN (l1,ag) _ ?_ ⟨hl1,hin1,fun h=>?_,a,c,?_⟩
      ·simp only;cases ag with
       | true=>have:=hye rfl;simp;omega
       | false=>rw [(hno rfl).1];simp
      ·obtain ⟨e1,e2⟩:=hno h;simp only [e1];rw [hil] at e2;exact e2
      ·simp only [go_sem,↓reduceIte,↓Aa]
    ·exact ⟨by simp,hl,hin,fun _=>⟨rfl,fun x hx=>absurd hx (by simp)⟩,(by intro h;cases h),a,c,by simp only [go_sem,↓reduceIte,↓Aa]⟩
 ·refine ⟨by simp,fun x hx h=>?_,(by intro h;cases h),0,0,?_⟩
  ·simp only [inB,List.getElem!_eq_getElem?_getD,List.getElem?_replicate] at h;split at h<;>simp at h
  ·simp only [go_sem,↓reduceIte,↓Aa,List.map_replicate]
open Classical in
theorem Po {s:Spc}(h:SpB s){roots:List Nat}{b:Nat}{ss:List Nat}{σ:St}{k:AV→St→Prop} :
 callT G CR [.agg [.lst (s.acts.map .str),.lst (s.S.map eSt)]] true roots b ss σ k=k (.lst ((Cp s).map Bo)) σ:=(Zt s h).rule
theorem Akt {α:Type}[Inhabited α]{l:List α}{i j:Nat}{v:α}:(l.set i v)[j]! = if i=j∧i<l.length then v else l[j]!:=by
 simp only [List.getElem!_eq_getElem?_getD,List.getElem?_set];by_cases h:i=j
 ·subst h;by_cases h2:i<l.length
  ·simp [h2]
  ·simp [h2]
 ·simp [h]
theorem LN {α:Type}[Inhabited α]{l:List α}{i j:Nat}{v:α}(h:i<l.length):(l.set i v)[j]! = if i=j then v else l[j]!:=by
 rw [Akt];by_cases e:i=j
 ·rw [if_pos ⟨e,h⟩,if_pos e]
 ·rw [if_neg (fun h=>e h.1),if_neg e]
theorem Akv {α:Type}[Inhabited α]{l k:List α}{j:Nat}:(l++k)[j]! = if j<l.length then l[j]! else k[j-l.length]!:=by
 simp only [List.getElem!_eq_getElem?_getD,List.getElem?_append];split<;>rfl
theorem Adf {l:List Bool}(h:outN l=0):∀i<l.length,l[i]! = true:=by
 intro i hi;cases hb:l[i]! with
 | true=>rfl
 | false=>have:=MP hi hb;omega
theorem Agy {l:List Bool}{i:Nat}(hi:i<l.length)(h:l[i]! = false):1≤outN l:=by have:=MP hi h;omega
theorem AfD {n:Nat}:outN (List.replicate n false)=n:=by simp [outN,List.filter_replicate]
structure IsLad (s:Spc)(l:List Nat):Prop where
 lt:∀x∈l,x<s.S.length
 nd:l.Nodup
 up:∀j<l.length,AllDie s.S[l[j]!]! (· ∈ l.take j)
theorem IsLad.hol {s:Spc}{l:List Nat}(h:IsLad s l):∀x∈l,Hol s x:=by
 have key:∀n,∀j<l.length,j<n→Hol s l[j]!:=by
  intro n;induction n with
  | zero=>intro j _ h;omega
  | succ n ih =>
    intro j hj hn;refine Hol.closed s _ (h.lt _ ?_) ((h.up j hj).mono fun k hk=>?_)
    ·rw [getElem!_pos l j hj];exact List.getElem_mem hj
    ·obtain ⟨i,hi,e⟩:=List.mem_iff_getElem.1 hk;rw [List.getElem_take] at e;rw [List.length_take] at hi;have:=ih i (by omega) (by omega);rw [getElem!_pos l i (by omega),e] at this;exact this
 intro x hx;obtain ⟨j,hj,e⟩:=List.mem_iff_getElem.1 hx;have:=key (j+1) j hj (by omega);rw [getElem!_pos l j hj,e] at this;exact this
structure RungI (s:Spc)(left:List Nat)(dead:List (List Bool))(out:List Nat)(T:Nat)(C:Nat→Nat→Prop):Prop where
 ll:left.length=s.S.length
 dl:dead.length=s.S.length
 dx:∀x<s.S.length,dead[x]!.length=s.S[x]!.A.length
 lz:∀x<s.S.length,left[x]! = outN dead[x]!
 oo:∀x<s.S.length,x∈out↔left[x]! = 0
 tl:T≤out.length
 lad:IsLad s out
 sd:∀x<s.S.length,∀m<s.S[x]!.A.length,dead[x]![m]! = true→Dies s.S[x]! (· ∈ out.take T) s.S[x]!.A[m]!
 cp:∀x<s.S.length,∀a,C x a→∀m<s.S[x]!.A.length,hasA s.S[x]!.A[m]! a=true→dead[x]![m]! = true
theorem RungI.step {s:Spc}{left:List Nat}{dead:List (List Bool)}{out:List Nat}{T:Nat}{C:Nat→Nat→Prop}(h:RungI s left dead out T C){x m:Nat}(hx:x<s.S.length)(hm:m<s.S[x]!.A.length)
 (hf:dead[x]![m]! = false) (hd:Dies s.S[x]! (· ∈ out.take T) s.S[x]!.A[m]!) :
 RungI s (left.set x (left[x]! - 1)) (dead.set x (dead[x]!.set m true)) (if left[x]! - 1=0 then out++[x] else out) T C:=by
 have hxl:x<left.length:=by rw [h.ll];exact hx
 have hxd:x<dead.length:=by rw [h.dl];exact hx
 have hml:m<dead[x]!.length:=by rw [h.dx x hx];exact hm
 have hz:=h.lz x hx;have hs:=MP hml hf;have hne:x∉out:=fun hh=>by have:=(h.oo x hx).1 hh;omega
 have htk:(out++[x]).take T=out.take T:=by rw [List.take_append_of_le_length h.tl]
 have gd:∀y,(dead.set x (dead[x]!.set m true))[y]! = if x=y then dead[x]!.set m true else dead[y]!:=fun y=>LN hxd;have gl:∀y,(left.set x (left[x]! - 1))[y]! = if x=y then left[x]! - 1 else left[y]!:=fun y=>LN hxl;have gm:∀m',(dead[x]!.set m true)[m']! = if m=m' then true else dead[x]![m']!:=fun m'=>LN hml;have hsd:∀m'<s.S[x]!.A.length,(dead[x]!.set m true)[m']! = true→Dies s.S[x]! (· ∈ out.take T) s.S[x]!.A[m']!:=by
  intro m' hm' hh;rw [gm] at hh;split at hh
  ·rename_i e;subst e;exact hd
  ·exact h.sd x hx m' hm' hh
 refine ⟨by simp [h.ll],by simp [h.dl],fun y hy=>?_,fun y hy=>?_,fun y hy=>?_,?_,?_,fun y hy m' hm' hh=>?_,fun y hy a hC m' hm' hh=>?_⟩
 ·rw [gd];split
  ·rename_i e;subst e;rw [List.length_set];exact h.dx x hx
  ·exact h.dx y hy
 ·rw [gd,gl];split
  ·rename_i e;subst e;omega
  ·exact h.lz y hy
 ·rw [gl];by_cases e:x=y
  ·subst e;rw [if_pos rfl];split
   ·rename_i h0;exact ⟨fun _=>h0,fun _=>by simp only [List.mem_append,List.mem_singleton,or_true]⟩
   ·rename_i h0;exact ⟨fun h=>absurd h hne,fun h=>absurd h h0⟩
  ·rw [if_neg e,←h.oo y hy];split
   ·simp only [List.mem_append,List.mem_singleton];exact ⟨fun hh=>hh.resolve_right (fun e2=>e e2.symm),.inl⟩
   ·rfl
 ·have:=h.tl;split<;>simp<;>omega
 ·split
  ·rename_i h0;refine ⟨fun y hy=>?_,?_,fun j hj=>?_⟩
   ·simp only [List.mem_append,List.mem_singleton] at hy;rcases hy with hy|rfl
    ·exact h.lad.lt y hy
    ·exact hx
   ·rw [List.nodup_append];refine ⟨h.lad.nd,by simp,fun y hy z hz e=>?_⟩;simp only [List.mem_singleton] at hz;subst hz;subst e;exact hne hy
   ·rw [Akv];split
    ·rename_i hj2;rw [List.take_append_of_le_length (by omega)];exact h.lad.up j hj2
    ·rename_i hj2;have hj3:j=out.length:=by simp at hj;omega
     subst hj3;simp only [Nat.sub_self,List.take_left];have e0:([x]:List Nat)[0]! = x:=rfl;rw [e0];intro m' hm';have hall:outN (dead[x]!.set m true)=0:=by omega
     have:=Adf hall m' (by rw [List.length_set,h.dx x hx];exact hm');exact (hsd m' hm' this).mono fun k hk=>List.mem_of_mem_take hk
  ·exact h.lad
 ·have e2:∀P:Nat→Prop,(∀k,k∈out.take T→P k)→Dies s.S[y]! (· ∈ out.take T) s.S[y]!.A[m']!→Dies s.S[y]! P s.S[y]!.A[m']!:=fun P hP hd=>hd.mono hP;have e3:(if left[x]! - 1=0 then out++[x] else out).take T=out.take T:=by split<;>first|exact htk|rfl
  rw [e3];rw [gd] at hh;split at hh
  ·rename_i e;subst e;exact hsd m' hm' hh
  ·exact h.sd y hy m' hm' hh
 ·rw [gd];split
  ·rename_i e;subst e;rw [gm];split
   ·rfl
   ·exact h.cp x hx a hC m' hm' hh
  ·exact h.cp y hy a hC m' hm' hh
theorem RungI.fin {s:Spc}{left:List Nat}{dead:List (List Bool)}{out:List Nat}{C:Nat→Nat→Prop}(h:RungI s left dead out out.length C)
 (hC:∀x<s.S.length,∀a<s.S[x]!.X.length,0≤s.S[x]!.X[a]!→s.S[x]!.X[a]!.toNat∈out→C x a):IsLad s out∧∀x<s.S.length,x∈out↔Hol s x:=by
 refine ⟨h.lad,fun x hx=>Ab5 (P:=(· ∈ out)) (fun x _ hx=>h.lad.hol x hx) (fun x hx hd=>?_) hx⟩;show x∈out;rw [h.oo x hx,h.lz x hx];have:∀m<dead[x]!.length,dead[x]![m]! = true:=by
  intro m hm;rw [h.dx x hx] at hm;obtain ⟨a,h1,h2,h3,h4⟩:=hd m hm;exact h.cp x hx a (hC x hx a h1 h2 h4) m hm h3
 have key:∀l:List Bool,(∀m<l.length,l[m]! = true)→outN l=0:=by
  intro l;induction l with
  | nil=>intro _;rfl
  | cons b l ih =>
    intro hh;have h0:=hh 0 (by simp);have h1:=ih (fun m hm=>by have:=hh (m+1) (by simpa using hm);simpa using this);simp at h0;subst h0;simpa [outN] using h1
 exact key _ this
theorem RungI.take {s:Spc}{left:List Nat}{dead:List (List Bool)}{out:List Nat}{T T':Nat}{C C':Nat→Nat→Prop}(h:RungI s left dead out T C)(hT:T≤T')(hl:T'≤out.length)(hC:∀x a,C' x a→C x a):RungI s left dead out T' C' :=
 ⟨h.ll,h.dl,h.dx,h.lz,h.oo,hl,h.lad,fun x hx m hm hd=>(h.sd x hx m hm hd).mono fun k hk=>by
  have:out.take T <+: out.take T':=by rw [show T=min T T' by omega,←List.take_take];exact List.take_prefix _ _
  exact this.subset hk,fun x hx a hc=>h.cp x hx a (hC x a hc)⟩
theorem L8 {b:Nat}{ks:List Nat}{h:List Ob}:freeSites b ks h=freeSites 0 (ks.map (b + ·)) h:=by
 simp only [freeSites,List.map_map];congr 1;apply List.map_congr_left;intro k _;simp
theorem Ahn {nt b:Nat}{L ks:List Nat}{d:AV}{l:List (Nat×AV)}{h:List Ob}{lp:List Lp}:NA (rest nt L) ks b ⟨aT d nt l,h,lp⟩=⟨aT .undef nt (L.map fun k=>(k,Kl d k l)),Jk (ks.map (b + ·)) 0 h,lp⟩:=by
 simp only [NA,MF aT_len,Ph];rw [L8,Fj]
attribute [go_sem] Ahn
def rowB (l:List Bool):AV:=.own 1 (l.map Bo)
def eN (a:Nat):AV:=I a
def PW (o0 o1:Ob)(z2:Nat)(left:List Nat)(o3:Ob)(z4:Nat)(dead:List (List Bool))(o5:Ob)(z6:Nat)(out:List Nat)(o7 o8 o9 o10 o11 o12 o13:Ob):List Ob :=
 [o0,o1,⟨1,z2,.own 1 [.own 1 (left.map eN)]⟩,o3,⟨1,z4,.own 1 [.own 1 (dead.map rowB)]⟩,o5,⟨1,z6,.own 1 [cellv .nils 1 (out.map eN)]⟩,o7,o8,o9,o10,o11,o12,o13]
theorem AeC {l:List Nat}{i v:Nat}:(l.map eN).set i (.int .i64 (v:Nat))=(l.set i v).map eN:=by rw [List.map_set];rfl
theorem Ti {l:List (List Bool)}{i:Nat}{v:List Bool}:(l.map rowB).set i (.own 1 (v.map Bo))=(l.set i v).map rowB:=by rw [List.map_set];rfl
theorem WY {l k:List Nat}{T:Nat}(h:l <+: k)(hT:T≤l.length):k.take T=l.take T:=by
 obtain ⟨r,rfl⟩:=h;rw [List.take_append_of_le_length hT]
theorem EC:∀ {n:Nat}{l:List Nat},l.Nodup→(∀x∈l,x<n)→l.length≤n:=by
 intro n;induction n with
 | zero =>
   intro l _ h;cases l with
   | nil=>simp
   | cons x l=>have:=h x (List.mem_cons_self ..);omega
 | succ n ih =>
   intro l hn h;have h1:(l.erase n).length≤n:=ih (hn.erase n) (fun x hx=>by
    have h2:=(hn.mem_erase_iff).1 hx;have:=h x h2.2;omega)
   have h2:=List.length_erase (a:=n) (l:=l);by_cases hm:n∈l
   ·rw [if_pos hm] at h2;omega
   ·rw [if_neg hm] at h2;omega
theorem lower_ok (s:Spc)(h:SpB s)(x a:Nat)(hx:x<s.S.length)(ha:a<s.S[x]!.X.length)(left:List Nat)(dead:List (List Bool))(out:List Nat)(T:Nat)(C:Nat→Nat→Prop)(hI:RungI s left dead out T C)
 (h0:0≤s.S[x]!.X[a]!) (hT:s.S[x]!.X[a]!.toNat∈out.take T)
 (z2 z4 z6:Nat) (o1 o3 o5 o7 o8 o9 o10 o11 o12 o13:Ob) (t:List AV) (K:AV→St→Prop)
 (hK:∀left' dead' out' z2 z4 z6,RungI s left' dead' out' T (fun x' a'=>C x' a'∨(x'=x∧a'=a))→out <+: out'→K (.tup []) ⟨t,PW ⟨1,0,.own 2 [.agg [.lst (s.acts.map .str),.lst (s.S.map eSt)]]⟩ o1 z2 left' o3 z4 dead' o5 z6 out' o7 o8 o9 o10 o11 o12 o13,[]⟩) :
 CO G Ca [I x,I a,.ptr 0 1 [] 0 0 0,.ptr 4 1 [] 0 0 0,.ptr 2 1 [] 0 0 0,.ptr 6 1 [] 0 0 0] 0 [] ⟨t,PW ⟨1,0,.own 2 [.agg [.lst (s.acts.map .str),.lst (s.S.map eSt)]]⟩ o1 z2 left o3 z4 dead o5 z6 out o7 o8 o9 o10 o11 o12 o13,[]⟩ K:=by
 have hst:=h.st x hx;have hS:=h.sz;have hA:=hst.la;refine Lk PO rfl ?_;rw [Jn (by simp)];simp only [go_sem,↓reduceIte,↓Aa,K2,PW,hx,Int.ofNat_lt,eSt];refine Ad (fun (m:Nat) σ=>m≤s.S[x]!.A.length∧∃left' dead' out',RungI s left' dead' out' T C∧out <+: out'∧(∀m'<m,hasA s.S[x]!.A[m']! a=true→dead'[x]![m']! = true)∧∃z2 z4 z6 a14 c14 a15 c15,σ=⟨aT .undef 59 [(0,I x),(1,I a),(3,.ptr 4 1 [] 0 0 0),(4,.ptr 2 1 [] 0 0 0),(5,.ptr 6 1 [] 0 0 0),(15,.lst (s.S[x]!.A.map I)),(16,I s.S[x]!.A.length),(17,I m)],
  PW ⟨1,0,.own 2 [.agg [.lst (s.acts.map .str),.lst (s.S.map eSt)]]⟩ o1 z2 left' o3 z4 dead' o5 z6 out' o7 o8 o9 o10 o11 o12 o13++[⟨a14,c14,.gone⟩,⟨a15,c15,.gone⟩],[]⟩) (fun m=>s.S[x]!.A.length-m) ?_ 0 ?_
 ·rintro m σ ⟨hm,left',dead',out',hI',hpre,hdone,z2,z4,z6,a14,c14,a15,c15,rfl⟩ N Q hQ hN;by_cases hlt:m<s.S[x]!.A.length
  ·obtain ⟨sn,e,hs⟩:=hst.nat hlt;have hxd:x<dead'.length:=by rw [hI'.dl];exact hx
   have hxl:x<left'.length:=by rw [hI'.ll];exact hx
   have hml:m<dead'[x]!.length:=by rw [hI'.dx x hx];exact hlt
   simp only [go_sem,↓reduceIte,↓Aa,PW,Ab hlt (by omega),Int.ofNat_lt,hlt,e,Xo (show sn<2 ^ 63 by omega),rowB,eN,hxd,hxl,hml,Kh,Ti];refine ⟨fun hb=>⟨fun hf=>?_,fun hf=>?_⟩,fun hb=>?_⟩
   ·have hz:=hI'.lz x hx;have hp:=Agy hml hf;have hzl:left'[x]!≤1048576:=by
     have h1:outN dead'[x]!≤dead'[x]!.length:=List.length_filter_le _ _;have h2:=hI'.dx x hx;omega
    have ew:IntKind.i64.wrap ((left'[x]! : Int)-1)=((left'[x]! - 1:Nat):Int):=by rw [L7]<;>omega
    have hdie:Dies s.S[x]! (· ∈ out'.take T) s.S[x]!.A[m]!:=by
     refine ⟨a,ha,h0,by rw [e];exact hb,?_⟩;rw [WY hpre hI.tl];exact hT
    have hst2:=hI'.step hx hlt hf hdie;have hgl:(left'.set x (left'[x]! - 1))[x]! = left'[x]! - 1:=by rw [LN hxl,if_pos rfl]
    have hol:out'.length≤1048576:=by
     have:=EC hI'.lad.nd hI'.lad.lt;omega
    simp only [go_sem,↓reduceIte,↓Aa,ew,AeC,hgl,hxl,List.length_set,eN];have gd:(dead'.set x (dead'[x]!.set m true))[x]! = dead'[x]!.set m true:=by rw [LN hxd,if_pos rfl]
    have hdn:∀m'<m+1,hasA s.S[x]!.A[m']! a=true→(dead'.set x (dead'[x]!.set m true))[x]![m']! = true:=by
     rw [gd];refine Ae (fun m' hm' hb'=>?_) (fun _=>by rw [LN hml,if_pos rfl]);rw [LN hml];split
     ·rfl
     ·exact hdone m' hm' hb'
    refine ⟨fun h2=>⟨by omega,?_⟩,fun h2=>?_⟩
    ·have h3:left'[x]! - 1=0:=by have:((left'[x]! - 1:Nat):Int)=0:=by simpa using h2
                                 omega
     rw [if_pos h3] at hst2;refine hN (m+1) _ (by omega) ⟨by omega,_,_,_,hst2,hpre.trans (List.prefix_append _ _),hdn,z2,z4,z6+1,a14+1,0,a15+1,0,?_⟩;simp only [go_sem,↓reduceIte,↓Aa,PW,Ab hlt (show s.S[x]!.A.length≤1000000000 by omega),List.map_append,eN]
    ·have h3:¬left'[x]! - 1=0:=by have:¬((left'[x]! - 1:Nat):Int)=0:=by simpa using h2
                                  omega
     rw [if_neg h3] at hst2;refine hN (m+1) _ (by omega) ⟨by omega,_,_,_,hst2,hpre,hdn,z2,z4,z6,a14,c14,a15,c15,?_⟩;simp only [go_sem,↓reduceIte,↓Aa,PW,Ab hlt (show s.S[x]!.A.length≤1000000000 by omega)]
   ·refine hN (m+1) _ (by omega) ⟨by omega,left',dead',out',hI',hpre,Ae hdone (fun _=>hf),z2,z4,z6,a14,c14,a15,c15,?_⟩;simp only [go_sem,↓reduceIte,↓Aa,PW]
   ·refine hN (m+1) _ (by omega) ⟨by omega,left',dead',out',hI',hpre,Ae hdone (fun hc=>?_),z2,z4,z6,a14,c14,a15,c15,?_⟩
    ·rw [e] at hc;unfold hasA at hc;rw [Int.toNat_natCast,hb] at hc;cases hc
    ·simp only [go_sem,↓reduceIte,↓Aa,PW]
  ·have hml:m=s.S[x]!.A.length:=by omega
   subst hQ;simp only [go_sem,↓reduceIte,↓Aa,PW,Int.ofNat_lt,hlt,Wg];have:=hK left' dead' out' z2 z4 z6 ⟨hI'.ll,hI'.dl,hI'.dx,hI'.lz,hI'.oo,hI'.tl,hI'.lad,hI'.sd,fun y hy a' hC m' hm' hh=>?_⟩ hpre
   ·simpa only [go_sem,PW,resT] using this
   ·rcases hC with hC|⟨rfl,rfl⟩
    ·exact hI'.cp y hy a' hC m' hm' hh
    ·exact hdone m' (by omega) hh
 ·exact ⟨by omega,left,dead,out,hI,List.prefix_refl _,fun m' hm'=>absurd hm' (by omega),z2,z4,z6,0,0,0,0,by simp only [go_sem,↓reduceIte,↓Aa,PW]⟩
def eN2 (p:Nat×Nat):AV:=.agg [eN p.1,eN p.2]
def rowP2 (l:List (Nat×Nat)):AV:=cellv .nils 2 (l.map eN2)
def O9 (s:Spc)(i x:Nat):AV:=if x<i then .own 1 ((List.replicate s.S[x]!.A.length false).map Bo) else .nils
def Mx (s:Spc)(i x:Nat):AV:=eN (if x<i then s.S[x]!.A.length else 0)
theorem Qz {n k:Nat}(h:k<n):(List.range n)[k]! = k:=by rw [getElem!_pos (List.range n) k (by simpa using h)];simp
theorem Aaf {s:Spc}{i:Nat}:O9 s i i = .nils:=by simp [O9]
theorem Aa6 {s:Spc}{i:Nat}:Mx s i i = .int .i64 0:=by simp [Mx,eN]
theorem Zc {s:Spc}{i:Nat}:Mx s (i+1) i=I s.S[i]!.A.length:=by simp [Mx,eN]
theorem Adz {s:Spc}{n i:Nat}:((List.range n).map (O9 s i)).set i (.own 1 (List.replicate s.S[i]!.A.length (.bool false)))=(List.range n).map (O9 s (i+1)):=by
 apply List.ext_getElem?;intro j;rw [List.getElem?_set];by_cases h:i=j
 ·subst h;by_cases hl:i<n<;>simp [hl,O9]
 ·by_cases hl:j<n
  ·have e:(j<i)=(j<i+1):=propext ⟨fun _=>by omega,fun _=>by omega⟩;simp [h,hl,O9,e]
  ·simp [h,hl]
theorem AdG {s:Spc}{n i:Nat}:((List.range n).map (Mx s i)).set i (.int .i64 s.S[i]!.A.length)=(List.range n).map (Mx s (i+1)):=by
 apply List.ext_getElem?;intro j;rw [List.getElem?_set];by_cases h:i=j
 ·subst h;by_cases hl:i<n<;>simp [hl,Mx,eN]
 ·by_cases hl:j<n
  ·have e:(j<i)=(j<i+1):=propext ⟨fun _=>by omega,fun _=>by omega⟩;simp [h,hl,Mx,e]
  ·simp [h,hl]
def out1 (s:Spc)(i:Nat):List Nat:=(List.range i).filter fun x=>s.S[x]!.A.length==0
theorem Ad5 {s:Spc}{i:Nat}:out1 s (i+1)=if s.S[i]!.A.length=0 then out1 s i++[i] else out1 s i:=by
 unfold out1;rw [List.range_succ,List.filter_append];by_cases h:s.S[i]!.A.length=0
 ·rw [if_pos h];congr 1;rw [List.filter_cons,if_pos (by rw [h];rfl)];rfl
 ·rw [if_neg h,List.filter_cons,if_neg (by simpa using h)];simp
theorem Afu {s:Spc}{i:Nat}:(out1 s i).length≤i:=by unfold out1;exact Nat.le_trans (List.length_filter_le _ _) (by simp)
theorem Ahd {xs:List AV}{i:Nat}{v:AV}{q:AV→Prop}:elK (xs.set i v) i q=(i<xs.length∧q v):=by
 unfold elK;rw [List.getElem?_set];by_cases h:i<xs.length<;>simp [h]
attribute [go_sem] Ahd  List.set_set
theorem map_setP {l:List (List (Nat×Nat))}{i:Nat}{v:List (Nat×Nat)}:(l.map rowP2).set i (cellv .nils 2 (v.map eN2))=(l.set i v).map rowP2:=by rw [List.map_set];rfl
structure Into (s:Spc)(into:List (List (Nat×Nat)))(i j:Nat):Prop where
 l:into.length=s.S.length
 m:∀y<s.S.length,∀x a,(x,a)∈into[y]!↔(x<i∨(x=i∧a<j))∧x<s.S.length∧a<s.S[x]!.X.length∧0≤s.S[x]!.X[a]!∧s.S[x]!.X[a]!.toNat=y
 c:∀y<s.S.length,into[y]!.length≤i*8+j
theorem Into.step {s:Spc}{into:List (List (Nat×Nat))}{i j y:Nat}(h:Into s into i j)(hi:i<s.S.length)(hj:j<s.S[i]!.X.length)(hy:s.S[i]!.X[j]! = y)(hyn:y<s.S.length):Into s (into.set y (into[y]!++[(i,j)])) i (j+1):=by
 have hl:=h.l;have g:∀z,(into.set y (into[y]!++[(i,j)]))[z]! = if y=z then into[y]!++[(i,j)] else into[z]!:=fun z=>LN (by omega);refine ⟨by rw [List.length_set];exact hl,fun z hz x a=>?_,fun z hz=>?_⟩
 ·rw [g];by_cases e:y=z
  ·subst e;rw [if_pos rfl,List.mem_append,h.m y hz,List.mem_singleton,Prod.mk.injEq];constructor
   ·rintro (⟨h1,h2⟩|⟨rfl,rfl⟩)
    ·exact ⟨by omega,h2⟩
    ·exact ⟨by omega,hi,hj,by omega,by omega⟩
   ·rintro ⟨h1,h2,h3,h4,h5⟩;rcases h1 with h1|⟨rfl,h1⟩
    ·exact .inl ⟨.inl h1,h2,h3,h4,h5⟩
    ·rcases Nat.lt_or_eq_of_le (Nat.le_of_lt_succ h1) with h6|rfl
     ·exact .inl ⟨.inr ⟨rfl,h6⟩,h2,h3,h4,h5⟩
     ·exact .inr ⟨rfl,rfl⟩
  ·rw [if_neg e,h.m z hz];constructor
   ·rintro ⟨h1,h2⟩;exact ⟨by omega,h2⟩
   ·rintro ⟨h1,h2,h3,h4,h5⟩;refine ⟨?_,h2,h3,h4,h5⟩;rcases h1 with h1|⟨rfl,h1⟩
    ·exact .inl h1
    ·rcases Nat.lt_or_eq_of_le (Nat.le_of_lt_succ h1) with h6|rfl
     ·exact .inr ⟨rfl,h6⟩
     ·omega
 ·rw [g];split
  ·rename_i e;subst e;have:=h.c y hz;simp only [List.length_append,List.length_singleton];omega
  ·have:=h.c z hz;omega
theorem Into.skip {s:Spc}{into:List (List (Nat×Nat))}{i j:Nat}(h:Into s into i j)(hy:¬0≤s.S[i]!.X[j]!):Into s into i (j+1):=by
 refine ⟨h.l,fun z hz x a=>?_,fun z hz=>by have:=h.c z hz;omega⟩;rw [h.m z hz];constructor
 ·rintro ⟨h1,h2⟩;exact ⟨by omega,h2⟩
 ·rintro ⟨h1,h2,h3,h4,h5⟩;refine ⟨?_,h2,h3,h4,h5⟩;rcases h1 with h1|⟨rfl,h1⟩
  ·exact .inl h1
  ·rcases Nat.lt_or_eq_of_le (Nat.le_of_lt_succ h1) with h6|rfl
   ·exact .inr ⟨rfl,h6⟩
   ·exact absurd h4 hy
theorem Into.next {s:Spc}{into:List (List (Nat×Nat))}{i:Nat}(h:Into s into i s.S[i]!.X.length)(h8:s.S[i]!.X.length≤8):Into s into (i+1) 0:=by
 refine ⟨h.l,fun z hz x a=>?_,fun z hz=>by have:=h.c z hz;omega⟩;rw [h.m z hz];constructor
 ·rintro ⟨h1,h2⟩;exact ⟨by omega,h2⟩
 ·rintro ⟨h1,h2,h3,h4,h5⟩;refine ⟨?_,h2,h3,h4,h5⟩;rcases h1 with h1|⟨_,h1⟩
  ·rcases Nat.lt_or_eq_of_le (Nat.le_of_lt_succ h1) with h6|rfl
   ·exact .inl h6
   ·exact .inr ⟨rfl,h3⟩
  ·omega
def ZU (s:Spc):List (List Bool):=(List.range s.S.length).map fun x=>List.replicate s.S[x]!.A.length false
def Abe (s:Spc):List Nat:=(List.range s.S.length).map fun x=>s.S[x]!.A.length
theorem Acq {s:Spc}:(List.range s.S.length).map (O9 s s.S.length)=(ZU s).map rowB:=by
 unfold ZU;rw [List.map_map];apply List.map_congr_left;intro x hx;simp only [List.mem_range] at hx;simp only [O9,hx,if_true,Function.comp,rowB]
theorem Adv {s:Spc}:(List.range s.S.length).map (Mx s s.S.length)=(Abe s).map eN:=by
 unfold Abe;rw [List.map_map];apply List.map_congr_left;intro x hx;simp only [List.mem_range] at hx;simp only [Mx,hx,if_true,Function.comp]
theorem T2 {α:Type}[Inhabited α]{f:Nat→α}{n x:Nat}(h:x<n):((List.range n).map f)[x]! = f x:=by
 rw [getElem!_pos _ x (by simpa using h)];simp
theorem Akg (s:Spc):RungI s (Abe s) (ZU s) (out1 s s.S.length) 0 (fun _ _=>False):=by
 have hd:∀x<s.S.length,(ZU s)[x]! = List.replicate s.S[x]!.A.length false:=fun x hx=>T2 hx;have hl:∀x<s.S.length,(Abe s)[x]! = s.S[x]!.A.length:=fun x hx=>T2 hx;refine ⟨by simp [Abe],by simp [ZU],fun x hx=>by rw [hd x hx];simp,fun x hx=>by rw [hd x hx,hl x hx,AfD],fun x hx=>?_,Nat.zero_le _,⟨fun x hx=>?_,?_,fun j hj=>?_⟩,fun x hx m hm hh=>?_,fun _ _ _ h=>h.elim⟩
 ·rw [hl x hx];unfold out1;rw [List.mem_filter,List.mem_range,beq_iff_eq];exact ⟨fun h=>h.2,fun h=>⟨hx,h⟩⟩
 ·unfold out1 at hx;rw [List.mem_filter,List.mem_range] at hx;exact hx.1
 ·exact List.nodup_range.filter _
 ·intro m hm;have h1:(out1 s s.S.length)[j]!∈out1 s s.S.length:=by rw [getElem!_pos _ j hj];exact List.getElem_mem hj
  have h2:s.S[(out1 s s.S.length)[j]!]!.A.length=0:=by
   generalize (out1 s s.S.length)[j]! = x at h1;unfold out1 at h1;rw [List.mem_filter,beq_iff_eq] at h1;exact h1.2
  omega
 ·rw [hd x hx] at hh;simp only [List.getElem!_eq_getElem?_getD,List.getElem?_replicate] at hh;split at hh<;>simp at hh
def AiA (l:List Nat)(rs:List AV)(h:List Ob):Prop:=(l = []∧rs = [.nils])∨l≠[]∧∃r st p ss,rs = [.sl r st p ss 0 (l.map eN).length]∧node h r st p ss=some (.own 1 (l.map eN))
theorem AeE {l:List Nat}{r st z:Nat}{h:List Ob}(h6:h[r]? = some ⟨st,z,.own 1 [cellv .nils 1 (l.map eN)]⟩):AiA l [On .nils 1 r st [(0,0)] z (l.map eN)] h:=by
 cases l with
 | nil=>exact .inl ⟨rfl,rfl⟩
 | cons x l =>
   refine .inr ⟨by simp,r,st,[(0,0)],z,rfl,?_⟩;simp only [node,h6];rfl
theorem Agq (s:Spc)(h:SpB s)(h8:∀i<s.S.length,s.S[i]!.X.length≤8):∃l:List Nat,IsLad s l∧(∀x<s.S.length,x∈l↔Hol s x)∧FnQ G Cv [eSp s] (fun rs h=>packV (treeBL 0 h rs) = .lst (l.map eN)∧AiA l rs h):=by
 suffices hs:FnQ G Cv [eSp s] (fun rs h=>∃l:List Nat,IsLad s l∧(∀x<s.S.length,x∈l↔Hol s x)∧packV (treeBL 0 h rs) = .lst (l.map eN)∧AiA l rs h) by
  obtain ⟨F,n,rs,σ1,e1,e2,e3,e4,e5,⟨l,h1,h2,h3⟩,e6⟩:=hs;exact ⟨l,h1,h2,F,n,rs,σ1,e1,e2,e3,e4,e5,h3,e6⟩
 refine FnQ.mk' Sr rfl rfl ?_;have hS:=h.sz;simp only [go_sem,↓reduceIte,↓Aa,Mz,eSp];refine ⟨by omega,by omega,by omega,?_⟩;refine Ad (fun (i:Nat) σ=>i≤s.S.length∧∃into,Into s into i 0∧∃z2 z4 z5 z6 a1 c1 a3 c3 a7 c7 a8 c8 a9 c9 a10 c10 a11 c11 a12 c12,σ=⟨aT .undef 106 [(1,.ptr 0 1 [] 0 0 0),(4,.ptr 2 1 [] 0 0 0),(5,.ptr 4 1 [] 0 0 0),(6,.sl 5 1 [] 0 0 s.S.length),(7,.ptr 6 1 [] 0 0 0),(26,.lst (s.S.map eSt)),(27,I s.S.length),(28,I i)],
  [⟨1,0,.own 2 [.agg [.lst (s.acts.map .str),.lst (s.S.map eSt)]]⟩,⟨a1,c1,.gone⟩,⟨1,z2,.own 1 [.own 1 ((List.range s.S.length).map (Mx s i))]⟩,⟨a3,c3,.gone⟩,⟨1,z4,.own 1 [.own 1 ((List.range s.S.length).map (O9 s i))]⟩,⟨1,z5,.own 1 (into.map rowP2)⟩,⟨1,z6,.own 1 [cellv .nils 1 ((out1 s i).map eN)]⟩,⟨a7,c7,.gone⟩,⟨a8,c8,.gone⟩,⟨a9,c9,.gone⟩,⟨a10,c10,.gone⟩,⟨a11,c11,.gone⟩,⟨a12,c12,.gone⟩,⟨0,0,.gone⟩],[]⟩) (fun i=>s.S.length-i) ?_ 0 ?_
 ·rintro i σ ⟨hi,into,hin,z2,z4,z5,z6,a1,c1,a3,c3,a7,c7,a8,c8,a9,c9,a10,c10,a11,c11,a12,c12,rfl⟩ N Q hQ hN;by_cases hlt:i<s.S.length
  ·have hst:=h.st i hlt;have hA:=hst.la;have hX:=hst.lx;have hol:=@Afu s i;simp only [go_sem,↓reduceIte,↓Aa,eSt,Ab hlt (by omega),Int.ofNat_lt,hlt,List.length_range,Qz hlt,Aaf,Aa6,Zc,Adz,AdG];refine ⟨by omega,?_⟩;have ho1:=@Ad5 s i;refine ⟨fun h0=>⟨by omega,?_⟩,fun h0=>?_⟩
   all_goals
    first
     | (have h1:=eq_of_beq h0;rw [if_pos (show s.S[i]!.A.length=0 by omega)] at ho1)
     | (have h1:=ne_of_beq_false h0;rw [if_neg (show ¬s.S[i]!.A.length=0 by omega)] at ho1)
    refine Ad (fun (j:Nat) σ=>j≤s.S[i]!.X.length∧∃into,Into s into i j∧∃z2 z4 z5 z6 a1 c1 a3 c3 a7 c7 o8 o9 o10 a11 c11 a12 c12,σ=⟨aT .undef 106 [(1,.ptr 0 1 [] 0 0 0),(4,.ptr 2 1 [] 0 0 0),(5,.ptr 4 1 [] 0 0 0),(6,.sl 5 1 [] 0 0 s.S.length),(7,.ptr 6 1 [] 0 0 0),(8,I i),(26,.lst (s.S.map eSt)),(27,I s.S.length),(28,I i),(56,.lst (s.S[i]!.X.map I)),(57,I s.S[i]!.X.length),(58,I j)],
     [⟨1,0,.own 2 [.agg [.lst (s.acts.map .str),.lst (s.S.map eSt)]]⟩,⟨a1,c1,.gone⟩,⟨1,z2,.own 1 [.own 1 ((List.range s.S.length).map (Mx s (i+1)))]⟩,⟨a3,c3,.gone⟩,⟨1,z4,.own 1 [.own 1 ((List.range s.S.length).map (O9 s (i+1)))]⟩,⟨1,z5,.own 1 (into.map rowP2)⟩,⟨1,z6,.own 1 [cellv .nils 1 ((out1 s (i+1)).map eN)]⟩,⟨a7,c7,.own 2 [.agg [.lst (s.S[i]!.A.map I),.lst (s.S[i]!.X.map I)]]⟩,o8,o9,o10,⟨a11,c11,.gone⟩,⟨a12,c12,.gone⟩,⟨0,0,.gone⟩],[]⟩) (fun j=>s.S[i]!.X.length-j) ?_ 0 ?_
    ·rintro j σ ⟨hj,into,hin,z2,z4,z5,z6,a1,c1,a3,c3,a7,c7,o8,o9,o10,a11,c11,a12,c12,rfl⟩ N2 Q2 hQ2 hN2;by_cases hlt2:j<s.S[i]!.X.length
     ·have hb:=hst.x j hlt2;have hil:=hin.l;by_cases h0:0≤s.S[i]!.X[j]!
      ·obtain ⟨y,hy⟩:∃y:Nat,s.S[i]!.X[j]! = y:=⟨s.S[i]!.X[j]!.toNat,by omega⟩;have hyn:y<s.S.length:=by omega
       have hyi:y<into.length:=by omega
       have hcl:=hin.c y hyn;simp only [go_sem,↓reduceIte,↓Aa,Ab hlt2 (by omega),Int.ofNat_lt,hlt2,hy,hyn,hyi,rowP2,eN2,eN];refine ⟨by omega,hN2 (j+1) _ (by omega) ⟨by omega,_,hin.step hlt hlt2 hy hyn,?_⟩⟩;simp only [go_sem,↓reduceIte,↓Aa,←map_setP,List.map_append,eN2,eN];repeat apply Exists.intro
       rfl
      ·simp only [go_sem,↓reduceIte,↓Aa,Ab hlt2 (by omega),Int.ofNat_lt,hlt2,h0];refine hN2 (j+1) _ (by omega) ⟨by omega,_,hin.skip h0,?_⟩;simp only [go_sem,↓reduceIte,↓Aa];repeat apply Exists.intro
       rfl
     ·have hjl:j=s.S[i]!.X.length:=by omega
      subst hjl hQ2;simp only [go_sem,↓reduceIte,↓Aa,Int.ofNat_lt,hlt2,Ab hlt (show s.S.length≤1000000000 by omega)];refine hN (i+1) _ (by omega) ⟨by omega,into,hin.next (h8 i hlt),?_⟩;simp only [go_sem,↓reduceIte,↓Aa];repeat apply Exists.intro
      rfl
    ·refine ⟨by omega,into,hin,?_⟩;simp only [go_sem,↓reduceIte,↓Aa,ho1,List.map_append,eN];repeat apply Exists.intro
     rfl
  ·have hil:i=s.S.length:=by omega
   subst hil hQ;simp only [go_sem,↓reduceIte,↓Aa,Int.ofNat_lt,hlt,Acq,Adv];refine Ad (fun (i:Nat) σ=>∃left dead out,RungI s left dead out i (fun x a=>x<s.S.length∧a<s.S[x]!.X.length∧0≤s.S[x]!.X[a]!∧s.S[x]!.X[a]!.toNat∈out.take i)∧∃z2 z4 z6 o1 o3 o7 o8 o9 o10 o11 o12 a13 c13,σ=⟨aT .undef 106 [(6,.sl 5 1 [] 0 0 s.S.length),(7,.ptr 6 1 [] 0 0 0),(12,.fn Ca [.ptr 0 1 [] 0 0 0,.ptr 4 1 [] 0 0 0,.ptr 2 1 [] 0 0 0,.ptr 6 1 [] 0 0 0]),(13,I i)],
    PW ⟨1,0,.own 2 [.agg [.lst (s.acts.map .str),.lst (s.S.map eSt)]]⟩ o1 z2 left o3 z4 dead ⟨1,z5,.own 1 (into.map rowP2)⟩ z6 out o7 o8 o9 o10 o11 o12 ⟨a13,c13,.gone⟩,[]⟩) (fun i=>s.S.length+1-i) ?_ 0 ?_
   ·rintro i σ ⟨left,dead,out,hI,z2,z4,z6,o1,o3,o7,o8,o9,o10,o11,o12,a13,c13,rfl⟩ N Q hQ hN;have hol:=EC hI.lad.nd hI.lad.lt;have hcase:(i:Int)<((out.map eN).length:Int)↔i<out.length:=by rw [List.length_map];omega
    by_cases hlt:i<out.length
    ·have hne:¬out.map eN = []:=by intro h;rw [List.map_eq_nil_iff] at h;subst h;simp at hlt
     have hmem:out[i]!∈out:=by rw [getElem!_pos out i hlt];exact List.getElem_mem hlt
     have hyn:=hI.lad.lt _ hmem;have hyi:out[i]! < into.length:=by rw [hin.l];exact hyn
     have hcl:=hin.c _ hyn;simp only [go_sem,↓reduceIte,↓Aa,PW,Int.ofNat_lt,hlt,hne,eN,hyi,hyn,rowP2];refine Ad (fun (k:Nat) σ=>k≤into[out[i]!]!.length∧∃left' dead' out',out <+: out'∧RungI s left' dead' out' (i+1) (fun x a=>(x<s.S.length∧a<s.S[x]!.X.length∧0≤s.S[x]!.X[a]!∧s.S[x]!.X[a]!.toNat∈out.take i)∨(x,a)∈(into[out[i]!]!).take k)∧∃z2 z4 z6 o1 o3 o7 o8 o9 o10 o11 o12 a13 c13,σ=⟨aT .undef 106 [(6,.sl 5 1 [] 0 0 s.S.length),(7,.ptr 6 1 [] 0 0 0),(12,.fn Ca [.ptr 0 1 [] 0 0 0,.ptr 4 1 [] 0 0 0,.ptr 2 1 [] 0 0 0,.ptr 6 1 [] 0 0 0]),(13,I i),(92,On .nils 2 5 1 [(out[i]!,0)] z5 (into[out[i]!]!.map eN2)),(93,I into[out[i]!]!.length),(94,I k)],
      PW ⟨1,0,.own 2 [.agg [.lst (s.acts.map .str),.lst (s.S.map eSt)]]⟩ o1 z2 left' o3 z4 dead' ⟨1,z5,.own 1 (into.map rowP2)⟩ z6 out' o7 o8 o9 o10 o11 o12 ⟨a13,c13,.gone⟩,[]⟩) (fun k=>into[out[i]!]!.length-k) ?_ 0 ?_
     ·rintro k σ ⟨hk,left',dead',out',hpre,hI',z2,z4,z6,o1,o3,o7,o8,o9,o10,o11,o12,a13,c13,rfl⟩ N2 Q2 hQ2 hN2;by_cases hlt2:k<into[out[i]!]!.length
      ·have hne2:¬into[out[i]!]!.map eN2 = []:=by intro h;rw [List.map_eq_nil_iff] at h;rw [h] at hlt2;simp at hlt2
       simp only [go_sem,↓reduceIte,↓Aa,PW,Int.ofNat_lt,hlt2,Ab hlt2 (by omega),hne2,hyi,rowP2,eN2,eN];have hpm:(into[out[i]!]![k]!.1,into[out[i]!]![k]!.2)∈into[out[i]!]!:=by rw [getElem!_pos into[out[i]!]! k hlt2];exact List.getElem_mem hlt2
       obtain ⟨_,p2,p3,p4,p5⟩:=(hin.m _ hyn _ _).1 hpm;have hout:out[i]!∈out'.take (i+1):=by
        obtain ⟨r,rfl⟩:=hpre;rw [List.take_append_of_le_length (by omega),List.take_succ_eq_append_getElem hlt,getElem!_pos out i hlt];exact List.mem_append_right _ (List.mem_singleton_self _)
       refine lower_ok s h _ _ p2 p3 left' dead' out' (i+1) _ hI' p4 (by rw [p5];exact hout) z2 z4 z6 o1 o3 _ o7 o8 o9 o10 o11 o12 _ _ _ ?_;intro left2 dead2 out2 z2 z4 z6 hI2 hpre2;simp only [go_sem,↓reduceIte,↓Aa,PW,Ab hlt2 (by omega)];refine hN2 (k+1) _ (by omega) ⟨by omega,left2,dead2,out2,hpre.trans hpre2,hI2.take (Nat.le_refl _) hI2.tl (fun x a hxa=>?_),?_⟩
       ·rcases hxa with hxa|hxa
        ·exact .inl (.inl hxa)
        ·rw [List.take_succ_eq_append_getElem hlt2,List.mem_append,List.mem_singleton] at hxa;rcases hxa with hxa|hxa
         ·exact .inl (.inr hxa)
         ·rw [getElem!_pos into[out[i]!]! k hlt2];right;rw [←hxa];exact ⟨rfl,rfl⟩
       ·simp only [go_sem,↓reduceIte,↓Aa,PW];repeat apply Exists.intro
        rfl
      ·have hkl:k=into[out[i]!]!.length:=by omega
       have hol2:=EC hI'.lad.nd hI'.lad.lt;have hpl:=hpre.length_le;subst hQ2;simp only [go_sem,↓reduceIte,↓Aa,PW,Int.ofNat_lt,hlt2,Ab (show i<s.S.length by omega) (show s.S.length≤1000000000 by omega)];refine hN (i+1) _ (by omega) ⟨left',dead',out',hI'.take (Nat.le_refl _) (by omega) (fun x a hxa=>?_),?_⟩
       ·obtain ⟨h0,h1,h2,h3⟩:=hxa;obtain ⟨r,rfl⟩:=hpre;rw [List.take_append_of_le_length (by omega),List.take_succ_eq_append_getElem hlt,List.mem_append,List.mem_singleton] at h3;rcases h3 with h3|h3
        ·exact .inl ⟨h0,h1,h2,h3⟩
        ·right;rw [hkl,List.take_length,hin.m _ hyn];exact ⟨.inl h0,h0,h1,h2,by rw [h3,getElem!_pos out i hlt]⟩
       ·simp only [go_sem,↓reduceIte,↓Aa,PW];repeat apply Exists.intro
        rfl
     ·refine ⟨by omega,left,dead,out,List.prefix_refl _,hI.take (by omega) (by omega) (fun x a hxa=>?_),?_⟩
      ·rcases hxa with hxa|hxa
       ·exact hxa
       ·simp at hxa
      ·simp only [go_sem,↓reduceIte,↓Aa,PW,rowP2];repeat apply Exists.intro
       rfl
    ·simp only [go_sem,↓reduceIte,↓Aa,PW,Int.ofNat_lt,hlt];subst hQ;simp only [go_sem,↓reduceIte,↓Aa];have hio:i=out.length:=by have:=hI.tl;omega
     subst hio;obtain ⟨g1,g2⟩:=hI.fin (fun x hx a ha h0 hm=>⟨hx,ha,h0,by rw [List.take_length];exact hm⟩);exact ⟨out,g1,g2,by first|rfl|(rw [List.map_map];rfl),AeE rfl⟩
   ·refine ⟨Abe s,ZU s,out1 s s.S.length,(Akg s).take (Nat.le_refl _) (Nat.zero_le _) (by rintro x a ⟨_,_,_,h⟩;simp at h),?_⟩;simp only [go_sem,↓reduceIte,↓Aa,PW];repeat apply Exists.intro
    rfl
 ·refine ⟨by omega,List.replicate s.S.length [],⟨by simp,fun y hy x a=>?_,fun y hy=>?_⟩,1,1,0,0,1,0,1,0,0,0,0,0,0,0,0,0,0,0,0,0,?_⟩
  ·rw [getElem!_pos _ y (by simpa using hy)];simp
  ·rw [getElem!_pos _ y (by simpa using hy)];simp
  ·have e1:(List.range s.S.length).map (Mx s 0)=List.replicate s.S.length (AV.int .i64 0):=by
    apply List.ext_getElem (by simp);intro j h1 h2;simp [Mx,eN]
   have e2:(List.range s.S.length).map (O9 s 0)=List.replicate s.S.length AV.nils:=by
    apply List.ext_getElem (by simp);intro j h1 h2;simp [O9]
   have e3:(List.replicate s.S.length ([]:List (Nat×Nat))).map rowP2=List.replicate s.S.length AV.nils:=by
    apply List.ext_getElem (by simp);intro j h1 h2;simp [rowP2,cellv]
   simp only [go_sem,↓reduceIte,↓Aa,e1,e2,e3,out1,List.range_zero,List.filter_nil]
open Classical in
theorem Aal (s:Spc)(h:SpB s)(h8:∀i<s.S.length,s.S[i]!.X.length≤8):Fn G Cf [eSp s] (.lst ((Cp s).map Bo)):=by
 obtain ⟨l,hl,hm,hr⟩:=Agq s h h8;have hcall:∀ {roots:List Nat}{b:Nat}{σ:St}{k:AV→St→Prop},callT G Cv [.agg [.lst (s.acts.map .str),.lst (s.S.map eSt)]] true roots b [] σ k=k (.lst (l.map eN)) σ:=(hr.mono fun _ _ h=>h.1).rule;have hS:=h.sz;have hll:=EC hl.nd hl.lt;refine FnP.mk' Pz rfl rfl ?_;simp only [go_sem,↓reduceIte,↓Aa,La,eSp,hcall];refine ⟨by omega,?_⟩;refine Ad (fun (i:Nat) σ=>i≤l.length∧∃q:List Bool,q.length=s.S.length∧(∀x<s.S.length,q[x]! = true↔x∈l.take i)∧σ=⟨aT .undef 22 [(3,.sl 1 1 [] 0 0 s.S.length),(11,.lst (l.map eN)),(12,I l.length),(13,I i)],[⟨1,0,.own 2 [.agg [.lst (s.acts.map .str),.lst (s.S.map eSt)]]⟩,⟨1,0,.own 1 (q.map Bo)⟩],[]⟩) (fun i=>l.length-i) ?_ 0 ?_
 ·rintro i σ ⟨hi,q,hq,hqm,rfl⟩ N Q hQ hN;by_cases hlt:i<l.length
  ·have hx:l[i]! < s.S.length:=hl.lt _ (by rw [getElem!_pos l i hlt];exact List.getElem_mem hlt);simp only [go_sem,↓reduceIte,↓Aa,Int.ofNat_lt,hlt,Ab hlt (by omega),eN,hq,hx,Kh];refine hN (i+1) _ (by omega) ⟨by omega,q.set l[i]! true,by rw [List.length_set];exact hq,fun x hxn=>?_,?_⟩
   ·rw [LN (by omega),List.take_succ_eq_append_getElem hlt,List.mem_append,List.mem_singleton,←hqm x hxn,getElem!_pos l i hlt];split
    ·rename_i e;simp [e]
    ·rename_i e;exact ⟨.inl,fun h=>h.resolve_right (fun h=>e h.symm)⟩
   ·simp only [go_sem,↓reduceIte,↓Aa]
  ·have hil:i=l.length:=by omega
   subst hil hQ;simp only [go_sem,↓reduceIte,↓Aa,Int.ofNat_lt,hlt];have e:q=Cp s:=by
    apply List.ext_getElem (by simp [Cp,hq]);intro x hx hx2;have hx3:x<s.S.length:=by omega
    have:=hqm x hx3;rw [List.take_length,hm x hx3,getElem!_pos q x hx] at this;simp only [Cp,List.getElem_map,List.getElem_range];cases hb:q[x]<;>simp_all
   rw [if_pos (by omega),←hq,←List.length_map (f:=Bo),List.take_length,e];simp only [go_sem,↓reduceIte,↓Aa,List.map_map];rfl
 ·refine ⟨by omega,List.replicate s.S.length false,by simp,fun x hx=>?_,?_⟩
  ·simp [List.getElem!_eq_getElem?_getD,hx]
  ·simp only [go_sem,↓reduceIte,↓Aa,List.map_replicate]
open Classical in
theorem UI {s:Spc}(h:SpB s)(h8:∀i<s.S.length,s.S[i]!.X.length≤8){roots:List Nat}{b:Nat}{ss:List Nat}{σ:St}{k:AV→St→Prop} :
 callT G Cf [.agg [.lst (s.acts.map .str),.lst (s.S.map eSt)]] true roots b ss σ k=k (.lst ((Cp s).map Bo)) σ:=(Aal s h h8).rule
structure Ed where
 a:Int
 t:Int
 deriving Inhabited
structure Sys where
 acts:List ByteArray
 S:List (List Ed)
 deriving Inhabited
structure SySz (m:Sys):Prop where
 a:m.acts.length≤1048576
 s:m.S.length≤1048576
 e:∀i<m.S.length,m.S[i]!.length≤1048576
def Aku (d e:Ed):Bool:=decide (d.a<e.a∨d.a=e.a∧d.t<e.t)
def edOk (l:List Ed)(n st:Nat):Prop:=∀i<l.length,0≤l[i]!.a∧l[i]!.a<(n:Int)∧0≤l[i]!.t∧l[i]!.t<(st:Int)∧(0<i→Aku l[i-1]! l[i]! = true)
def sumE (m:Sys)(i:Nat):Nat:=((m.S.take i).map List.length).sum
structure SysOk (m:Sys):Prop where
 acts:actsOk m.acts=true
 s1:1≤m.S.length
 s2:m.S.length≤5000
 ed:∀i<m.S.length,edOk m.S[i]! m.acts.length m.S.length
 sum:sumE m m.S.length≤400000
section
variable {fr:Bool}{roots:List Nat}{b:Nat}{ss:List Nat}{σ:St}{k:AV→St→Prop}
end
def Aio (l:List Ed):Nat:=l.foldl (fun s e=>s|||2 ^ e.a.toNat) 0
theorem AdU {l:List Ed}{i:Nat}(h:i<l.length):Aio (l.take (i+1))=Aio (l.take i)|||2 ^ l[i]!.a.toNat:=by
 unfold Aio;rw [List.take_succ_eq_append_getElem h,List.foldl_append,getElem!_pos l i h];rfl
def aOk (l:List Ed):Prop:=∀i<l.length,0≤l[i]!.a∧l[i]!.a<62
section
variable {fr:Bool}{roots:List Nat}{b:Nat}{ss:List Nat}{σ:St}{k:AV→St→Prop}
end
end Go.Mw
namespace Go.Mw
set_option maxRecDepth 100000
structure SttOk (z:Stt)(st n:Nat):Prop where
 len:z.X.length=n
 a:∀i<z.A.length,0≤z.A[i]!∧z.A[i]! < ((2 ^ n:Nat):Int)
 ris:∀i<z.A.length,0<i→z.A[i-1]! < z.A[i]!
 x:∀i<n,-1≤z.X[i]!∧z.X[i]! < (st:Int)
 has:∀i<z.A.length,∀a<n,hasA z.A[i]! a=true→0≤z.X[a]!
structure SpcK (m:Nat)(s:Spc):Prop where
 acts:actsOk s.acts=true
 s1:1≤s.S.length
 s2:s.S.length≤m∧s.S.length≤12000
 st:∀i<s.S.length,SttOk s.S[i]! s.S.length s.acts.length
abbrev FY (s:Spc):Prop:=SpcK 500 s
def goodP (m:Sys)(s:Spc)(x y:Nat):Prop:=((Aio m.S[x]! : Nat):Int)∈s.S[y]!.A
def nxt (s:Spc)(y a:Nat):Int:=s.S[y]!.X[a]!
structure ClosedR (m:Sys)(s:Spc)(P:Nat→Nat→Prop):Prop where
 z:P 0 0
 n:∀x y,P x y→goodP m s x y→∀i<m.S[x]!.length,P m.S[x]![i]!.t.toNat (nxt s y m.S[x]![i]!.a.toNat).toNat
def Rch (m:Sys)(s:Spc)(x y:Nat):Prop:=∀P,ClosedR m s P→P x y
def Sat (m:Sys)(s:Spc):Prop:=∀x y,Rch m s x y→goodP m s x y
theorem Rch.closed (m:Sys)(s:Spc):ClosedR m s (Rch m s) :=
 ⟨fun P h=>h.z,fun x y h hg i hi P hP=>hP.n x y (h P hP) hg i hi⟩
theorem AgV {m:Sys}{s:Spc}{P:Nat→Nat→Prop}(h:ClosedR m s P)(hg:∀x y,P x y→goodP m s x y):Sat m s:=fun x y hr=>hg x y (hr P h)
theorem Ax {l:List ByteArray}(h:actsOk l=true):l.length≤8:=by unfold actsOk at h;rw [decide_eq_true_eq] at h;exact h.1
theorem SysOk.aOk {m:Sys}(h:SysOk m){x:Nat}(hx:x<m.S.length):aOk m.S[x]!:=fun i hi=>by
 have:=h.ed x hx i hi;have:=Ax h.acts;omega
theorem AfZ {l:List Ed}(h:aOk l){a:Nat}:(Aio l).testBit a=true↔∃i<l.length,l[i]!.a=a:=by
 have key:∀i,i≤l.length→((Aio (l.take i)).testBit a=true↔∃j<i,l[j]!.a=a):=by
  intro i;induction i with
  | zero=>intro _;simp [Aio]
  | succ i ih =>
    intro hi;rw [AdU (by omega),Nat.testBit_or,Bool.or_eq_true,ih (by omega),Nat.testBit_two_pow,decide_eq_true_eq];have hb:=h i (by omega);constructor
    ·rintro (⟨j,hj,e⟩|e)
     ·exact ⟨j,by omega,e⟩
     ·exact ⟨i,by omega,by omega⟩
    ·rintro ⟨j,hj,e⟩;rcases Nat.lt_or_eq_of_le (Nat.le_of_lt_succ hj) with h1|rfl
     ·exact .inl ⟨j,h1,e⟩
     ·right;omega
 have:=key l.length (Nat.le_refl _);rwa [List.take_length] at this
theorem Agc {m:Sys}{s:Spc}(hm:SysOk m)(hs:FY s)(he:m.acts.length=s.acts.length){x y:Nat}(hx:x<m.S.length)(hy:y<s.S.length)(hg:goodP m s x y){i:Nat}(hi:i<m.S[x]!.length) :
 0≤m.S[x]![i]!.t∧m.S[x]![i]!.t<(m.S.length:Int)∧0≤m.S[x]![i]!.a∧m.S[x]![i]!.a<(s.acts.length:Int)∧0≤nxt s y m.S[x]![i]!.a.toNat∧nxt s y m.S[x]![i]!.a.toNat<(s.S.length:Int):=by
 obtain ⟨e1,e2,e3,e4,_⟩:=hm.ed x hx i hi;have h8:=Ax hm.acts;refine ⟨e3,e4,e1,by omega,?_,?_⟩
 ·obtain ⟨j,hj,e⟩:=List.mem_iff_getElem.1 hg;have h1:=(hs.st y hy).has j hj m.S[x]![i]!.a.toNat (by omega);refine h1 ?_;rw [getElem!_pos _ j hj,e];unfold hasA;rw [Int.toNat_natCast,AfZ (hm.aOk hx)];exact ⟨i,hi,by omega⟩
 ·have:=(hs.st y hy).x m.S[x]![i]!.a.toNat (by omega);exact this.2
theorem Rch.lt {m:Sys}{s:Spc}(hm:SysOk m)(hs:FY s)(he:m.acts.length=s.acts.length){x y:Nat}(h:Rch m s x y):x<m.S.length∧y<s.S.length:=by
 refine h (fun x y=>x<m.S.length∧y<s.S.length) ⟨⟨by have:=hm.s1;omega,by have:=hs.s1;omega⟩,?_⟩;rintro x y ⟨hx,hy⟩ hg i hi;have:=Agc hm hs he hx hy hg hi;omega
theorem AjF (l:List Int)(hl:l.length≤1048576)(x:Int):FnT G Kj [.lst (l.map I),I x] (Bo (decide (x∈l))):=by
 refine FnP.mk' Af2 rfl rfl ?_;simp only [go_sem,↓reduceIte,↓Aa,YU];refine Ad (fun (i:Nat) σ=>i≤l.length∧(∀j<i,l[j]!≠x)∧σ=⟨aT .undef 17 [(1,I x),(7,.lst (l.map I)),(8,I l.length),(9,I i)],[],[]⟩) (fun i=>l.length-i) ?_ 0 ?_
 ·rintro i σ ⟨hi,hall,rfl⟩ N Q hQ hN;by_cases hlt:i<l.length
  ·simp only [go_sem,↓reduceIte,↓Aa,Int.ofNat_lt,hlt,Ab hlt (by omega)];refine ⟨fun h=>?_,fun h=>?_⟩
   ·subst hQ;simp only [go_sem,↓reduceIte,↓Aa];rw [decide_eq_true];have e:=eq_of_beq h;rw [e,getElem!_pos l i hlt];exact List.getElem_mem hlt
   ·refine hN (i+1) _ (by omega) ⟨by omega,Ae hall (fun e=>ne_of_beq_false h e.symm),?_⟩;simp only [go_sem,↓reduceIte,↓Aa]
  ·have hil:i=l.length:=by omega
   subst hil hQ;simp only [go_sem,↓reduceIte,↓Aa,Int.ofNat_lt,hlt];rw [decide_eq_false];intro hm;obtain ⟨j,hj,e⟩:=List.mem_iff_getElem.1 hm;exact hall j hj (by rw [getElem!_pos l j hj];exact e)
 ·exact ⟨by omega,by simp,by simp only [go_sem,↓reduceIte,↓Aa]⟩
theorem AjD {l:List Int}(hl:l.length≤1048576){x:Int}{fr:Bool}{roots:List Nat}{b:Nat}{ss:List Nat}{σ:St}{k:AV→St→Prop} :
 callT G Kj [.lst (l.map I),I x] fr roots b ss σ k=k (Bo (decide (x∈l))) σ:=(AjF l hl x).rule
def OS (k:Nat):List (Nat×AV)→List (Nat×AV)
 | []=>[]
 | (j,v)::l=>if j=k then OS k l else (j,v)::OS k l
theorem Ns {d:AV}{k j:Nat}(h:¬k=j):∀(l:List (Nat×AV)),Kl d j (OS k l)=Kl d j l:=by
 intro l;induction l with
 | nil=>rfl
 | cons p l ih =>
   obtain ⟨q,v⟩:=p;simp only [OS];split
   ·rename_i e;subst e;rw [ih];simp only [Kl,if_neg h]
   ·simp only [Kl,ih]
theorem AbE {nt t:Nat}{d:AV}{l:List (Nat×AV)}{h:List Ob}{lp:List Lp}(ht:t<nt):Agn t ⟨aT d nt l,h,lp⟩=⟨aT d nt ((t,treeB 0 h (Kl d t l))::OS t l),At h (rootsOf (Kl d t l)),lp⟩:=by
 simp only [Agn,aT_get ht,aT_set ht];congr 1;apply List.ext_getElem?;intro i;by_cases hi:i<nt
 ·rw [aT_get hi,aT_get hi];simp only [Kl];split
  ·rfl
  ·rename_i e;rw [Ns e]
 ·rw [List.getElem?_eq_none (by rw [aT_len];omega),List.getElem?_eq_none (by rw [aT_len];omega)]
theorem Acp {k:Nat}:OS k [] = []:=(rfl)
theorem ZE {k j:Nat}{v:AV}{l:List (Nat×AV)}:OS k ((j,v)::l)=if j=k then OS k l else (j,v)::OS k l:=(rfl)
def PC (xs:List AV)(r:Nat):Nat→List Ob→List Ob
 | _,[]=>[]
 | k,o::h=>(if k=r∧xs≠[] then { o with c:=.gone } else o)::PC xs r (k+1) h
theorem Aef {xs:List AV}{r:Nat}:∀(h:List Ob) (k:Nat),Jk (may xs r) k h=PC xs r k h:=by
 intro h;induction h with
 | nil=>intro k;rfl
 | cons o h ih =>
   intro k;simp only [Jk,PC,ih];unfold may;by_cases hx:xs = []
   ·simp [hx]
   ·by_cases hk:k=r<;>simp [hx,hk]
theorem LU {S:List Nat}{h:List Ob}:At h S=Jk S 0 h:=by
 rw [←Fj];simp [freeSites]
theorem Afe {xs:List AV}{r:Nat}{h:List Ob}:At h (may xs r)=PC xs r 0 h:=by rw [LU,Aef]
theorem AeA {r:Nat}{h:List Ob}:At h [r]=Jk [r] 0 h:=LU
theorem AbN {xs:List AV}{r k:Nat}:PC xs r k [] = []:=(rfl)
theorem AdX {xs:List AV}{r es st ss:Nat}{h:List Ob}:PC xs r r (⟨st,ss,Pa es xs⟩::h)=⟨st,ss,.gone⟩::PC xs r (r+1) h:=by
 simp only [PC,Pa];by_cases hx:xs = []<;>simp [hx]
theorem Aa7 {xs:List AV}{r k:Nat}{o:Ob}{h:List Ob}(hk:¬k=r):PC xs r k (o::h)=o::PC xs r (k+1) h:=by
 simp [PC,hk]
attribute [go_sem] AhS AbE Acp ZE Afe  AeA AbN AdX Aa7
end Go.Mw
