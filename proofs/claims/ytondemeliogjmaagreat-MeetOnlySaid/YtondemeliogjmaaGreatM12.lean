/- Soundness: all together. -/
import Derived.Test.YtondemeliogjmaaGreatM11
import Derived.Orders
set_option linter.unusedVariables false
set_option linter.unusedSimpArgs false
namespace Go.Mw
open Go.RowKit
structure AllS (P:Program)(G:Prg)(n:Nat):Prop where
 code:CodeS P (evC G n)
 loop:LoopS P (evC G n)
 op:OpS P (evO G n)
 call:CallS P (callF G n)
 fn:FunS P G (runF G n)
 yld:YieldS P (yieldF G n)
theorem Acl {P:Program}{G:Prg}(hG:AiE P G)(hD:∀n,AfG P G (evO G n)):∀n,AllS P G n:=by
 intro n;induction n with
 | zero =>
   refine ⟨?_,?_,?_,?_,?_,?_⟩
   ·intro c b σ e σ' h;simp [evC] at h
   ·intro c b σ e σ' h;simp [evC] at h
   ·intro o sm i b σ v σ' _ h;simp [evO] at h
   ·intro f xs b ss σ v σ' h;simp [callF] at h
   ·intro f F xs h lp rs σ1 _ h;simp [runF] at h
   ·intro l xs σ v σ' h;simp [yieldF] at h
 | succ n ih=>exact ⟨Ac8 hG ih.op (hD n) ih.code ih.loop ih.call,Sf ih.code ih.loop,Aby hG ih.call ih.yld,Ws ih.fn,AaF hG ih.code,UJ ih.code⟩
theorem X3 {P:Program}{G:Prg}(hG:AiE P G)(hD:∀n,AfG P G (evO G n)){n:Nat}{f:FuncId}{F:IF}{xs:List AV}{rs:List AV}{σ1:St}(hf:G f=some F)(hn:xs.length=F.np)(hrun:runF G n F xs [] []=some (rs,σ1))
 {w:World}{fz:Nat→Prop}(hfz:∀b,fz b→b<w.heap.size) {args:Array Value}(hargs:VRels w fz (fun _ _=>False) xs args.toList) :
 Calls P f args w fun e w'=>∃cs:List Value,e = .returned (KX cs)∧Below w.heap.size w w'∧∃fz',VRels w' fz' (fun _ _=>False) (treeBL 0 σ1.h rs) cs:=by
 have R:Rel w fz { blk:=fun _ _=>(0,0),fz:=fz } [] w:=by
  refine ⟨Below.refl _ _,hfz,fun _ h=>h,fun _ h=>.inl h,fun r p nd hn=>by simp [nodeAt] at hn,fun r p nd hn=>by simp [nodeAt] at hn,fun r p nd r2 p2 nd2 hn=>by simp [nodeAt] at hn⟩
 obtain ⟨m',w',cs,h1,h2,h3,h4,h5,h6⟩:=(Acl hG hD n).fn f F xs [] [] rs σ1 hf hrun hn w fz { blk:=fun _ _=>(0,0),fz:=fz } [] w args
  ⟨hargs.1,fun j v c hv hc=>(hargs.2 j v c hv hc).mono (fun _ _ _ _ h=>h) (fun _ h=>h) (fun _ _ h=>h.elim)⟩ R ⟨rfl,by simp,fun l la top x h=>by simp at h⟩
 intro stk;obtain ⟨frm,s1,s2,s3⟩:=h6 stk;refine ⟨.returned (KX cs),w',frm,⟨cs,rfl,h2.below,_,K4 h2 (X:=fun _=>True) (B:=0) (fun v c hi hlt hex _=>by obtain ⟨r,hr⟩:=hex;exact absurd (hlt r hr) (Nat.not_lt_zero _)) h1 (fun r _=>.inr trivial)⟩,s1,s2,s3⟩
end Go.Mw
namespace Go.Mw
section trace
variable {S Loc V:Type}
structure Trace (val:S→Loc→V)(N:Nat)(step:Nat→S→Option S)(st:Nat→S)(D W:Nat→Loc→Prop):Prop where
 loc:∀k,k<N→∀τ,(∀x,D k x→val τ x=val (st k) x)→∃τ',step k τ=some τ'∧(∀x,D k x→val τ' x=val (st (k+1)) x)∧(∀x,¬W k x→val τ' x=val τ x)
 out:∀k,k<N→∀x,¬W k x→val (st (k+1)) x=val (st k) x
 sub:∀k x,W k x→D k x
variable {val:S→Loc→V}{N:Nat}{step:Nat→S→Option S}{st:Nat→S}{D W:Nat→Loc→Prop}
theorem Trace.const (ht:Trace val N step st D W){x:Loc}{a:Nat}:∀ {b:Nat},a≤b→b≤N→(∀k,a≤k→k<b→¬W k x)→val (st b) x=val (st a) x:=by
 intro b;induction b with
 | zero=>intro h _ _;have:a=0:=by omega
         subst this;rfl
 | succ b ih =>
   intro h1 h2 h3;rcases Nat.lt_or_ge a (b+1) with hlt|hge
   ·rw [ht.out b (by omega) x (h3 b (by omega) (by omega))];exact ih (by omega) (by omega) (fun k h4 h5=>h3 k h4 (by omega))
   ·have:a=b+1:=by omega
    subst this;rfl
def Inv (val:S→Loc→V)(N:Nat)(st:Nat→S)(W:Nat→Loc→Prop)(E:Nat→Prop)(τ:S):Prop :=
 ∀x,∃q,q≤N∧val τ x=val (st q) x∧∀k,k<N→W k x→(E k↔k<q)
theorem Trace.one (ht:Trace val N step st D W){E:Nat→Prop}{τ:S}(hi:Inv val N st W E τ){k:Nat}(hk:k<N)(hnk:¬E k)(hE:∀i,i<N→i≠k→(∃x,W i x∧D k x)→(E i↔i<k)) :
 ∃τ',step k τ=some τ'∧Inv val N st W (fun i=>E i∨i=k) τ':=by
 have hag:∀x,D k x→val τ x=val (st k) x:=by
  intro x hx;obtain ⟨q,hq,hv,hw⟩:=hi x;rw [hv];have hnw:∀i,i<N→W i x→(i<q↔i<k):=by
   intro i hiN hwi;by_cases e:i=k
   ·subst e;have:=hw i hiN hwi;constructor
    ·intro h;exact absurd (this.2 h) hnk
    ·intro h;omega
   ·rw [←hw i hiN hwi,hE i hiN e ⟨x,hwi,hx⟩]
  rcases Nat.le_total q k with hle|hle
  ·exact (ht.const hle (by omega) (fun i h1 h2 hwi=>by have:=(hnw i (by omega) hwi).2 h2;omega)).symm
  ·exact ht.const hle hq (fun i h1 h2 hwi=>by have:=(hnw i (by omega) hwi).1 h2;omega)
 obtain ⟨τ',h1,h2,h3⟩:=ht.loc k hk τ hag;refine ⟨τ',h1,fun x=>?_⟩;by_cases hwx:W k x
 ·have hdx:=ht.sub k x hwx;refine ⟨k+1,by omega,h2 x hdx,fun i hiN hwi=>?_⟩;by_cases e:i=k
  ·subst e;simp
  ·have:=hE i hiN e ⟨x,hwi,hdx⟩;constructor
   ·rintro (h|h)
    ·have:=this.1 h;omega
    ·exact absurd h e
   ·intro h;exact .inl (this.2 (by omega))
 ·obtain ⟨q,hq,hv,hw⟩:=hi x;refine ⟨q,hq,by rw [h3 x hwx];exact hv,fun i hiN hwi=>?_⟩;have hne:i≠k:=fun e=>by subst e;exact hwx hwi
  rw [←hw i hiN hwi];simp [hne]
inductive Ord (N:Nat) (pre:Nat→Nat→Prop):(Nat→Prop)→List Nat→Prop
 | nil {E:Nat→Prop}(h:∀k,k<N→E k):Ord N pre E []
 | cons {E:Nat→Prop}{k:Nat}{l:List Nat}(hk:k<N) (hn:¬E k) (hp:∀i,i<N→pre i k→E i) (t:Ord N pre (fun i=>E i∨i=k) l):Ord N pre E (k::l)
def AiL (step:Nat→S→Option S):List Nat→S→Option S
 | [],τ=>some τ
 | k::l,τ=>match step k τ with
   | some τ'=>AiL step l τ'
   | none=>none
theorem Trace.all (ht:Trace val N step st D W){pre:Nat→Nat→Prop}(hpl:∀i j,pre i j→i<j)(hdep:∀i k,i<k→k<N→¬pre i k→∀x,¬(W i x∧D k x)∧¬(D i x∧W k x)) :
 ∀ {E:Nat→Prop}{l:List Nat},Ord N pre E l→(∀j i,j<N→E j→pre i j→E i)→∀ {τ:S},Inv val N st W E τ→∃τ',AiL step l τ=some τ'∧∀x,val τ' x=val (st N) x:=by
 intro E l ho;induction ho with
 | nil h =>
   intro _ τ hi;refine ⟨τ,rfl,fun x=>?_⟩;obtain ⟨q,hq,hv,hw⟩:=hi x;rw [hv];exact (ht.const hq (Nat.le_refl _) (fun k h1 h2 hwk=>by have:=(hw k h2 hwk).1 (h k h2);omega)).symm
 | cons hk hn hp _ ih =>
   intro hcl τ hi;rename_i E k l t;obtain ⟨τ',h1,h2⟩:=ht.one hi hk hn (fun i hiN hne ⟨x,hw,hd⟩=>by
    rcases Nat.lt_or_ge i k with hlt|hge
    ·have hpre:pre i k:=by
      refine Classical.byContradiction fun hnp=>?_;exact (hdep i k hlt hk hnp x).1 ⟨hw,hd⟩
     exact ⟨fun _=>hlt,fun _=>hp i hiN hpre⟩
    ·have hgt:k<i:=by omega
     have hpre:pre k i:=by
      refine Classical.byContradiction fun hnp=>?_;exact (hdep k i hgt hiN hnp x).2 ⟨hd,hw⟩
     exact ⟨fun hEi=>absurd (hcl i k hiN hEi hpre) hn,fun h=>by omega⟩)
   obtain ⟨τ'',h3,h4⟩:=ih (fun j i hj hE hpre=>by
    rcases hE with hE|rfl
    ·exact .inl (hcl j i hj hE hpre)
    ·exact .inl (hp i (Nat.lt_trans (hpl _ _ hpre) hj) hpre)) h2
   exact ⟨τ'',by simp only [AiL,h1];exact h3,h4⟩
end trace
section draw
variable {ops:Array Oper}{md:Region.Mode}
inductive Run (md:Region.Mode) (ops:Array Oper):Array Bool→List Nat→Prop
 | nil {ls:Array Bool}(h:Region.ready md ops ls = []):Run md ops ls []
 | cons {ls:Array Bool}{i:Nat}{l:List Nat}(h:i∈Region.ready md ops ls) (t:Run md ops (ls.setIfInBounds i true) l):Run md ops ls (i::l)
def unlisted (n:Nat)(ls:Array Bool):Nat:=((List.range n).filter fun i => !ls.getD i true).length
theorem Oe {n:Nat}{ls:Array Bool}{i:Nat}(hi:i<n)(hu:ls.getD i true=false):unlisted n (ls.setIfInBounds i true)<unlisted n ls:=by
 unfold unlisted;have hlt:i<ls.size:=by
  rcases Nat.lt_or_ge i ls.size with h|h
  ·exact h
  ·simp [Array.getD,Nat.not_lt.2 h] at hu
 have hsub:∀j,(!(ls.setIfInBounds i true).getD j true)=true→(!ls.getD j true)=true:=by
  intro j hj;by_cases e:i=j
  ·subst e;simp [hlt] at hj
  ·rw [getD_set_ne true e] at hj;exact hj
 have key:∀(l:List Nat),i∈l→(l.filter fun j => !(ls.setIfInBounds i true).getD j true).length<(l.filter fun j => !ls.getD j true).length:=by
  have le:∀(l:List Nat),(l.filter fun j => !(ls.setIfInBounds i true).getD j true).length≤(l.filter fun j => !ls.getD j true).length:=by
   intro l;induction l with
   | nil=>simp
   | cons j l ih =>
     simp only [List.filter_cons];split
     ·rename_i h;rw [if_pos (hsub j h)];simp only [List.length_cons];omega
     ·split
      ·simp only [List.length_cons];omega
      ·exact ih
  intro l;induction l with
  | nil=>intro h;cases h
  | cons j l ih =>
    intro h;simp only [List.filter_cons];rcases List.mem_cons.1 h with rfl|h
    ·have h1:(!(ls.setIfInBounds i true).getD i true)=false:=by simp [hlt]
     rw [h1];simp only [Bool.false_eq_true,if_false,hu,Bool.not_false,if_true,List.length_cons];have:=le l;omega
    ·split
     ·rename_i h2;rw [if_pos (hsub j h2)];simp only [List.length_cons];have:=ih h;omega
     ·split
      ·simp only [List.length_cons];have:=ih h;omega
      ·exact ih h
 exact key _ (List.mem_range.2 hi)
theorem S0:∀(fuel t:Nat) (ls:Array Bool),unlisted ops.size ls≤fuel→Run md ops ls (Region.linearise.go md ops fuel t ls []):=by
 intro fuel;induction fuel with
 | zero =>
   intro t ls h;simp only [Region.linearise.go,List.reverse_nil];refine .nil ?_;cases hr:Region.ready md ops ls with
   | nil=>rfl
   | cons i l =>
     exfalso;have hi:i∈Region.ready md ops ls:=by rw [hr];exact List.mem_cons_self ..
     obtain ⟨hu,o,ho,_⟩:=mem_ready.1 hi;have:=Oe (Array.getElem?_eq_some_iff.1 ho).1 hu;omega
 | succ fuel ih =>
   intro t ls h;simp only [Region.linearise.go];change Run md ops ls (match (Region.ready md ops ls)[t % (Region.ready md ops ls).length]? with
    | some i=>Region.linearise.go md ops fuel (t / (Region.ready md ops ls).length) (ls.setIfInBounds i true) [i]
    | none=>[].reverse)
   cases hi:(Region.ready md ops ls)[t % (Region.ready md ops ls).length]? with
   | none =>
     have hnil:Region.ready md ops ls = []:=by
      cases hr:Region.ready md ops ls with
      | nil=>rfl
      | cons x xs =>
        rw [hr] at hi;have hlt:t % (x::xs).length<(x::xs).length:=Nat.mod_lt _ (by simp);simp at hi;simp at hlt;omega
     simpa using Run.nil hnil
   | some i =>
     have hm:=List.mem_of_getElem? hi;simp only [];rw [linearise_go_acc,List.reverse_singleton,List.singleton_append];obtain ⟨hu,o,ho,_⟩:=mem_ready.1 hm;exact .cons hm (ih _ _ (by have:=Oe (Array.getElem?_eq_some_iff.1 ho).1 hu;omega))
theorem SA (t:Nat):Run md ops (Array.replicate ops.size false) (Region.linearise md ops t):=by
 refine S0 _ _ _ ?_;unfold unlisted;exact Nat.le_trans (List.length_filter_le ..) (by simp)
end draw
end Go.Mw
namespace Go.Mw
section
variable {ops:Array Oper}{md:Region.Mode}
def Edge1 (ops:Array Oper)(i j:Nat):Prop:=∃o,ops[j]? = some o∧∃e∈o.after,Region.binds .any e=true∧e.on=i
inductive Pre (ops:Array Oper):Nat→Nat→Prop
 | one {i j:Nat}(h:Edge1 ops i j):Pre ops i j
 | more {i j k:Nat}(h:Pre ops i j) (t:Edge1 ops j k):Pre ops i k
theorem Acc {e:Edge}(h:Region.binds .any e=true):Region.binds md e=true:=by
 unfold Region.binds at h ⊢;split at h<;>first|rfl|(cases h)
theorem run_ord {ord:List Nat}(hg:MA md ops ord=true){ls:Array Bool}{l:List Nat}(hr:Run md ops ls l):ls.size=ops.size→(∀i j,ls.getD j false=true→Edge1 ops i j→ls.getD i false=true) →
 Ord ops.size (Pre ops) (fun i=>ls.getD i false=true) l:=by
 induction hr with
 | nil h =>
   rename_i ls;intro hs hc;refine .nil ?_;have key:∀n k,k<ops.size→ord.idxOf k≤n→ls.getD k false=true:=by
    intro n;induction n using Nat.strongRecOn with
    | _ n ih =>
      intro k hk hn;refine Classical.byContradiction fun hnl=>?_;simp only [MA,List.all_eq_true,List.mem_range] at hg;have h1:=hg k hk;rw [Array.getElem?_eq_getElem hk] at h1;simp only [Bool.and_eq_true,Array.all_eq_true_iff_forall_mem,Bool.or_eq_true,Bool.not_eq_true',decide_eq_true_eq] at h1;have hready:k∈Region.ready md ops ls:=by
       rw [mem_ready];refine ⟨?_,ops[k],Array.getElem?_eq_getElem hk,fun e he hb=>?_⟩
       ·have:k<ls.size:=by omega
        simp [Array.getD,this] at hnl ⊢;exact hnl
       ·rcases h1.2 e he with h2|⟨h2,h3⟩
        ·rw [hb] at h2;cases h2
        ·exact ih (ord.idxOf e.on) (by omega) e.on h2 (Nat.le_refl _)
      rw [h] at hready;cases hready
   exact fun k hk=>key _ k hk (Nat.le_refl _)
 | cons h t ih =>
   rename_i ls i l;intro hs hc;obtain ⟨hu,o,ho,he⟩:=mem_ready.1 h;have hi:i<ops.size:=(Array.getElem?_eq_some_iff.1 ho).1;have hil:i<ls.size:=by omega
   have hset:∀j,(ls.setIfInBounds i true).getD j false=true↔(ls.getD j false=true∨j=i):=by
    intro j;by_cases e:i=j
    ·subst e;simp [hil]
    ·rw [getD_set_ne false e];exact ⟨.inl,fun h=>h.resolve_right (fun h=>e h.symm)⟩
   have hedge:∀j,Edge1 ops j i→ls.getD j false=true:=by
    rintro j ⟨o',ho',e,hem,hb,rfl⟩;rw [ho] at ho';cases ho';exact he e hem (Acc hb)
   have hpre:∀j k,Pre ops j k→(ls.getD k false=true∨k=i)→ls.getD j false=true:=by
    intro j k hp;induction hp with
    | one h1=>rintro (h2|rfl);exact hc _ _ h2 h1;exact hedge _ h1
    | more _ h1 ih2=>rintro (h2|rfl);exact ih2 (.inl (hc _ _ h2 h1));exact ih2 (.inl (hedge _ h1))
   refine .cons hi (fun h=>?_) (fun j _ hp=>hpre j i hp (.inr rfl)) ?_
   ·simp [Array.getD,hil] at hu h;rw [hu] at h;cases h
   ·have e1:(fun j=>ls.getD j false=true∨j=i)=(fun j=>(ls.setIfInBounds i true).getD j false=true):=by
     funext j;exact propext (hset j).symm
    rw [e1];refine ih (by simpa using hs) (fun j k hk hjk=>?_);rw [hset] at hk ⊢;rcases hk with hk|rfl
    ·exact .inl (hc _ _ hk hjk)
    ·exact .inl (hedge _ hjk)
theorem draw_ord {rs:List Rop}(hok:QS ops rs=true)(mixed:Bool)(t:Nat):Ord ops.size (Pre ops) (fun _=>False) (Region.schedule mixed ops t):=by
 simp only [QS,Bool.and_eq_true] at hok;obtain ⟨⟨_,hord⟩,_⟩:=hok;simp only [Aei,List.all_cons,List.all_nil,Bool.and_true,Bool.and_eq_true] at hord;have base:∀(md:Region.Mode) (t:Nat),MA md ops (Region.linearise md ops 0)=true→Ord ops.size (Pre ops) (fun _=>False) (Region.linearise md ops t):=by
  intro md t hg;have h0:∀j,(Array.replicate ops.size false).getD j false=false:=by
   intro j;simp only [Array.getD];split<;>simp
  have:=run_ord hg (SA (md:=md) (ops:=ops) t) (by simp) (fun i j h=>by rw [h0] at h;cases h);have e:(fun i=>(Array.replicate ops.size false).getD i false=true)=(fun _:Nat=>False):=by
   funext i;rw [h0];exact propext ⟨fun h=>(by cases h),False.elim⟩
  rwa [e] at this
 unfold Region.schedule;split
 ·exact base _ _ hord.1
 ·split
  ·exact base _ _ hord.2.1
  ·exact base _ _ hord.2.2
theorem Ajk {rs:List Rop}(hok:QS ops rs=true):∀i j,Pre ops i j→i<j:=by
 simp only [QS,Bool.and_eq_true] at hok;obtain ⟨⟨hlt,_⟩,_⟩:=hok;have one:∀i j,Edge1 ops i j→i<j:=by
  rintro i j ⟨o,ho,e,he,hb,rfl⟩;simp only [List.all_eq_true,Array.all_eq_true_iff_forall_mem,Bool.or_eq_true,Bool.not_eq_true',decide_eq_true_eq] at hlt;have hm:(o,j)∈ops.toList.zipIdx:=by
   rw [List.mem_zipIdx_iff_getElem?];simpa using ho
  rcases hlt (o,j) hm e he with h|h
  ·rw [hb] at h;cases h
  ·exact h
 intro i j h;induction h with
 | one h=>exact one _ _ h
 | more _ h ih=>exact Nat.lt_trans ih (one _ _ h)
end
end Go.Mw
namespace Go.Mw
theorem bits_inner (acc:Array Nat)(i:Nat):∀(l:List Edge) (s:Nat),(l.foldl (fun s e=>if Region.binds .any e then s|||2 ^ e.on|||acc.getD e.on 0 else s) s).testBit i=true →
 s.testBit i=true∨∃e∈l,Region.binds .any e=true∧(e.on=i∨(acc.getD e.on 0).testBit i=true):=by
 intro l;induction l with
 | nil=>intro s h;exact .inl h
 | cons e l ih =>
   intro s h;rw [List.foldl_cons] at h;rcases ih _ h with h|⟨e',he,hb,h⟩
   ·split at h
    ·rename_i hb;simp only [Nat.testBit_or,Bool.or_eq_true,Nat.testBit_two_pow,decide_eq_true_eq] at h;rcases h with (h|h)|h
     ·exact .inl h
     ·exact .inr ⟨e,List.mem_cons_self ..,hb,.inl h⟩
     ·exact .inr ⟨e,List.mem_cons_self ..,hb,.inr h⟩
    ·exact .inl h
   ·exact .inr ⟨e',List.mem_cons_of_mem _ he,hb,h⟩
theorem Aa0 {ops:Array Oper}:∀(l:List Oper) (acc:Array Nat),(∀k o,l[k]? = some o→ops[acc.size+k]? = some o)→(∀i j,(acc.getD j 0).testBit i=true→Pre ops i j) →
 ∀i j,((l.foldl (fun acc o=>acc.push (o.after.foldl (fun s e=>if Region.binds .any e then s|||2 ^ e.on|||acc.getD e.on 0 else s) 0)) acc).getD j 0).testBit i=true→Pre ops i j:=by
 intro l;induction l with
 | nil=>intro acc _ h;exact h
 | cons o l ih =>
   intro acc hk h;rw [List.foldl_cons];refine ih _ (fun k o' hk'=>?_) (fun i j hj=>?_)
   ·have:=hk (k+1) o' (by simpa using hk');rw [←this];congr 1;simp;omega
   ·by_cases e:j<acc.size
    ·refine h i j ?_;rw [←hj];simp [Array.getD,e,Nat.lt_succ_of_lt e,Array.getElem_push_lt]
    ·by_cases e2:j=acc.size
     ·subst e2;have h1:(acc.push (o.after.foldl (fun s e=>if Region.binds .any e then s|||2 ^ e.on|||acc.getD e.on 0 else s) 0)).getD acc.size 0=o.after.foldl (fun s e=>if Region.binds .any e then s|||2 ^ e.on|||acc.getD e.on 0 else s) 0:=by
       simp [Array.getD]
      rw [h1,←Array.foldl_toList] at hj;have ho:=hk 0 o rfl;rw [Nat.add_zero] at ho;rcases bits_inner acc i _ _ hj with h2|⟨ed,he,hb,h2⟩
      ·simp at h2
      ·have hed:Edge1 ops ed.on acc.size:=⟨o,ho,ed,by simpa using he,hb,rfl⟩;rcases h2 with rfl|h2
       ·exact .one hed
       ·exact .more (h i _ h2) hed
     ·exfalso;have:¬j<acc.size+1:=by omega
      simp [Array.getD,this] at hj
theorem Zr {ops:Array Oper}{i j:Nat}(h:RW ops i j=true):Pre ops i j:=by
 unfold RW Region.before at h;rw [←Array.foldl_toList] at h;exact Aa0 ops.toList #[] (fun k o hk=>by simpa using hk) (fun i j h=>by simp [Array.getD] at h) i j h
def Fg (rs:List Nat)(h k:List Ob):Prop:=∀r∈rs,k[r]? = h[r]?
def E1 (rs:List Nat)(h' k k':List Ob):Prop:=(∀r∈rs,k'[r]? = h'[r]?)∧∀r,r∉rs→k'[r]? = k[r]?
theorem E1.refl {rs:List Nat}{h k:List Ob}(ha:Fg rs h k):E1 rs h k k:=⟨ha,fun _ _=>rfl⟩
theorem E1.trans {rs:List Nat}{h1 h2 k k1 k2:List Ob}(a:E1 rs h1 k k1)(b:E1 rs h2 k1 k2):E1 rs h2 k k2 :=
 ⟨b.1,fun r hr=>(b.2 r hr).trans (a.2 r hr)⟩
theorem E1.alike {rs:List Nat}{h' k k':List Ob}(a:E1 rs h' k k'):Fg rs h' k':=a.1
section
variable {rs:List Nat}{h k:List Ob}
theorem Be (ha:Fg rs h k){r st ss:Nat}{p:Path}(hr:r∈rs):node k r st p ss=node h r st p ss:=by
 unfold node;rw [ha r hr]
theorem Abh (ha:Fg rs h k){r:Nat}{p:Path}(hr:r∈rs):nodeAt k r p=nodeAt h r p:=by
 unfold nodeAt;rw [ha r hr]
theorem CT (ha:Fg rs h k){r:Nat}{p:Path}{v:AV}{bp:Bool}(hr:r∈rs){h':List Ob}(hs:setOb h r p v bp=some h'):∃k',setOb k r p v bp=some k'∧E1 rs h' k k':=by
 unfold setOb at hs ⊢;rw [ha r hr];cases ho:h[r]? with
 | none=>simp [ho] at hs
 | some o =>
   simp only [ho] at hs ⊢;cases hu:upd o.c p v with
   | none=>simp [hu] at hs
   | some c =>
     simp only [hu,Option.some.injEq] at hs ⊢;refine ⟨_,rfl,fun q hq=>?_,fun q hq=>?_⟩
     ·subst hs;have hk:k[r]? = some o:=(ha r hr).trans ho;have h1:r<h.length:=by
       rcases Nat.lt_or_ge r h.length with x|x;exact x;rw [List.getElem?_eq_none x] at ho;cases ho
      have h2:r<k.length:=by
       rcases Nat.lt_or_ge r k.length with x|x;exact x;rw [List.getElem?_eq_none x] at hk;cases hk
      by_cases e:r=q
      ·subst e;rw [List.getElem?_set_self h1,List.getElem?_set_self h2]
      ·rw [List.getElem?_set_ne e,List.getElem?_set_ne e];exact ha q hq
     ·have e:r≠q:=fun e=>hq (e▸hr);rw [List.getElem?_set_ne e]
theorem newOb_loc (ha:Fg rs h k){r st:Nat}{c:AV}(hr:r∈rs){h':List Ob}(hs:newOb h r c=some (h',st)):∃k',newOb k r c=some (k',st)∧E1 rs h' k k':=by
 unfold newOb at hs ⊢;rw [ha r hr];cases ho:h[r]? with
 | none=>simp [ho] at hs
 | some o =>
   simp only [ho] at hs ⊢;cases hc:o.c<;>simp only [hc,reduceCtorEq] at hs ⊢;simp only [Option.some.injEq,Prod.mk.injEq] at hs;obtain ⟨rfl,rfl⟩:=hs;refine ⟨_,rfl,fun q hq=>?_,fun q hq=>?_⟩
   ·have hk:k[r]? = some o:=(ha r hr).trans ho;have h1:r<h.length:=by
     rcases Nat.lt_or_ge r h.length with x|x;exact x;rw [List.getElem?_eq_none x] at ho;cases ho
    have h2:r<k.length:=by
     rcases Nat.lt_or_ge r k.length with x|x;exact x;rw [List.getElem?_eq_none x] at hk;cases hk
    by_cases e:r=q
    ·subst e;rw [List.getElem?_set_self h1,List.getElem?_set_self h2]
    ·rw [List.getElem?_set_ne e,List.getElem?_set_ne e];exact ha q hq
   ·have e:r≠q:=fun e=>hq (e▸hr);rw [List.getElem?_set_ne e]
def Named (rs:List Nat)(v:AV):Prop:=∀r∈rootsOf v,r∈rs
theorem AcH (ha:Fg rs h k){v:AV}(hv:Named rs v):LP k v=LP h v:=by
 cases v<;>simp only [LP]<;>rw [Be ha (hv _ (by simp [rootsOf]))]
theorem Nw (ha:Fg rs h k){n:Nat}{v:AV}(hv:Named rs v):vcells k n v=vcells h n v:=by
 cases v<;>simp only [vcells]<;>rw [AcH ha hv]
theorem Oh {n:Nat}{v:AV}{vs:List AV}(hv:Named rs v)(hc:vcells h n v=some vs):∀x∈vs,Named rs x:=by
 have one:∀v:AV,Named rs v→(if n=1∧LP h v=true then some [v] else none)=some vs→∀x∈vs,Named rs x:=by
  intro v hv hc x hx;split at hc
  ·cases hc;simp at hx;subst hx;exact hv
  ·cases hc
 cases v
 case agg cs =>
  simp only [vcells] at hc;split at hc
  ·cases hc;intro x hx r hr;refine hv r ?_;simp only [rootsOf];exact D7 hx hr
  ·cases hc
 all_goals exact one _ hv hc
theorem takeCell_loc (ha:Fg rs h k){v:AV}(hv:Named rs v){c:AV}{h':List Ob}(hs:takeCell h v=some (c,h')):∃k',takeCell k v=some (c,k')∧E1 rs h' k k':=by
 have pl:∀v:AV,(if v.plain then some (v,h) else none)=some (c,h')→∃k',(if v.plain then some (v,k) else none)=some (c,k')∧E1 rs h' k k':=by
  intro v hs;split at hs
  ·rename_i hp;simp only [Option.some.injEq,Prod.mk.injEq] at hs;obtain ⟨rfl,rfl⟩:=hs;exact ⟨k,by rw [if_pos hp],E1.refl ha⟩
  ·cases hs
 cases v
 case sl r st p ss off len =>
  have hr:=hv r (by simp [rootsOf]);simp only [takeCell] at hs ⊢;rw [Be ha hr];cases hn:node h r st p ss with
  | none=>simp [hn] at hs
  | some nd =>
    simp only [hn] at hs;cases nd<;>simp only [reduceCtorEq] at hs ⊢;split at hs
    ·rename_i hc;rw [if_pos hc];cases hso:setOb h r p .gone false with
     | none=>simp [hso] at hs
     | some h1 =>
       simp only [hso,Option.some.injEq,Prod.mk.injEq] at hs;obtain ⟨rfl,rfl⟩:=hs;obtain ⟨k',e1,e2⟩:=CT ha hr hso;exact ⟨k',by rw [e1],e2⟩
    ·cases hs
 case mp r st p ss =>
  have hr:=hv r (by simp [rootsOf]);simp only [takeCell] at hs ⊢;rw [Be ha hr];cases hn:node h r st p ss with
  | none=>simp [hn] at hs
  | some nd =>
    simp only [hn] at hs;cases nd<;>simp only [reduceCtorEq] at hs ⊢;cases hso:setOb h r p .gone false with
    | none=>simp [hso] at hs
    | some h1 =>
      simp only [hso,Option.some.injEq,Prod.mk.injEq] at hs;obtain ⟨rfl,rfl⟩:=hs;obtain ⟨k',e1,e2⟩:=CT ha hr hso;exact ⟨k',by rw [e1],e2⟩
 case undef=>exact pl .undef hs
 all_goals first|(simp only [takeCell] at hs ⊢;exact pl _ hs)
theorem Nb:∀(vs:List AV) {h k:List Ob},Fg rs h k→(∀x∈vs,Named rs x)→∀ {cs:List AV}{h':List Ob},takeCells h vs=some (cs,h')→∃k',takeCells k vs=some (cs,k')∧E1 rs h' k k':=by
 intro vs;induction vs with
 | nil =>
   intro h k ha _ cs h' hs;simp [takeCells] at hs;obtain ⟨rfl,rfl⟩:=hs;exact ⟨k,rfl,E1.refl ha⟩
 | cons v vs ih =>
   intro h k ha hv cs h' hs;simp only [takeCells] at hs ⊢;cases h1:takeCell h v with
   | none=>simp [h1] at hs
   | some p =>
     obtain ⟨c,hh⟩:=p;simp only [h1] at hs;cases h2:takeCells hh vs with
     | none=>simp [h2] at hs
     | some q =>
       obtain ⟨cs',hh2⟩:=q;simp only [h2,Option.some.injEq,Prod.mk.injEq] at hs;obtain ⟨rfl,rfl⟩:=hs;obtain ⟨k1,e1,e2⟩:=takeCell_loc ha (hv v (List.mem_cons_self ..)) h1;obtain ⟨k2,e3,e4⟩:=ih e2.alike (fun x hx=>hv x (List.mem_cons_of_mem _ hx)) h2;exact ⟨k2,by rw [e1];simp only [e3],e2.trans e4⟩
theorem PH (ha:Fg rs h k){n:Nat}{v:AV}(hv:Named rs v){c:AV}{h':List Ob}(hs:takeVal h n v=some (c,h')):∃k',takeVal k n v=some (c,k')∧E1 rs h' k k':=by
 unfold takeVal at hs ⊢;rw [Nw ha hv];cases h1:vcells h n v with
 | none=>simp [h1] at hs
 | some vs =>
   simp only [h1] at hs ⊢;cases h2:takeCells h vs with
   | none=>simp [h2] at hs
   | some q =>
     obtain ⟨cs',hh2⟩:=q;simp only [h2,Option.some.injEq,Prod.mk.injEq] at hs;obtain ⟨rfl,rfl⟩:=hs;obtain ⟨k2,e3,e4⟩:=Nb vs ha (Oh hv h1) h2;exact ⟨k2,by simp only [e3],e4⟩
theorem VX {n:Nat}:∀(vs:List AV) {h k:List Ob},Fg rs h k→(∀x∈vs,Named rs x)→∀ {cs:List AV}{h':List Ob},takeVals h n vs=some (cs,h')→∃k',takeVals k n vs=some (cs,k')∧E1 rs h' k k':=by
 intro vs;induction vs with
 | nil =>
   intro h k ha _ cs h' hs;simp [takeVals] at hs;obtain ⟨rfl,rfl⟩:=hs;exact ⟨k,rfl,E1.refl ha⟩
 | cons v vs ih =>
   intro h k ha hv cs h' hs;simp only [takeVals] at hs ⊢;cases h1:takeVal h n v with
   | none=>simp [h1] at hs
   | some p =>
     obtain ⟨c,hh⟩:=p;simp only [h1] at hs;cases h2:takeVals hh n vs with
     | none=>simp [h2] at hs
     | some q =>
       obtain ⟨cs',hh2⟩:=q;simp only [h2,Option.some.injEq,Prod.mk.injEq] at hs;obtain ⟨rfl,rfl⟩:=hs;obtain ⟨k1,e1,e2⟩:=PH ha (hv v (List.mem_cons_self ..)) h1;obtain ⟨k2,e3,e4⟩:=ih e2.alike (fun x hx=>hv x (List.mem_cons_of_mem _ hx)) h2;exact ⟨k2,by rw [e1];simp only [e3],e2.trans e4⟩
end
end Go.Mw
namespace Go.Mw
theorem Ls {σ τ:St}{xs:List Opd}(ho:∀x∈xs,τ.get x=σ.get x):τ.gets xs=σ.gets xs:=by
 unfold St.gets;exact List.map_congr_left ho
theorem Ace {i:Ins}(hd:i.dry=true)(b:Nat)(σ τ:St)(ho:∀x∈i.opds,τ.get x=σ.get x):∃g:Option AV,ax b i σ=g.map (·,σ.h)∧ax b i τ=g.map (·,τ.h):=by
 cases i<;>simp only [Ins.dry,Bool.false_eq_true] at hd<;>simp only [Ins.opds,List.mem_cons,List.not_mem_nil,or_false,forall_eq_or_imp,forall_eq,List.mem_append,List.mem_singleton] at ho
 case mov x=>exact ⟨some (σ.get x),rfl,by simp [ax,ho]⟩
 case bad=>exact ⟨none,rfl,rfl⟩
 case pick c x y =>
  simp only [ax,ho.1,ho.2.1,ho.2.2];split
  ·exact ⟨some (σ.get x),rfl,rfl⟩
  ·exact ⟨some (σ.get y),rfl,rfl⟩
  ·exact ⟨none,rfl,rfl⟩
 case bin op x y=>exact ⟨binAV op (σ.get x) (σ.get y),rfl,by simp [ax,ho]⟩
 case beq neg x y =>
  simp only [ax,ho.1,ho.2];split
  ·exact ⟨some _,rfl,rfl⟩
  ·exact ⟨none,rfl,rfl⟩
 case eqa neg ks x y =>
  simp only [ax,ho.1,ho.2];split
  ·rename_i xs ys _ _;exact ⟨(eqCells ks xs ys).map fun b=>.bool (b != neg),by cases eqCells ks xs ys<;>rfl,by cases eqCells ks xs ys<;>rfl⟩
  ·exact ⟨none,rfl,rfl⟩
 case un op x=>exact ⟨unAV op (σ.get x),rfl,by simp [ax,ho]⟩
 case cvi k x =>
  simp only [ax,ho];split
  ·exact ⟨some _,rfl,rfl⟩
  ·exact ⟨none,rfl,rfl⟩
 case bxf x =>
  simp only [ax,ho];split
  ·exact ⟨some _,rfl,rfl⟩
  ·exact ⟨none,rfl,rfl⟩
 case mkf f cs=>exact ⟨some (.fn f (σ.gets cs)),rfl,by simp [ax,Ls ho]⟩
 case ssl x lo hi =>
  have hx:τ.get x=σ.get x:=ho x (by simp);have hlo:lo.map τ.get=lo.map σ.get:=by cases lo with|none=>rfl|some y=>simp only [Option.map_some];rw [ho y (by simp)]
  have hhi:hi.map τ.get=hi.map σ.get:=by cases hi with|none=>rfl|some y=>simp only [Option.map_some];rw [ho y (by simp)]
  simp only [ax,hx,hlo,hhi];split
  ·split
   ·split
    ·exact ⟨some _,rfl,rfl⟩
    ·exact ⟨none,rfl,rfl⟩
   ·exact ⟨none,rfl,rfl⟩
  ·exact ⟨none,rfl,rfl⟩
 case fld ag off n x =>
  simp only [ax,ho];split
  ·split
   ·split
    ·exact ⟨some _,rfl,rfl⟩
    ·split
     ·exact ⟨some _,rfl,rfl⟩
     ·exact ⟨none,rfl,rfl⟩
   ·exact ⟨none,rfl,rfl⟩
  ·exact ⟨none,rfl,rfl⟩
 case idx x y =>
  simp only [ax,ho.1,ho.2];split
  ·split
   ·split
    ·exact ⟨some _,rfl,rfl⟩
    ·exact ⟨none,rfl,rfl⟩
   ·exact ⟨none,rfl,rfl⟩
  ·exact ⟨none,rfl,rfl⟩
 case ixa ag len es x y =>
  simp only [ax,ho.1,ho.2];split
  ·split
   ·split
    ·exact ⟨some _,rfl,rfl⟩
    ·split
     ·exact ⟨some _,rfl,rfl⟩
     ·exact ⟨none,rfl,rfl⟩
   ·exact ⟨none,rfl,rfl⟩
  ·exact ⟨none,rfl,rfl⟩
 case ext x k =>
  simp only [ax,ho];split
  ·split
   ·exact ⟨some _,rfl,rfl⟩
   ·exact ⟨none,rfl,rfl⟩
  ·exact ⟨none,rfl,rfl⟩
 case lens x =>
  simp only [ax,ho];split
  ·exact ⟨some _,rfl,rfl⟩
  ·exact ⟨none,rfl,rfl⟩
 case mxn mx x y =>
  simp only [ax,ho.1,ho.2];split
  ·split
   ·exact ⟨some _,rfl,rfl⟩
   ·exact ⟨none,rfl,rfl⟩
  ·exact ⟨none,rfl,rfl⟩
theorem AhL {rs:List Nat}{σ τ:St}(ha:Fg rs σ.h τ.h):∀(ps:List (Nat×Nat×Opd)) (cs:List AV),(∀x∈ps.map (·.2.2),τ.get x=σ.get x)→(∀x∈ps.map (·.2.2),Named rs (σ.get x))→bldAV τ cs ps=bldAV σ cs ps:=by
 intro ps;induction ps with
 | nil=>intro cs _ _;rfl
 | cons p ps ih =>
   intro cs ho hn;obtain ⟨off,n,x⟩:=p;simp only [bldAV];rw [ho x (by simp),Nw ha (hn x (by simp))];split
   ·split
    ·exact ih _ (fun y hy=>ho y (by simp at hy ⊢;exact .inr hy)) (fun y hy=>hn y (by simp at hy ⊢;exact .inr hy))
    ·rfl
   ·rfl
theorem Afa {i:Ins}(hd:i.calm=true)(b:Nat)(σ τ:St){rs:List Nat}(ha:Fg rs σ.h τ.h)(ho:∀x∈i.opds,τ.get x=σ.get x)(hn:∀x∈i.opds,Named rs (σ.get x)):∃g:Option AV,ax b i σ=g.map (·,σ.h)∧ax b i τ=g.map (·,τ.h):=by
 by_cases hdry:i.dry=true
 ·exact Ace hdry b σ τ ho
 cases i<;>(first|(simp only [Ins.calm,Ins.dry,Bool.false_eq_true,not_true_eq_false] at hd hdry;done)|skip)<;>simp only [Ins.opds,List.mem_cons,List.not_mem_nil,or_false,forall_eq_or_imp,forall_eq] at ho hn
 case bld z ps =>
  simp only [ax,AhL ha ps z ho hn];split
  ·exact ⟨some _,rfl,rfl⟩
  ·exact ⟨none,rfl,rfl⟩
 case ld ag n x =>
  simp only [ax,ho];cases hg:σ.get x<;>simp only []<;>try exact ⟨none,rfl,rfl⟩
  ·split
   ·split
    ·exact ⟨some _,rfl,rfl⟩
    ·split
     ·exact ⟨some _,rfl,rfl⟩
     ·exact ⟨none,rfl,rfl⟩
   ·exact ⟨none,rfl,rfl⟩
  ·rename_i r st p ss i j;have hr:r∈rs:=by rw [hg] at hn;exact hn r (by simp [rootsOf])
   rw [Be ha hr,ha r hr];split
   ·split
    ·split
     ·split
      ·split
       ·exact ⟨some _,rfl,rfl⟩
       ·split
        ·exact ⟨some _,rfl,rfl⟩
        ·exact ⟨none,rfl,rfl⟩
      ·exact ⟨none,rfl,rfl⟩
     ·exact ⟨none,rfl,rfl⟩
    ·exact ⟨none,rfl,rfl⟩
   ·exact ⟨none,rfl,rfl⟩
 case nilc neg x y =>
  simp only [ax,ho.1,ho.2];have:nilAV τ.h (σ.get x)=nilAV σ.h (σ.get x):=by
   cases hg:σ.get x<;>first|rfl|skip
   ·rename_i xs;cases xs<;>rfl
   rename_i r st p ss off len;simp only [nilAV];rw [Be ha (by have:=hn.1;rw [hg] at this;exact this r (by simp [rootsOf]))]
  rw [this];split
  ·exact ⟨(nilAV σ.h (σ.get x)).map fun b=>.bool (b != neg),by cases nilAV σ.h (σ.get x)<;>rfl,by cases nilAV σ.h (σ.get x)<;>rfl⟩
  ·exact ⟨none,rfl,rfl⟩
 case fad off x =>
  simp only [ax,ho];cases hg:σ.get x<;>simp only []<;>try exact ⟨none,rfl,rfl⟩
  ·split
   ·exact ⟨some _,rfl,rfl⟩
   ·exact ⟨none,rfl,rfl⟩
  ·rename_i r st p ss i j;have hr:r∈rs:=by rw [hg] at hn;exact hn r (by simp [rootsOf])
   rw [Be ha hr];split
   ·exact ⟨some _,rfl,rfl⟩
   ·exact ⟨none,rfl,rfl⟩
 case lenl x =>
  simp only [ax,ho];cases hg:σ.get x<;>simp only []<;>first|exact ⟨none,rfl,rfl⟩|exact ⟨some _,rfl,rfl⟩|skip
  rename_i r st p ss off len;have hr:r∈rs:=by rw [hg] at hn;exact hn r (by simp [rootsOf])
  rw [Be ha hr];split
  ·exact ⟨some _,rfl,rfl⟩
  ·exact ⟨none,rfl,rfl⟩
 case lenm x =>
  simp only [ax,ho];cases hg:σ.get x<;>simp only []<;>first|exact ⟨none,rfl,rfl⟩|exact ⟨some _,rfl,rfl⟩|skip
  rename_i r st p ss;have hr:r∈rs:=by rw [hg] at hn;exact hn r (by simp [rootsOf])
  rw [Be ha hr];split
  ·exact ⟨some _,rfl,rfl⟩
  ·exact ⟨none,rfl,rfl⟩
 case iad es x y =>
  simp only [ax,ho.1,ho.2];have hnx:=hn.1;generalize σ.get x=gx at hnx ⊢;split
  ·(repeat' split)<;>first|exact ⟨some _,rfl,rfl⟩|exact ⟨none,rfl,rfl⟩
  ·rename_i r st p ss off len k i e;rw [Be ha (hnx r (by simp [rootsOf]))]
   (repeat' split)<;>first|exact ⟨some _,rfl,rfl⟩|exact ⟨none,rfl,rfl⟩
  ·exact ⟨none,rfl,rfl⟩
 case iaa len es x y =>
  simp only [ax,ho.1,ho.2];have hnx:=hn.1;generalize σ.get x=gx at hnx ⊢;split
  ·(repeat' split)<;>first|exact ⟨some _,rfl,rfl⟩|exact ⟨none,rfl,rfl⟩
  ·rename_i r st p ss i j k q e;rw [Be ha (hnx r (by simp [rootsOf]))]
   (repeat' split)<;>first|exact ⟨some _,rfl,rfl⟩|exact ⟨none,rfl,rfl⟩
  ·exact ⟨none,rfl,rfl⟩
 case lok kk z ok x y =>
  simp only [ax,ho.1,ho.2];have hnx:=hn.1;cases hg:σ.get x
  case mp r st p ss =>
   have hr:r∈rs:=by rw [hg] at hnx;exact hnx r (by simp [rootsOf])
   simp only [Be ha hr];generalize (match node σ.h r st p ss with
    | some (.ownm es)=>some es
    | _=>none)=o
   (repeat' split)<;>first|exact ⟨some _,rfl,rfl⟩|exact ⟨none,rfl,rfl⟩
  case nilm=>(try simp only []);(repeat' split)<;>first|exact ⟨some _,rfl,rfl⟩|exact ⟨none,rfl,rfl⟩
  all_goals exact ⟨none,rfl,rfl⟩
 case sli es x lo hi mx =>
  have hx:τ.get x=σ.get x:=ho x (by simp);have hlo:lo.map τ.get=lo.map σ.get:=by cases lo with|none=>rfl|some y=>simp only [Option.map_some];rw [ho y (by simp)]
  have hhi:hi.map τ.get=hi.map σ.get:=by cases hi with|none=>rfl|some y=>simp only [Option.map_some];rw [ho y (by simp)]
  have hmx:mx.map τ.get=mx.map σ.get:=by cases mx with|none=>rfl|some y=>simp only [Option.map_some];rw [ho y (by simp)]
  have hmx2:∀y,mx=some y→τ.get y=σ.get y:=fun y e=>ho y (by simp [e]);have hnx:=hn x (by simp);simp only [ax,hx,hlo,hhi,hmx];cases hg:σ.get x<;>simp only []<;>try exact ⟨none,rfl,rfl⟩
  case sl r st p ss off len =>
   have hr:r∈rs:=by rw [hg] at hnx;exact hnx r (by simp [rootsOf])
   rw [Be ha hr];cases mx with
   | none=>simp only [];(repeat' split)<;>first|exact ⟨some _,rfl,rfl⟩|exact ⟨none,rfl,rfl⟩
   | some y=>simp only [hmx2 y rfl];(repeat' split)<;>first|exact ⟨some _,rfl,rfl⟩|exact ⟨none,rfl,rfl⟩
  case lst xs =>
   cases mx with
   | none=>simp only [];(repeat' split)<;>first|exact ⟨some _,rfl,rfl⟩|exact ⟨none,rfl,rfl⟩
   | some y=>simp only [hmx2 y rfl];(repeat' split)<;>first|exact ⟨some _,rfl,rfl⟩|exact ⟨none,rfl,rfl⟩
  all_goals ((repeat' split)<;>first|exact ⟨some _,rfl,rfl⟩|exact ⟨none,rfl,rfl⟩)
section
variable {rs:List Nat}{h k:List Ob}
theorem AgE (ha:Fg rs h k){es:Nat}{y:AV}(hn:Named rs y){ys:List AV}{h1:List Ob}(hs:appY h es y=some (ys,h1)):∃k1,appY k es y=some (ys,k1)∧E1 rs h1 k k1:=by
 cases y<;>simp only [appY,reduceCtorEq] at hs ⊢
 case nils=>simp only [Option.some.injEq,Prod.mk.injEq] at hs;obtain ⟨rfl,rfl⟩:=hs;exact ⟨k,rfl,E1.refl ha⟩
 case emp=>simp only [Option.some.injEq,Prod.mk.injEq] at hs;obtain ⟨rfl,rfl⟩:=hs;exact ⟨k,rfl,E1.refl ha⟩
 case ne=>simp only [Option.some.injEq,Prod.mk.injEq] at hs;obtain ⟨rfl,rfl⟩:=hs;exact ⟨k,rfl,E1.refl ha⟩
 case lst xs =>
  split at hs
  ·rename_i hc;simp only [Option.some.injEq,Prod.mk.injEq] at hs;obtain ⟨rfl,rfl⟩:=hs;exact ⟨k,by rw [if_pos hc],E1.refl ha⟩
  ·cases hs
 case sl r st p ss off len =>
  have hr:=hn r (by simp [rootsOf]);rw [Be ha hr];cases hnd:node h r st p ss with
  | none=>simp [hnd] at hs
  | some nd =>
    simp only [hnd] at hs;cases nd<;>simp only [reduceCtorEq] at hs ⊢;split at hs
    ·rename_i hc;rw [if_pos hc];simp only [Option.some.injEq,Prod.mk.injEq] at hs;obtain ⟨rfl,rfl⟩:=hs;exact ⟨k,rfl,E1.refl ha⟩
    ·rename_i hc;rw [if_neg hc];split at hs
     ·rename_i hc2;rw [if_pos hc2];cases hso:setOb h r p .gone false with
      | none=>simp [hso] at hs
      | some hh =>
        simp only [hso,Option.map_some,Option.some.injEq,Prod.mk.injEq] at hs;obtain ⟨rfl,rfl⟩:=hs;obtain ⟨k',e1,e2⟩:=CT ha hr hso;exact ⟨k',by rw [e1];rfl,e2⟩
     ·cases hs
theorem appX_loc (ha:Fg rs h k){es:Nat}{x:AV}(hn:Named rs x){xs:List AV}{h1:List Ob}(hs:appX h es x=some (xs,h1)):∃k1,appX k es x=some (xs,k1)∧E1 rs h1 k k1:=by
 unfold appX at hs ⊢;split at hs
 ·simp only [Option.some.injEq,Prod.mk.injEq] at hs;obtain ⟨rfl,rfl⟩:=hs;exact ⟨k,rfl,E1.refl ha⟩
 ·simp only [Option.some.injEq,Prod.mk.injEq] at hs;obtain ⟨rfl,rfl⟩:=hs;exact ⟨k,rfl,E1.refl ha⟩
 ·simp only [Option.some.injEq,Prod.mk.injEq] at hs;obtain ⟨rfl,rfl⟩:=hs;exact ⟨k,rfl,E1.refl ha⟩
 ·rename_i r st p ss off len;have hr:=hn r (by simp [rootsOf]);simp only [Be ha hr];cases hnd:node h r st p ss with
  | none=>simp [hnd] at hs
  | some nd =>
    simp only [hnd] at hs;cases nd<;>simp only [reduceCtorEq] at hs ⊢;split at hs
    ·rename_i hc;rw [if_pos hc];cases hso:setOb h r p .gone false with
     | none=>simp [hso] at hs
     | some hh =>
       simp only [hso,Option.map_some,Option.some.injEq,Prod.mk.injEq] at hs;obtain ⟨rfl,rfl⟩:=hs;obtain ⟨k',e1,e2⟩:=CT ha hr hso;exact ⟨k',by rw [e1];rfl,e2⟩
    ·cases hs
 ·cases hs
end
theorem cpyY_loc {rs:List Nat}{h k:List Ob}(ha:Fg rs h k){y:AV}(hn:Named rs y):Ah1 k y=Ah1 h y:=by
 cases y<;>simp only [Ah1]
 case sl r st p ss off len=>rw [Be ha (hn r (by simp [rootsOf]))]
theorem Ai0 {i:Ins}(hi:i.calm=false){b:Nat}{σ τ:St}{rs:List Nat}(ha:Fg rs σ.h τ.h)(ho:∀x∈i.opds,τ.get x=σ.get x)(hn:∀x∈i.opds,Named rs (σ.get x))(hst:∀s∈i.sites,b+s∈rs){v:AV}{h':List Ob}(hx:ax b i σ=some (v,h')) :
 ∃k',ax b i τ=some (v,k')∧E1 rs h' τ.h k':=by
 cases i<;>(first|(simp [Ins.calm,Ins.dry] at hi;done)|skip)<;>simp only [Ins.opds,List.mem_cons,List.not_mem_nil,or_false,forall_eq_or_imp,forall_eq] at ho hn<;>(try simp only [Ins.sites,List.mem_cons,List.not_mem_nil,or_false,forall_eq] at hst)
 case alc s es z =>
  simp only [ax] at hx ⊢;split at hx
  ·rename_i hc;rw [if_pos hc];cases hnew:newOb σ.h (b+s) (.own es [z]) with
   | none=>simp [hnew] at hx
   | some p =>
     obtain ⟨hh,st⟩:=p;simp only [hnew,Option.some.injEq,Prod.mk.injEq] at hx;obtain ⟨rfl,rfl⟩:=hx;obtain ⟨k',e1,e2⟩:=newOb_loc ha hst hnew;exact ⟨k',by rw [e1],e2⟩
  ·cases hx
 case mkm s =>
  simp only [ax] at hx ⊢;cases hnew:newOb σ.h (b+s) (.ownm []) with
  | none=>simp [hnew] at hx
  | some p =>
    obtain ⟨hh,st⟩:=p;simp only [hnew,Option.some.injEq,Prod.mk.injEq] at hx;obtain ⟨rfl,rfl⟩:=hx;obtain ⟨k',e1,e2⟩:=newOb_loc ha hst hnew;exact ⟨k',by rw [e1],e2⟩
 case box s es x =>
  simp only [ax,ho] at hx ⊢;split at hx
  ·rename_i hc;rw [if_pos hc];cases htv:takeVal σ.h es (σ.get x) with
   | none=>simp [htv] at hx
   | some p =>
     obtain ⟨c,h1⟩:=p;simp only [htv] at hx;cases hnew:newOb h1 (b+s) (.own es [c]) with
     | none=>simp [hnew] at hx
     | some p =>
       obtain ⟨hh,st⟩:=p;simp only [hnew,Option.some.injEq,Prod.mk.injEq] at hx;obtain ⟨rfl,rfl⟩:=hx;obtain ⟨k1,e1,e2⟩:=PH ha hn htv;obtain ⟨k2,e3,e4⟩:=newOb_loc e2.alike hst hnew;exact ⟨k2,by rw [e1];simp only [e3],e2.trans e4⟩
  ·cases hx
 case bsl s es n xs =>
  have hg:τ.gets xs=σ.gets xs:=Ls ho;simp only [ax,hg] at hx ⊢;split at hx
  ·rename_i hc;rw [if_pos hc];by_cases hn0:n=0
   ·rw [if_pos hn0] at hx ⊢;simp only [Option.some.injEq,Prod.mk.injEq] at hx;obtain ⟨rfl,rfl⟩:=hx;exact ⟨_,rfl,E1.refl ha⟩
   rw [if_neg hn0] at hx ⊢;cases htv:takeVals σ.h es (σ.gets xs) with
   | none=>simp [htv] at hx
   | some p =>
     obtain ⟨c,h1⟩:=p;simp only [htv] at hx;cases hnew:newOb h1 (b+s) (.own es c) with
     | none=>simp [hnew] at hx
     | some p =>
       obtain ⟨hh,st⟩:=p;simp only [hnew,Option.some.injEq,Prod.mk.injEq] at hx;obtain ⟨rfl,rfl⟩:=hx;obtain ⟨k1,e1,e2⟩:=VX _ ha (fun v hv=>by
        simp only [St.gets,List.mem_map] at hv;obtain ⟨x,hx,rfl⟩:=hv;exact hn x hx) htv
       obtain ⟨k2,e3,e4⟩:=newOb_loc e2.alike hst hnew;exact ⟨k2,by rw [e1];simp only [e3],e2.trans e4⟩
  ·cases hx
 case app s es bytes x y =>
  simp only [ax,ho.1,ho.2] at hx ⊢;cases hy:appY σ.h es (σ.get y) with
  | none=>simp [hy] at hx
  | some p =>
    obtain ⟨ys,h1⟩:=p;simp only [hy] at hx;cases hxx:appX h1 es (σ.get x) with
    | none=>simp [hxx] at hx
    | some p =>
      obtain ⟨xs,h2⟩:=p;simp only [hxx] at hx;obtain ⟨k1,e1,e2⟩:=AgE ha hn.2 hy;obtain ⟨k2,e3,e4⟩:=appX_loc e2.alike hn.1 hxx;have e5:=e2.trans e4;simp only [e1,e3];split at hx
      ·rename_i hc;rw [if_pos hc];split at hx<;>(first|cases hx|skip)
       all_goals exact ⟨k2,rfl,e5⟩
      ·rename_i hc;rw [if_neg hc];split at hx
       ·rename_i hc2;rw [if_pos hc2];cases hnew:newOb h2 (b+s) (.own es (xs++ys)) with
        | none=>simp [hnew] at hx
        | some p =>
          obtain ⟨hh,st⟩:=p;simp only [hnew,Option.some.injEq,Prod.mk.injEq] at hx;obtain ⟨rfl,rfl⟩:=hx;obtain ⟨k3,e6,e7⟩:=newOb_loc e5.alike hst hnew;exact ⟨k3,by rw [e6],e5.trans e7⟩
       ·cases hx
 case mks s es bytes z x y =>
  simp only [ax,ho.1,ho.2] at hx ⊢;generalize σ.get x=gx at hx ⊢;generalize σ.get y=gy at hx ⊢;split at hx
  ·rename_i l c;split at hx
   ·rename_i hc;rw [if_pos hc];cases hnew:newOb σ.h (b+s) (.own es (List.replicate l.toNat z)) with
    | none=>simp [hnew] at hx
    | some p =>
      obtain ⟨hh,st⟩:=p;simp only [hnew,Option.some.injEq,Prod.mk.injEq] at hx;obtain ⟨rfl,rfl⟩:=hx;obtain ⟨k',e3,e4⟩:=newOb_loc ha hst hnew;exact ⟨k',by rw [e3],e4⟩
   ·cases hx
  ·cases hx
 case sto n x y =>
  have hnx:=hn.1;simp only [ax,ho.1,ho.2] at hx ⊢;cases hg:σ.get x<;>simp only [hg,reduceCtorEq] at hx ⊢;rename_i r st p ss i j;have hr:r∈rs:=by rw [hg] at hnx;exact hnx r (by simp [rootsOf])
  rw [Be ha hr,Nw ha hn.2];cases hnd:node σ.h r st p ss with
  | none=>simp [hnd] at hx
  | some nd =>
    cases hvc:vcells σ.h n (σ.get y) with
    | none=>cases nd<;>simp [hnd,hvc] at hx
    | some vs =>
      cases nd<;>simp only [hnd,hvc,reduceCtorEq] at hx ⊢;cases htk:takeCells σ.h vs with
      | none=>simp [htk] at hx
      | some q =>
        obtain ⟨cs,h1⟩:=q;simp only [htk] at hx;obtain ⟨k1,e1,e2⟩:=Nb vs ha (Oh hn.2 hvc) htk;simp only [e1,Abh e2.alike hr];cases hna:nodeAt h1 r p with
        | none=>simp [hna] at hx
        | some nd2 =>
          cases nd2<;>simp only [hna,reduceCtorEq] at hx ⊢;rename_i es xs;cases hxi:xs[i]? with
          | none=>simp [hxi] at hx
          | some e =>
            simp only [hxi] at hx ⊢;split at hx
            ·rename_i hc;rw [if_pos hc];cases hso:setOb h1 r p (.own es (xs.set i (setCells e j cs))) (cs.any isNode||((e.cells.drop j).take n).any isNode) with
             | none=>simp [hso] at hx
             | some hf =>
               simp only [hso,Option.map_some,Option.some.injEq,Prod.mk.injEq] at hx;obtain ⟨rfl,rfl⟩:=hx;obtain ⟨k2,e3,e4⟩:=CT e2.alike hr hso;exact ⟨k2,by rw [e3];rfl,e2.trans e4⟩
            ·cases hx
 case cpy x y =>
  have hnx:=hn.1;simp only [ax,ho.1,ho.2] at hx ⊢;cases hg:σ.get x<;>simp only [hg,reduceCtorEq] at hx ⊢;rename_i r st p ss off len;have hr:r∈rs:=by rw [hg] at hnx;exact hnx r (by simp [rootsOf])
  rw [Be ha hr,cpyY_loc ha hn.2];cases hnd:node σ.h r st p ss with
  | none=>simp [hnd] at hx
  | some nd =>
    cases hcy:Ah1 σ.h (σ.get y) with
    | none=>cases nd<;>simp [hnd,hcy] at hx
    | some ys =>
      cases nd<;>simp only [hnd,hcy,reduceCtorEq] at hx ⊢;rename_i es xs;split at hx
      ·rename_i hc;rw [if_pos hc];cases hso:setOb σ.h r p (.own 1 (xs.take off++ys.take len++xs.drop (off+min ys.length len))) false with
       | none=>simp only [hso,Option.map_none,reduceCtorEq] at hx
       | some hf =>
         simp only [hso,Option.map_some,Option.some.injEq,Prod.mk.injEq] at hx;obtain ⟨rfl,rfl⟩:=hx;obtain ⟨k2,e3,e4⟩:=CT ha hr hso;exact ⟨k2,by rw [e3];rfl,e4⟩
      ·cases hx
 case clr z x =>
  simp only [ax,ho] at hx ⊢;cases hg:σ.get x<;>simp only [hg,reduceCtorEq] at hx ⊢
  ·simp only [Option.some.injEq,Prod.mk.injEq] at hx;obtain ⟨rfl,rfl⟩:=hx;exact ⟨τ.h,rfl,E1.refl ha⟩
  ·simp only [Option.some.injEq,Prod.mk.injEq] at hx;obtain ⟨rfl,rfl⟩:=hx;exact ⟨τ.h,rfl,E1.refl ha⟩
  rename_i r st p ss off len;have hr:r∈rs:=by rw [hg] at hn;exact hn r (by simp [rootsOf])
  rw [Be ha hr];cases hnd:node σ.h r st p ss with
  | none=>simp [hnd] at hx
  | some nd =>
    cases nd<;>simp only [hnd,reduceCtorEq] at hx ⊢;rename_i es xs;split at hx
    ·rename_i hc;rw [if_pos hc];cases hso:setOb σ.h r p (.own 1 (xs.take off++List.replicate len z++xs.drop (off+len))) false with
     | none=>simp only [hso,Option.map_none,reduceCtorEq] at hx
     | some hf =>
       simp only [hso,Option.map_some,Option.some.injEq,Prod.mk.injEq] at hx;obtain ⟨rfl,rfl⟩:=hx;obtain ⟨k2,e3,e4⟩:=CT ha hr hso;exact ⟨k2,by rw [e3];rfl,e4⟩
    ·cases hx
 case mup kk x y z =>
  have hnx:=hn.1;simp only [ax,ho.1,ho.2.1,ho.2.2] at hx ⊢;cases hg:σ.get x<;>simp only [hg,reduceCtorEq] at hx ⊢;rename_i r st p ss;have hr:r∈rs:=by rw [hg] at hnx;exact hnx r (by simp [rootsOf])
  rw [Be ha hr];cases hnd:node σ.h r st p ss with
  | none=>simp [hnd] at hx
  | some nd =>
    cases nd<;>simp only [hnd,reduceCtorEq] at hx ⊢;rename_i es;split at hx
    ·rename_i hc;rw [if_pos hc];cases hfk:findK kk (σ.get y) es with
     | none=>simp [hfk] at hx
     | some o =>
       cases o with
       | some i =>
         simp only [hfk] at hx ⊢;cases hei:es[i]? with
         | none=>simp [hei] at hx
         | some kv =>
           obtain ⟨k',v'⟩:=kv;simp only [hei] at hx ⊢;cases hso:setOb σ.h r p (.ownm (es.set i (k',σ.get z))) false with
           | none=>simp [hso] at hx
           | some hf =>
             simp only [hso,Option.map_some,Option.some.injEq,Prod.mk.injEq] at hx;obtain ⟨rfl,rfl⟩:=hx;obtain ⟨k2,e3,e4⟩:=CT ha hr hso;exact ⟨k2,by rw [e3];rfl,e4⟩
       | none =>
         simp only [hfk] at hx ⊢;cases hso:setOb σ.h r p (.ownm (es++[(σ.get y,σ.get z)])) false with
         | none=>simp [hso] at hx
         | some hf =>
           simp only [hso,Option.map_some,Option.some.injEq,Prod.mk.injEq] at hx;obtain ⟨rfl,rfl⟩:=hx;obtain ⟨k2,e3,e4⟩:=CT ha hr hso;exact ⟨k2,by rw [e3];rfl,e4⟩
    ·cases hx
 case men kk z x y =>
  have hnx:=hn.1;simp only [ax,ho.1,ho.2] at hx ⊢;cases hg:σ.get x<;>simp only [hg,reduceCtorEq] at hx ⊢;rename_i r st p ss;have hr:r∈rs:=by rw [hg] at hnx;exact hnx r (by simp [rootsOf])
  rw [Be ha hr];cases hnd:node σ.h r st p ss with
  | none=>simp [hnd] at hx
  | some nd =>
    cases nd<;>simp only [hnd,reduceCtorEq] at hx ⊢;rename_i es;split at hx
    ·rename_i hc;rw [if_pos hc];cases hfk:findK kk (σ.get y) es with
     | none=>simp [hfk] at hx
     | some o =>
       cases o with
       | some i =>
         simp only [hfk] at hx ⊢;cases hei:es[i]? with
         | none=>simp [hei] at hx
         | some kv =>
           obtain ⟨k',v'⟩:=kv;simp only [hei,Option.some.injEq,Prod.mk.injEq] at hx ⊢;obtain ⟨rfl,rfl⟩:=hx;exact ⟨τ.h,⟨rfl,rfl⟩,E1.refl ha⟩
       | none =>
         simp only [hfk] at hx ⊢;cases hso:setOb σ.h r p (.ownm (es++[(σ.get y,z)])) false with
         | none=>simp [hso] at hx
         | some hf =>
           simp only [hso,Option.map_some,Option.some.injEq,Prod.mk.injEq] at hx;obtain ⟨rfl,rfl⟩:=hx;obtain ⟨k2,e3,e4⟩:=CT ha hr hso;exact ⟨k2,by rw [e3];rfl,e4⟩
    ·cases hx
 case est x y z =>
  have hnx:=hn.1;simp only [ax,ho.1,ho.2.1,ho.2.2] at hx ⊢;generalize σ.get x=gx at hnx hx ⊢;generalize σ.get y=gy at hx ⊢;split at hx
  ·rename_i r st p ss r' st' p' ss' i;have hr:r∈rs:=hnx r (by simp [rootsOf]);split at hx
   ·rename_i hc;rw [if_pos hc,Be ha hr];cases hnd:node σ.h r st p ss with
    | none=>simp [hnd] at hx
    | some nd =>
      cases nd<;>simp only [hnd,reduceCtorEq] at hx ⊢;rename_i es;cases hei:es[i]? with
      | none=>simp [hei] at hx
      | some kv =>
        obtain ⟨k',v'⟩:=kv;simp only [hei] at hx ⊢;cases hso:setOb σ.h r p (.ownm (es.set i (k',σ.get z))) false with
        | none=>simp [hso] at hx
        | some hf =>
          simp only [hso,Option.map_some,Option.some.injEq,Prod.mk.injEq] at hx;obtain ⟨rfl,rfl⟩:=hx;obtain ⟨k2,e3,e4⟩:=CT ha hr hso;exact ⟨k2,by rw [e3];rfl,e4⟩
   ·cases hx
  ·cases hx
 all_goals (simp [ax] at hx)
end Go.Mw
