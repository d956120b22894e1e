/- The pairs that can be reached: (meet.combiner).combine. -/
import Derived.Test.YtondemeliogjmaaGreatM24
set_option linter.unusedVariables false
set_option linter.unusedSimpArgs false
namespace Go.Mw
set_option maxRecDepth 100000
attribute [local go_sem] takeCellK_mp one_mp cells_mp isNode_ownm lokK_mpP mupK_mpP mupF_E mupF_nil cells_nilm plain_nilm
def ePr (p:Pr):AV:=.agg [I p.1,I p.2]
def AiN (x:Stt):AV:=.agg [.lst (x.A.map I),.own 1 (x.X.map I)]
theorem AgB {l:List Stt}:(l.map AiN).map frz=l.map eSt:=by
 have h:∀l:List Int,(l.map I).map frz=l.map I:=fun l=>by rw [List.map_map];rfl
 rw [List.map_map];congr 1;funext x;simp only [Function.comp,AiN,eSt,go_sem,h]
theorem outvK_fn {r st:Nat}{p:Path}{ss:Nat}{f:FuncId}{cs:List AV}{q:AV→Prop}:SR r st p ss (.fn f cs) q=q (.fn f cs):=(rfl)
theorem Zi {b:Nat}{σ:St}{f:FuncId}{xs:List Opd}{s:Nat}(h:PureF G f):foot G b (.call f xs [s]) σ=some ((b+s)::rootsL (σ.gets xs)):=by
 obtain ⟨F,h1,h2⟩:=h;simp [foot,h1,h2]
structure CB (acts:List ByteArray)(Gd:Pr→Prop)(sets:Pr→List Int)(nx:Pr→Nat→Pr)(fs fn:FuncId)(cs cn:List AV):Prop where
 ok:actsOk acts=true
 ps:PureF G fs
 pn:PureF G fn
 ts:∀h,treeBL 0 h cs=cs
 tn:∀h,treeBL 0 h cn=cn
 fs1:(AV.fn fs cs).plain=true
 fn1:(AV.fn fn cn).plain=true
 fa:cs.all AV.free=true∧rootsL cs = []
 na:cn.all AV.free=true∧rootsL cn = []
 gs:∀p,Gd p→Fn G fs (ePr p::cs) (.lst ((sets p).map I))
 gn:∀p a,Gd p→a<acts.length→usedP (fun p v=>v∈sets p) p a→Fn G fn (ePr p::I a::cn) (ePr (nx p a))
 b:∀p,Gd p→(∀v∈sets p,0≤v∧v<((2 ^ acts.length:Nat):Int))∧(sets p).length≤1048576∧(sets p).Pairwise (· < ·)
 nxg:∀p a,Gd p→a<acts.length→usedP (fun p v=>v∈sets p) p a→Gd (nx p a)
 z:Gd (0,0)
theorem Zo {acts:List ByteArray}{Gd:Pr→Prop}{sets:Pr→List Int}{nx:Pr→Nat→Pr}{fs fn:FuncId}{cs cn:List AV}(h:CB acts Gd sets nx fs fn cs cn) :
 FnP G Ak [.agg [.fn fs cs,.fn fn cn],.lst (acts.map .str),ePr (0,0)] (fun rs h =>
  (∃out l,PS Gd acts (fun p v=>v∈sets p) nx (usedP fun p v=>v∈sets p) out l∧l.length≤500∧packV (treeBL 0 h rs) = .tup [eSp out,Bo true]) ∨
  (∃l:List Pr,l.Nodup∧(∀p∈l,Gd p)∧l.length=501∧packV (treeBL 0 h rs) = .tup [.agg [.lst [],.lst []],Bo false])):=by
 have hk8:=Ax h.ok;have hfs:=h.fs1;have hfn:=h.fn1;obtain ⟨fa1,fa2⟩:=h.fa;obtain ⟨na1,na2⟩:=h.na;refine FnP.mk' JL rfl rfl ?_;simp only [go_sem,↓reduceIte,↓Aa,DB,ePr,takeCellK_plain hfs,takeCellK_plain hfn,TZ (show acts.length≤1048576 by omega)];refine Ad (fun (g:List Pr×List Stt) σ=>CI Gd acts.length sets nx (usedP fun p v=>v∈sets p) g.2.length g.1 g.2∧g.1.length≤500∧∃z5 z7 z8 s9 a10 c10 a11 c11 a12 c12 a13 c13 a14 c14 a15 c15 a16 c16 a17 c17,σ=⟨aT .undef 102 [(1,.lst (acts.map .str)),(3,.ptr 0 1 [] 0 0 0),(6,.ptr 2 1 [] 0 0 0),(7,.ptr 3 1 [] 0 0 0),(8,.ptr 5 1 [] 0 0 0),(9,.ptr 7 1 [] 0 0 0),(10,.ptr 8 1 [] 0 0 0),(11,.ptr 9 s9 [] 0 0 0)],[⟨1,0,.own 2 [.agg [.fn fs cs,.fn fn cn]]⟩,⟨1,0,.own 2 [.agg [I 0,I 0]]⟩,⟨1,0,.own 2 [.agg [.nils,.nils]]⟩,⟨1,0,.own 1 [.bool false]⟩,⟨1,0,.gone⟩,⟨1,z5,.own 1 [.ownm (FF (Yx g.1))]⟩,⟨1,0,.gone⟩,⟨1,z7,.own 1 [.own 2 (g.1.map ePr)]⟩,⟨1,z8,.own 2 [.agg [.lst (acts.map .str),cellv .nils 2 (g.2.map AiN)]]⟩,⟨s9,0,.own 1 [I g.2.length]⟩,⟨a10,c10,.gone⟩,⟨a11,c11,.gone⟩,⟨a12,c12,.gone⟩,⟨a13,c13,.gone⟩,⟨a14,c14,.gone⟩,⟨a15,c15,.gone⟩,⟨a16,c16,.gone⟩,⟨a17,c17,.gone⟩,⟨0,0,.gone⟩],[]⟩) (fun g=>500-g.2.length) ?_ ([(0,0)],[]) ?_
 ·rintro ⟨l,outs⟩ σ ⟨hI,hl5,z5,z7,z8,s9,a10,c10,a11,c11,a12,c12,a13,c13,a14,c14,a15,c15,a16,c16,a17,c17,rfl⟩ N Q hQ hN;simp only at hI hl5;have hil:=hI.il;by_cases hlt:outs.length<l.length
  ·have hgp:=hI.good _ (AJ hlt);have hb:=h.b _ hgp;have hSet:∀ {roots:List Nat}{b:Nat}{ss:List Nat}{σ:St}{k:AV→St→Prop},callT G fs (.agg [I l[outs.length]!.1,I l[outs.length]!.2]::cs) true roots b ss σ k=k (.lst ((sets l[outs.length]!).map I)) σ:=(h.gs _ hgp).rule;simp only [go_sem,↓reduceIte,↓Aa,Int.ofNat_lt,hlt,ePr,outvK_fn,Nd h.ps,h.ts,fa1,fa2,Pf h.ps,Zi EM,hSet,AfC hk8];have hS2:=hb.1;generalize hSe:sets l[outs.length]! = S at *;have hSn:∀i<S.length,∃k:Nat,S[i]! = k∧k<2 ^ 8:=fun i hi=>by
    have:=hS2 _ (AJ hi);have h28:2 ^ acts.length≤2 ^ 8:=Nat.pow_le_pow_right (by omega) hk8;exact ⟨S[i]!.toNat,by omega,by omega⟩
   have husz:∀i,usedN (S.take i)<2 ^ 8:=fun i=>M8 fun v hv=>by
    obtain ⟨j,hj,e⟩:=List.mem_iff_getElem.1 (List.mem_of_mem_take hv);obtain ⟨k,e1,e2⟩:=hSn j hj;rw [getElem!_pos S j hj,e] at e1;omega
   have hSl:=hb.2.1;refine Ad (fun (j:Nat) σ=>j≤S.length∧σ=⟨aT .undef 102 [(1,.lst (acts.map .str)),(3,.ptr 0 1 [] 0 0 0),(6,.ptr 2 1 [] 0 0 0),(7,.ptr 3 1 [] 0 0 0),(8,.ptr 5 1 [] 0 0 0),(9,.ptr 7 1 [] 0 0 0),(10,.ptr 8 1 [] 0 0 0),(11,.ptr 9 s9 [] 0 0 0),(12,.ptr 12 (a12+1) [] 0 0 0),(13,I (usedN (S.take j):Nat)),(47,.lst (S.map I)),(48,I S.length),(49,I j)],[⟨1,0,.own 2 [.agg [.fn fs cs,.fn fn cn]]⟩,⟨1,0,.own 2 [.agg [I 0,I 0]]⟩,⟨1,0,.own 2 [.agg [.nils,.nils]]⟩,⟨1,0,.own 1 [.bool false]⟩,⟨1,0,.gone⟩,⟨1,z5,.own 1 [.ownm (FF (Yx l))]⟩,⟨1,0,.gone⟩,⟨1,z7,.own 1 [.own 2 (l.map ePr)]⟩,⟨1,z8,.own 2 [.agg [.lst (acts.map .str),cellv .nils 2 (outs.map AiN)]]⟩,⟨s9,0,.own 1 [I outs.length]⟩,⟨a10+1,0,.gone⟩,⟨a11+1,0,.gone⟩,⟨a12+1,1,.own 2 [.agg [.lst (S.map I),.own 1 (List.replicate acts.length (.int .i64 (-1)))]]⟩,⟨a13,c13,.gone⟩,⟨a14,c14,.gone⟩,⟨a15,c15,.gone⟩,⟨a16,c16,.gone⟩,⟨a17,c17,.gone⟩,⟨0,0,.gone⟩],[]⟩) (fun j=>S.length-j) ?_ 0 ?_
   ·rintro j σ ⟨hj,rfl⟩ N2 Q2 hQ2 hN2;by_cases hlt2:j<S.length
    ·obtain ⟨k,hk1,hk2⟩:=hSn j hlt2;have hu1:=husz j;simp only [go_sem,↓reduceIte,↓Aa,Int.ofNat_lt,hlt2,Ab hlt2 (by omega),hk1,L5 (show usedN (S.take j)<2 ^ 63 by omega) (show k<2 ^ 63 by omega)];refine hN2 (j+1) _ (by omega) ⟨by omega,?_⟩;have e:usedN (S.take (j+1))=usedN (S.take j)|||k:=by
      rw [List.take_succ_eq_append_getElem hlt2,JA,←getElem!_pos S j hlt2,hk1,Int.toNat_natCast]
     simp only [go_sem,↓reduceIte,↓Aa,e]
    ·have hjl:j=S.length:=by omega
     subst hjl hQ2;have hu1:=husz S.length;rw [List.take_length] at hu1;simp only [go_sem,↓reduceIte,↓Aa,Int.ofNat_lt,hlt2,List.take_length,Ako];have hubit:∀a,(usedN S).testBit a=true↔usedP (fun p v=>v∈sets p) l[outs.length]! a:=fun a=>by
      rw [DI];unfold usedP;simp only [hSe]
     have hua:∀a,(usedN S).testBit a=true→a<acts.length:=fun a ha=>by
      obtain ⟨v,hv,hb2⟩:=DI.1 ha;have:=hS2 v hv;exact AO (n:=v.toNat) (by omega) hb2
     refine AjU (usedN S) (by omega) (by simp only [go_sem,↓reduceIte,↓Aa]) (fun a hh=>∃g:List Pr×List Int,CX Gd acts.length (usedP (fun p v=>v∈sets p) l[outs.length]!) (nx l[outs.length]!) l a g.1 g.2∧g.1.length≤500∧∃z5 z7 z12 o13 o14 o15,hh = [⟨1,0,.own 2 [.agg [.fn fs cs,.fn fn cn]]⟩,⟨1,0,.own 2 [.agg [I 0,I 0]]⟩,⟨1,0,.own 2 [.agg [.nils,.nils]]⟩,⟨1,0,.own 1 [.bool false]⟩,⟨1,0,.gone⟩,⟨1,z5,.own 1 [.ownm (FF (Yx g.1))]⟩,⟨1,0,.gone⟩,⟨1,z7,.own 1 [.own 2 (g.1.map ePr)]⟩,⟨1,z8,.own 2 [.agg [.lst (acts.map .str),cellv .nils 2 (outs.map AiN)]]⟩,⟨s9,0,.own 1 [I outs.length]⟩,⟨a10+1,0,.gone⟩,⟨a11+1,0,.gone⟩,⟨a12+1,z12,.own 2 [.agg [.lst (S.map I),.own 1 (g.2.map I)]]⟩,o13,o14,o15,⟨a16,c16,.gone⟩,⟨a17,c17,.gone⟩,⟨0,0,.gone⟩]) ?_ ?_ ?_ ?_ ?_
     ·rintro a hh ⟨g,_,_,z5,z7,z12,o13,o14,o15,rfl⟩;rfl
     ·refine ⟨(l,List.replicate acts.length (-1)),CX.start hI.nd hI.good,hl5,?_⟩;simp only [go_sem,↓reduceIte,↓Aa,List.map_replicate];repeat apply Exists.intro
      rfl
     ·rintro a hh hbit ⟨g,hX,hg5,hr⟩;exact ⟨g,hX.skip (fun hu=>by rw [(hubit a).2 hu] at hbit;cases hbit),hg5,hr⟩
     ·rintro a hh LF LT hbit ha62 ⟨⟨l',X⟩,hX,hg5,z5,z7,z12,o13,o14,o15,rfl⟩;simp only at hX hg5;have haa:=hua a hbit;have huP:=(hubit a).1 hbit;have hle:=hX.pre.length_le;have hig:l'[outs.length]! = l[outs.length]!:=EN hX.pre hlt;have hil':outs.length<l'.length:=by omega
      have hNx:∀ {roots:List Nat}{b:Nat}{ss:List Nat}{σ:St}{k:AV→St→Prop},callT G fn (.agg [I l[outs.length]!.1,I l[outs.length]!.2]::I a::cn) true roots b ss σ k=k (.agg [I (nx l[outs.length]! a).1,I (nx l[outs.length]! a).2]) σ:=(h.gn _ a hgp haa huP).rule;have hgq:=h.nxg _ a hgp haa huP;have hxl:=hX.xl;have hax:a<X.length:=by omega
      have hold:=fun hm=>hX.old haa huP hm;have hnew:=fun hm=>hX.new haa huP hgq hm;generalize nx l[outs.length]! a=q at *;obtain ⟨q1,q2⟩:=q;by_cases hm:(q1,q2)∈l'
      ·have hl1:Z7 (Yx l') (q1,q2) (.int .i64 0)=I (l'.idxOf (q1,q2):Nat):=by rw [Ad6,if_pos hm]
       have hl2:Aem (Yx l') (q1,q2)=true:=by rw [Y6,decide_eq_true hm]
       simp only [go_sem,↓reduceIte,↓Aa,BL,BK,Int.ofNat_lt,hil',hig,ePr,Nd h.pn,h.tn,outvK_fn,hNx,na1,na2,Pf h.pn,hl1,hl2];refine ⟨hax,hax,(l',X.set a (l'.idxOf (q1,q2):Nat)),hold hm,hg5,?_⟩;repeat apply Exists.intro
       rfl
      ·have hl2:Aem (Yx l') (q1,q2)=false:=by rw [Y6,decide_eq_false hm]
       simp only [go_sem,↓reduceIte,↓Aa,BL,BK,Int.ofNat_lt,hil',hig,ePr,Nd h.pn,h.tn,outvK_fn,hNx,na1,na2,Pf h.pn,hl2];refine ⟨fun h5=>?_,fun h5=>?_⟩
       ·have h5':(l'.length:Int)=500:=by simpa using h5
        subst hQ;simp only [go_sem,↓reduceIte,↓Aa];refine .inr ⟨l'++[(q1,q2)],nodup_snoc hX.nd hm,?_,?_⟩
        ·intro q hq;rw [List.mem_append,List.mem_singleton] at hq;rcases hq with hq|rfl
         ·exact hX.good q hq
         ·exact hgq
        ·simp only [List.length_append,List.length_singleton];omega
       ·have h5':¬(l'.length:Int)=500:=by simpa using h5
        refine ⟨⟨by omega,rfl⟩,hax,hax,(l'++[(q1,q2)],X.set a (l'.length:Nat)),hnew hm,by simp only [List.length_append,List.length_singleton];omega,?_⟩;simp only [Yw hm,List.map_append,List.map_cons,List.map_nil,ePr];repeat apply Exists.intro
        rfl
     ·rintro a hh ha ⟨⟨l',X⟩,hX,hg5,z5,z7,z12,o13,o14,o15,rfl⟩;simp only at hX hg5;simp only [go_sem,↓reduceIte,↓Aa,Ab hlt (show l.length≤1000000000 by omega)];refine ⟨by omega,hN (l',outs++[⟨S,X⟩]) _ (by simp only [List.length_append,List.length_singleton];omega) ⟨?_,hg5,?_⟩⟩
      ·simp only [List.length_append,List.length_singleton];rw [←hSe];exact hI.next hlt (a:=a) (fun b hb hab hu=>by
        have h1:=(hubit b).2 hu;rw [testBit_big ha hab] at h1;cases h1) hX
      ·simp only [go_sem,↓reduceIte,↓Aa,List.map_append,AiN];repeat apply Exists.intro
       rfl
   ·refine ⟨by omega,?_⟩;simp only [go_sem,↓reduceIte,↓Aa,List.take_zero];rfl
  ·subst hQ;simp only [go_sem,↓reduceIte,↓Aa,Int.ofNat_lt,hlt,AgB];exact .inl ⟨_,l,hI.fin (by omega) rfl (fun p hp=>(h.b p hp).2.2),hl5,rfl⟩
 ·refine ⟨CI.start h.z,by simp,?_⟩;have e0:putM [] ((0:Int),(0:Int)) (.int .i64 0)=Yx [(0,0)]:=Yw (l:=[]) (by simp);simp only [go_sem,↓reduceIte,↓Aa,e0,ePr];repeat apply Exists.intro
  rfl
end Go.Mw
namespace Go.Mw
set_option maxRecDepth 100000
theorem FnP.ex {f:FuncId}{xs:List AV}{P:AV→Prop}(h:FnP G f xs fun rs h=>P (packV (treeBL 0 h rs))):∃v,P v∧Fn G f xs v:=by
 obtain ⟨F,n,rs,σ1,h1,h2,h3,h4,h5,h6,h7⟩:=h.ok;exact ⟨_,h7,F,n,rs,σ1,h1,h2,h3,h4,h5,h6,rfl⟩
section
variable {h:List Ob}{f:FuncId}{a b c:List AV}{q:AV→List Ob→Prop}
theorem takeCellK_fn2:BM h (.fn f [.pfro a,.pfro b]) q=q (.fn f [.pfro a,.pfro b]) h:=takeCellK_plain rfl
theorem takeCellK_fn3:BM h (.fn f [.pfro a,.pfro b,.pfro c]) q=q (.fn f [.pfro a,.pfro b,.pfro c]) h:=takeCellK_plain rfl
theorem oneK_fn2:QU h (.fn f [.pfro a,.pfro b])=True:=eq_true rfl
theorem oneK_fn3:QU h (.fn f [.pfro a,.pfro b,.pfro c])=True:=eq_true rfl
theorem cells_nilf:AV.nilf.cells = [.nilf]:=rfl
theorem RL:setCellOf .nilf 0 (.fn f []) = .fn f []:=rfl
theorem frz_fn0:frz (.fn f []) = .fn f []:=rfl
theorem plain_nilf:AV.nilf.plain=true:=rfl
end
attribute [go_sem]   RL frz_fn0 cells_nilf takeCellK_fn2 takeCellK_fn3 oneK_fn2 oneK_fn3 plain_nilf outvK_fn
def fz (s:Spc):AV:=.pfro [.lst (s.acts.map .str),.lst (s.S.map eSt)]
def Mq (s t:Spc)(p:Pr):List Int:=(s.S[p.1.toNat]!.A).filter fun v=>decide (v∈t.S[p.2.toNat]!.A)
theorem QJ {s t:Spc}{p:Pr}(hp:gdM s.S.length t.S.length p){v:Int}:v∈Mq s t p↔accM s t p v:=by
 obtain ⟨h1,h2,h3,h4⟩:=hp;unfold Mq accM accP;rw [List.mem_filter,decide_eq_true_iff];simp only [h1,h3,true_and]
section
variable {m q:Nat}{s t:Spc}(hs:SpcK m s) (ht:SpcK q t) (he:t.acts=s.acts)
include hs ht
include he
end
end Go.Mw
namespace Go.Mw
set_option maxRecDepth 100000
theorem acL7_ris {m:Nat}{s:Spc}(hs:SpcK m s){x:Int}(hx:x<(s.S.length:Int)):(acL7 s x).Pairwise (· < ·)∧(acL7 s x).length≤256:=by
 unfold acL7;split
 ·exact ⟨List.Pairwise.nil,by simp⟩
 ·exact ⟨K9 (hs.st x.toNat (by omega)).ris,hs.alen (by omega)⟩
section
variable {m q:Nat}{s t:Spc}(hs:SpcK m s) (ht:SpcK q t) (he:t.acts=s.acts)
include hs ht
include he
end
end Go.Mw
namespace Go.Mw
set_option maxRecDepth 100000
theorem wpX_congr {G:Prg}{ops:List Rop}{b:Nat}{σ τ:St}{K:St→List (Option (List Nat))→List Sft→Prop}(h:σ=τ):WpX G ops b σ K=WpX G ops b τ K:=by rw [h]
attribute [congr] wpX_congr
def rdP (v:AV):Sft:=match v with | .ptr r _ p _ _ _=>.rd r p|_=>.no
def rdS (v:AV):Sft:=match v with | .sl r _ p _ _ _=>.rd r p|_=>.no
def Aj5 (o:Option AV)(x:Sft):Sft:=match o with|some (.own ..)=>x|_=>.no
def rdC (h:List Ob)(v:AV):Sft:=match v with | .ptr r _ p _ i j=>Aj5 (nodeAt h r (p++[(i,j)])) (.rd r (p++[(i,j)]))|_=>.no
def apP (s:Nat)(x y:AV):Sft:=match x with | .sl r _ p _ _ _=>.ap r p (s::rootsOf y)|_=>.no
def apM (xs:List AV)(r:Nat)(p:Path)(os:List Nat):Sft:=if xs = [] then .no else .ap r p os
section
variable {b:Nat}{σ:St}{x y z:Opd}{r st ss i j off len es s n m:Nat}{p q:Path}{xs:List AV}{h:List Ob}
def Aky (p q:Path):Prop:=p.isPrefixOf q=false
end
end Go.Mw
namespace Go.Mw
set_option maxRecDepth 100000
def giveK (B:Nat)(h1 h0:List Ob)(b:Nat)(ss:List Nat)(rs:List AV)(k:AV→List Ob→Prop)(u:Tg k:=tg):Prop:=match NQ true B h1 h0 b ss rs with|some (v,h)=>k v h|none=>False
theorem AcT {G:Prg}{f:FuncId}{xs:List AV}{b s:Nat}{σ:St}{K:AV→St→Prop}{np nt ns:Nat}{c:C}{res:List (Nat×Option (Bool×Nat))}{sp:Bool}(hf:G f=some ⟨np,nt,ns,c,res,false,true,sp⟩)(hl:xs.length=np)
 (h:Wp G c σ.h.length { t:=xs++List.replicate (nt-xs.length) (.tup []),h:=σ.h++List.replicate ns Jv,lp:=σ.lp }
   (fun e σ1=>(match e with | .ext _=>False|_=>True)∧Wg σ1 res (fun rs=>giveK σ.h.length σ1.h (σ1.h.take σ.h.length) b [s] rs (fun v h=>K v ⟨σ.t,h,σ1.lp⟩)))):CO G f xs b [s] σ K:=by
 obtain ⟨n,e,σ1,hx,he,hr⟩:=h;unfold Wg at hr;cases hrs:resT σ1 res with
 | none=>simp [hrs] at hr
 | some rs =>
   simp only [hrs] at hr;unfold giveK at hr;cases hg:NQ true σ.h.length σ1.h (σ1.h.take σ.h.length) b [s] rs with
   | none=>simp [hg] at hr
   | some p =>
     obtain ⟨v,h⟩:=p;simp only [hg] at hr;refine ⟨n+2,_,_,?_,hr⟩;rw [callF,hf];simp only [hl,if_true,Bool.false_eq_true,if_false];rw [runF];rw [hl] at hx;simp only [hx];cases e with
     | ext i=>exact he.elim
     | nrm=>simp only [hrs,List.isEmpty_cons,Bool.not_false,Bool.true_and,hg]
     | ret=>simp only [hrs,List.isEmpty_cons,Bool.not_false,Bool.true_and,hg]
theorem Ac0 {B:Nat}{h1 h0:List Ob}{b s r st sb off len:Nat}{p:Path}{κ:IntKind}{n:Int}{k:AV→List Ob→Prop}(h:r<B):giveK B h1 h0 b [s] [.int κ n,.sl r st p sb off len] k=k (.tup [.int κ n,.sl r st p sb off len]) h0:=by
 unfold giveK;simp only [NQ,Nat.not_le.2 h,if_false]
theorem AcQ {B:Nat}{h1 h0:List Ob}{b s r st sb off len:Nat}{p:Path}{κ:IntKind}{n:Int}{k:AV→List Ob→Prop}(h:B≤r) :
 giveK B h1 h0 b [s] [.int κ n,.sl r st p sb off len] k=Br h1 r st p sb (fun nd=>Jl nd (fun es xs=>(off=0∧len=xs.length∧xs.all (fun e:AV=>e.cells.all AV.plain)=true)∧OC h0 (b+s) (.own es xs) (fun h st'=>k (.tup [.int κ n,.sl (b+s) st' [] 0 0 len]) h))):=by
 unfold giveK Br;simp only [NQ,h,if_true];cases node h1 r st p sb with
 | none=>rfl
 | some nd =>
   cases nd<;>first|rfl|skip
   rename_i es xs;simp only [Jl,OC];by_cases hc:off=0∧len=xs.length∧xs.all (fun e:AV=>e.cells.all AV.plain)=true
   ·rw [if_pos hc];cases newOb h0 (b+s) (.own es xs) with
    | none=>simp
    | some q=>simp only [hc,and_self,true_and]
   ·rw [if_neg hc];simp only [hc,false_and]
section
variable {H os:List Ob}{r k:Nat}
theorem Akf (h:r<H.length):(H++os)[r]? = H[r]? := List.getElem?_append_left h
theorem AgH:(H++os)[H.length+k]? = os[k]? := by rw [List.getElem?_append_right (by omega),Nat.add_sub_cancel_left]
theorem Aii:(H++os)[H.length]? = os[0]? := by rw [List.getElem?_append_right (by omega),Nat.sub_self]
theorem AjA {o:Ob}(h:r<H.length):(H++os).set r o=H.set r o++os:=List.set_append_left _ _ h
theorem ap_shi {o:Ob}:(H++os).set (H.length+k) o=H++os.set k o:=by rw [List.set_append_right _ _ (by omega),Nat.add_sub_cancel_left]
theorem Aek {o:Ob}:(H++os).set H.length o=H++os.set 0 o:=by rw [List.set_append_right _ _ (by omega),Nat.sub_self]
theorem AcX:(H++os).take H.length=H:=by simp
theorem Ah2 {ks:List Nat}:freeSites H.length ks (H++os)=H++Jk ks 0 os:=by
 rw [←Fj];unfold freeSites;induction ks generalizing H os with
 | nil=>rfl
 | cons x ks ih =>
   simp only [List.map_cons,At,List.foldl_cons];have e1:(H++os).modify (H.length+x) (fun o=>{ o with c:=.gone })=H++os.modify (0+x) (fun o=>{ o with c:=.gone }):=by
    apply List.ext_getElem?;intro i;rw [List.getElem?_modify,Nat.zero_add];by_cases hi:i<H.length
    ·rw [List.getElem?_append_left hi,List.getElem?_append_left hi];have:¬H.length+x=i:=by omega
     simp [this]
    ·rw [List.getElem?_append_right (by omega),List.getElem?_append_right (by omega),List.getElem?_modify];have:(H.length+x=i)=(x=i-H.length):=propext ⟨fun h=>by omega,fun h=>by omega⟩;simp only [this]
   rw [e1];exact ih
theorem Y3:Jk [H.length+k] 0 (H++os)=H++Jk [k] 0 os:=by
 have:=@Ah2 H os [k];rw [L8,Fj] at this;exact this
theorem Ag1 {o:Ob}:(H.set r o++os)[H.length+k]? = os[k]? := by
 have:=@AgH (H.set r o) os k;rw [List.length_set] at this;exact this
theorem AhK {o u:Ob}:(H.set r o++os).set (H.length+k) u=H.set r o++os.set k u:=by
 have:=@ap_shi (H.set r o) os k u;rw [List.length_set] at this;exact this
theorem AfH {o:Ob}:(H.set r o++os).take H.length=H.set r o:=by
 have:=@AcX (H.set r o) os;rw [List.length_set] at this;exact this
end
end Go.Mw
namespace Go.Mw
set_option maxRecDepth 100000
section
variable {b:Nat}{σ:St}
end
end Go.Mw
namespace Go.Mw
set_option maxRecDepth 100000
theorem place_ok {H:List Ob}{r st ss s0 bs s:Nat}{l:List Pr}{q:Pr}(hr:H[r]? = some ⟨st,ss,.own 2 (l.map ePr)⟩)(hl:l.length≤100000)(hnd:l.Nodup){t:List AV}{lp:List Lp}{K:AV→St→Prop}
 (h1:q∈l→K (.tup [I (l.idxOf q:Nat),.sl r st [] s0 0 l.length]) ⟨t,H,lp⟩)
 (h2:q∉l→OC (H.set r ⟨st,ss,.gone⟩) (bs+s) (.own 2 (l.map ePr++[ePr q])) (fun h st'=>K (.tup [I l.length,.sl (bs+s) st' [] 0 0 (l.length+1)]) ⟨t,h,lp⟩)) :
 CO G Kg [.sl r st [] s0 0 l.length,ePr q] bs [s] ⟨t,H,lp⟩ K:=by
 have hrl:r<H.length:=List.lt_of_some hr;have hr':∀os,(H++os)[r]? = some ⟨st,ss,.own 2 (l.map ePr)⟩:=fun os=>by rw [Akf hrl];exact hr
 refine AcT Yc rfl ?_;rw [Jn (by simp)];obtain ⟨q1,q2⟩:=q;simp only [go_sem,↓reduceIte,↓Aa,Pv,ePr,AgH,Aii,ap_shi,Aek,hr'];refine Ad (fun (i:Nat) σ=>i≤l.length∧(∀j<i,l[j]!≠(q1,q2))∧∃a1 c1,σ=⟨aT .undef 27 [(0,.sl r st [] s0 0 l.length),(3,.ptr H.length 1 [] 0 0 0),(8,.sl r st [] s0 0 l.length),(9,I l.length),(10,I i)],H++[⟨1,0,.own 2 [.agg [I q1,I q2]]⟩,⟨a1,c1,.gone⟩,⟨0,0,.gone⟩,⟨0,0,.gone⟩],lp⟩) (fun i=>l.length-i) ?_ 0 ?_
 ·rintro i σ ⟨hi,hne,a1,c1,rfl⟩ N Q hQ hN;by_cases hlt:i<l.length
  ·simp only [go_sem,↓reduceIte,↓Aa,Int.ofNat_lt,hlt,ePr,AgH,Aii,ap_shi,Aek,hr',Ab hlt (by omega)];refine ⟨fun h=>?_,fun h=>?_⟩
   ·have he:l[i]! = (q1,q2):=by
     simp only [bne_iff_ne,ne_eq,Bool.not_eq_false,Bool.and_eq_true,beq_iff_eq] at h;exact Prod.ext h.1.symm h.2.symm
    subst hQ;simp only [go_sem,↓reduceIte,↓Aa,Ac0 hrl,AcX];have hix:l.idxOf (q1,q2)=i:=by
     rw [←he,getElem!_pos l i hlt];exact hnd.idxOf_getElem i hlt
    have:=h1 (he▸AJ hlt);rw [hix] at this;exact this
   ·have he:l[i]!≠(q1,q2):=fun e=>by rw [e] at h;simp at h
    refine hN (i+1) _ (by omega) ⟨by omega,Ae hne he,?_⟩;simp only [go_sem,↓reduceIte,↓Aa,Y3];repeat apply Exists.intro
    rfl
  ·have hil:i=l.length:=by omega
   subst hil hQ;have hnm:(q1,q2)∉l:=fun hm=>by
    obtain ⟨j,hj,e⟩:=getAt hm;exact hne j hj e
   simp only [go_sem,↓reduceIte,↓Aa,Int.ofNat_lt,hlt,ePr,AgH,Aii,ap_shi,Aek,AjA hrl,hr',Ag1,AhK];refine ⟨⟨by omega,rfl⟩,?_⟩;have h2':=h2 hnm;have hall:(l.map ePr++[ePr (q1,q2)]).all (fun e:AV=>e.cells.all AV.plain)=true:=by
    rw [List.all_eq_true];intro x hx;rw [List.mem_append,List.mem_map,List.mem_singleton] at hx;rcases hx with ⟨p,_,rfl⟩|rfl<;>rfl
   rw [AcQ (show H.length≤H.length+3 by omega),AfH];simp only [go_sem,↓reduceIte,↓Aa,Ag1];rw [Xn] at h2';exact ⟨hall,h2'⟩
 ·refine ⟨by omega,fun j hj=>by omega,?_⟩;simp only [go_sem,↓reduceIte,↓Aa,Y3];repeat apply Exists.intro
  rfl
def padX (n:Nat)(X:List Int):List Int:=X++List.replicate (n-X.length) (-1)
theorem AdD {l:List Stt}:(l.map rowS).map frz=l.map eSt:=by rw [List.map_map];congr 1;funext x;exact frz_rowS x
theorem YX {n:Nat}{X:List Int}{k:Int}(h:X.length<n):(padX n X).set X.length k=padX n (X++[k]):=by
 unfold padX;obtain ⟨d,hd⟩:∃d,n-X.length=d+1:=⟨n-X.length-1,by omega⟩;rw [List.set_append_right _ _ (Nat.le_refl _),Nat.sub_self,hd,List.replicate_succ,List.set_cons_zero,List.length_append,List.length_singleton,show n-(X.length+1)=d by omega,List.append_assoc];rfl
theorem Ac1 {n:Nat}{X:List Int}(h:X.length<n):padX n (X++[-1])=padX n X:=by
 unfold padX;obtain ⟨d,hd⟩:∃d,n-X.length=d+1:=⟨n-X.length-1,by omega⟩;rw [hd,List.replicate_succ,List.length_append,List.length_singleton,show n-(X.length+1)=d by omega,List.append_assoc];rfl
theorem Af9 {n:Nat}{X:List Int}(h:X.length=n):padX n X=X:=by unfold padX;rw [h,Nat.sub_self];simp
theorem AeX {n:Nat}:padX n []=List.replicate n (-1):=by unfold padX;simp
section
variable {m q:Nat}{s t:Spc}(hs:SpcK m s) (ht:SpcK q t) (he:t.acts=s.acts)
include hs ht he
theorem Zw (hnm:s.S.length*t.S.length+s.S.length+t.S.length≤12000):∃W l,PS (gdM s.S.length t.S.length) s.acts (fun p v=>v∈Mq s t p) (nxP s t) (goM s t) W l∧Fn G f_r07_Meet [eSp s,eSp t] (eSp W):=by
 suffices hh:FnP G f_r07_Meet [eSp s,eSp t] (fun rs h=>∃W l,PS (gdM s.S.length t.S.length) s.acts (fun p v=>v∈Mq s t p) (nxP s t) (goM s t) W l∧packV (treeBL 0 h rs)=eSp W) by
  obtain ⟨v,⟨W,l,hP,rfl⟩,hf⟩:=FnP.ex (P:=fun v=>∃W l,PS (gdM s.S.length t.S.length) s.acts (fun p v=>v∈Mq s t p) (nxP s t) (goM s t) W l∧v=eSp W) hh;exact ⟨W,l,hP,hf⟩
 have hk8:=Ax hs.acts;have hs1:=hs.s1;have ht1:=ht.s1;have hs2:=hs.s2;have ht2:=ht.s2;refine FnP.mk' Abq rfl rfl ?_;simp only [go_sem,↓reduceIte,↓Aa,RP,eSp];refine ⟨by omega,?_⟩;refine Ad (fun (g:List Pr×List Stt) σ=>CI (gdM s.S.length t.S.length) s.acts.length (Mq s t) (nxP s t) (goM s t) g.2.length g.1 g.2∧∃a3 c3 z4 s5 c5 a6 c6 a7 c7 a8 c8 a9 c9 a10 c10 a11 c11 a12 c12 a13 c13 a14 c14 a15 c15,mv1 0 6 5 σ=⟨aT .undef 98 [(6,.sl 5 s5 [] 0 0 g.1.length),(2,.ptr 0 1 [] 0 0 0),(3,.ptr 1 1 [] 0 0 0),(4,.ptr 2 1 [] 0 0 0),(5,.ptr 4 1 [] 0 0 0),(7,I g.2.length)],[⟨1,0,.own 2 [.agg [.lst (s.acts.map .str),.lst (s.S.map eSt)]]⟩,⟨1,0,.own 2 [.agg [.lst (t.acts.map .str),.lst (t.S.map eSt)]]⟩,⟨1,0,.own 2 [.agg [.nils,.nils]]⟩,⟨a3,c3,.gone⟩,⟨1,z4,.own 2 [.agg [cellv .nils 1 (s.acts.map .str),cellv .nils 2 (g.2.map rowS)]]⟩,⟨s5,c5,.own 2 (g.1.map ePr)⟩,⟨a6,c6,.gone⟩,⟨a7,c7,.gone⟩,⟨a8,c8,.gone⟩,⟨a9,c9,.gone⟩,⟨a10,c10,.gone⟩,⟨a11,c11,.gone⟩,⟨a12,c12,.gone⟩,⟨a13,c13,.gone⟩,⟨a14,c14,.gone⟩,⟨a15,c15,.gone⟩],[]⟩) (fun g=>13000-g.2.length) ?_ ([(0,0)],[]) ?_
 ·rintro ⟨l,outs⟩ σ ⟨hI,a3,c3,z4,s5,c5,a6,c6,a7,c7,a8,c8,a9,c9,a10,c10,a11,c11,a12,c12,a13,c13,a14,c14,a15,c15,hσ⟩ N Q hQ hN;simp only at hI hσ;rw [LR,hσ];have hil:=hI.il;have hll:=Yn hI.nd (fun p hp=>YK (hI.good p hp));by_cases hlt:outs.length<l.length
  ·have hgp:=hI.good _ (AJ hlt);have hnext:=fun {a:Nat}{l':List Pr}{X:List Int}=>hI.next (a:=a) (l:=l') (X:=X) hlt;have hsM:Mq s t l[outs.length]! = (acL7 s l[outs.length]!.1).filter fun v=>decide (v∈acL7 t l[outs.length]!.2):=by
    obtain ⟨h1,h2,h3,h4⟩:=hgp;unfold Mq acL7;rw [if_neg (by omega),if_neg (by omega)]
   generalize hpe:l[outs.length]! = p at *;obtain ⟨p1,p2⟩:=p;obtain ⟨g1,g2,g3,g4⟩:=hgp;simp only at g1 g2 g3 g4 hsM;have c1:∀ {roots:List Nat}{b:Nat}{ss:List Nat}{σ:St}{k:AV→St→Prop},callT G Ct [.agg [.lst (s.acts.map .str),.lst (s.S.map eSt)],I p1] true roots b ss σ k=k (.lst ((acL7 s p1).map I)) σ:=(Acv s p1 g2).rule;have c2:∀ {roots:List Nat}{b:Nat}{ss:List Nat}{σ:St}{k:AV→St→Prop},callT G Ct [.agg [.lst (t.acts.map .str),.lst (t.S.map eSt)],I p2] true roots b ss σ k=k (.lst ((acL7 t p2).map I)) σ:=(Acv t p2 g4).rule;simp only [go_sem,↓reduceIte,↓Aa,Int.ofNat_lt,hlt,ePr,hpe,c1];refine Ad (fun (j:Nat) σ=>j≤(acL7 s p1).length∧∃z7 a8 c8 a9 c9 a10 c10 a11 c11 a12 c12 a13 c13 a14 c14 a15 c15,σ=⟨aT .undef 98 [(2,.ptr 0 1 [] 0 0 0),(3,.ptr 1 1 [] 0 0 0),(4,.ptr 2 1 [] 0 0 0),(5,.ptr 4 1 [] 0 0 0),(6,.sl 5 s5 [] 0 0 l.length),(7,I outs.length),(8,.ptr 6 (a6+1) [] 0 0 0),(9,.ptr 7 (a7+1) [] 0 0 0),(34,.lst ((acL7 s p1).map I)),(35,I (acL7 s p1).length),(36,I j)],[⟨1,0,.own 2 [.agg [.lst (s.acts.map .str),.lst (s.S.map eSt)]]⟩,⟨1,0,.own 2 [.agg [.lst (t.acts.map .str),.lst (t.S.map eSt)]]⟩,⟨1,0,.own 2 [.agg [.nils,.nils]]⟩,⟨a3,c3,.gone⟩,⟨1,z4,.own 2 [.agg [cellv .nils 1 (s.acts.map .str),cellv .nils 2 (outs.map rowS)]]⟩,⟨s5,c5,.own 2 (l.map ePr)⟩,⟨a6+1,0,.own 2 [.agg [I p1,I p2]]⟩,⟨a7+1,z7,.own 2 [.agg [cellv .nils 1 ((((acL7 s p1).take j).filter fun v=>decide (v∈acL7 t p2)).map I),.nils]]⟩,⟨a8,c8,.gone⟩,⟨a9,c9,.gone⟩,⟨a10,c10,.gone⟩,⟨a11,c11,.gone⟩,⟨a12,c12,.gone⟩,⟨a13,c13,.gone⟩,⟨a14,c14,.gone⟩,⟨a15,c15,.gone⟩],[]⟩) (fun j=>(acL7 s p1).length-j) ?_ 0 ?_
   ·rintro j σ ⟨hj,z7,a8,c8,a9,c9,a10,c10,a11,c11,a12,c12,a13,c13,a14,c14,a15,c15,rfl⟩ N2 Q2 hQ2 hN2;have hal:=(acL7_ris hs g2).2;have hbl:=(acL7_ris ht g4).2;by_cases hlt2:j<(acL7 s p1).length
    ·have hfl:(((acL7 s p1).take j).filter fun v=>decide (v∈acL7 t p2)).length≤j:=Nat.le_trans (List.length_filter_le _ _) (by rw [List.length_take];omega);have htk:((acL7 s p1).take (j+1)).filter (fun v=>decide (v∈acL7 t p2))=((acL7 s p1).take j).filter (fun v=>decide (v∈acL7 t p2))++if (acL7 s p1)[j]!∈acL7 t p2 then [(acL7 s p1)[j]!] else []:=by
      rw [List.take_succ_eq_append_getElem hlt2,List.filter_append,←getElem!_pos (acL7 s p1) j hlt2];generalize (acL7 s p1)[j]! = w;by_cases hm:w∈acL7 t p2<;>simp [hm]
     simp only [go_sem,↓reduceIte,↓Aa,Int.ofNat_lt,hlt2,Ab hlt2 (by omega),c2,AjD (show (acL7 t p2).length≤1048576 by omega)];refine ⟨fun hm=>⟨by omega,hN2 (j+1) _ (by omega) ⟨by omega,?_⟩⟩,fun hm=>hN2 (j+1) _ (by omega) ⟨by omega,?_⟩⟩
     ·simp only [go_sem,↓reduceIte,↓Aa,htk,hm,if_true,List.map_append];repeat apply Exists.intro
      rfl
     ·simp only [go_sem,↓reduceIte,↓Aa,htk,hm,if_false,List.append_nil];repeat apply Exists.intro
      rfl
    ·have hjl:j=(acL7 s p1).length:=by omega
     subst hjl hQ2;simp only [go_sem,↓reduceIte,↓Aa,Int.ofNat_lt,hlt2,List.take_length];rw [←hsM];generalize hFe:Mq s t (p1,p2)=F at *;refine Ad (fun (g:List Pr×List Int) σ=>g.2.length≤s.acts.length∧CX (gdM s.S.length t.S.length) s.acts.length (goM s t (p1,p2)) (nxP s t (p1,p2)) l g.2.length g.1 (padX s.acts.length g.2)∧∃s5 c5 z7 a8 c8 a9 c9 a10 c10 a11 c11 a12 c12 a13 c13 a14 c14 a15 c15,mv1 0 6 5 σ=⟨aT .undef 98 [(6,.sl 5 s5 [] 0 0 g.1.length),(2,.ptr 0 1 [] 0 0 0),(3,.ptr 1 1 [] 0 0 0),(4,.ptr 2 1 [] 0 0 0),(5,.ptr 4 1 [] 0 0 0),(7,I outs.length),(8,.ptr 6 (a6+1) [] 0 0 0),(9,.ptr 7 (a7+1) [] 0 0 0),(55,I s.acts.length),(56,I g.2.length)],[⟨1,0,.own 2 [.agg [.lst (s.acts.map .str),.lst (s.S.map eSt)]]⟩,⟨1,0,.own 2 [.agg [.lst (t.acts.map .str),.lst (t.S.map eSt)]]⟩,⟨1,0,.own 2 [.agg [.nils,.nils]]⟩,⟨a3,c3,.gone⟩,⟨1,z4,.own 2 [.agg [cellv .nils 1 (s.acts.map .str),cellv .nils 2 (outs.map rowS)]]⟩,⟨s5,c5,.own 2 (g.1.map ePr)⟩,⟨a6+1,0,.own 2 [.agg [I p1,I p2]]⟩,⟨a7+1,z7,.own 2 [.agg [cellv .nils 1 (F.map I),cellv .nils 1 (g.2.map I)]]⟩,⟨a8,c8,.gone⟩,⟨a9,c9,.gone⟩,⟨a10,c10,.gone⟩,⟨a11,c11,.gone⟩,⟨a12,c12,.gone⟩,⟨a13,c13,.gone⟩,⟨a14,c14,.gone⟩,⟨a15,c15,.gone⟩],[]⟩) (fun g=>s.acts.length-g.2.length) ?_ (l,[]) ?_
     ·rintro ⟨l',X⟩ σ ⟨hXn,hX,s5,c5,z7,a8,c8,a9,c9,a10,c10,a11,c11,a12,c12,a13,c13,a14,c14,a15,c15,hσ⟩ N3 Q3 hQ3 hN3;simp only at hXn hX hσ;rw [LR,hσ];by_cases hlt3:X.length<s.acts.length
      ·have n1:∀ {fr:Bool}{roots:List Nat}{b:Nat}{ss:List Nat}{σ:St}{k:AV→St→Prop},callT G Eg [.agg [.lst (s.acts.map .str),.lst (s.S.map eSt)],I p1,I X.length] fr roots b ss σ k=k (I (nx1 s p1 X.length)) σ:=(Yl s p1 g2 X.length fun h=>by rw [(hs.st p1.toNat (by omega)).len];exact hlt3).rule;have n2:∀ {fr:Bool}{roots:List Nat}{b:Nat}{ss:List Nat}{σ:St}{k:AV→St→Prop},callT G Eg [.agg [.lst (t.acts.map .str),.lst (t.S.map eSt)],I p2,I X.length] fr roots b ss σ k=k (I (nx1 t p2 X.length)) σ:=(Yl t p2 g4 X.length fun h=>by rw [(ht.st p2.toNat (by omega)).len,he];exact hlt3).rule;have hl':=Yn hX.nd (fun p hp=>YK (hX.good p hp));have hgo:goM s t (p1,p2) X.length↔0≤nx1 s p1 X.length∧0≤nx1 t p2 X.length:=Iff.rfl;have hnq:nxP s t (p1,p2) X.length=(nx1 s p1 X.length,nx1 t p2 X.length):=rfl;have hgd:=Aju hs ht he (p:=(p1,p2)) ⟨g1,g2,g3,g4⟩ hlt3;have hold:=hX.old hlt3;have hnew:=hX.new hlt3;rw [hnq] at hold hnew hgd;have hskip:=hX.skip;rw [←Ac1 hlt3] at hskip;have w0:=Ab hlt3 (show s.acts.length≤1000000000 by omega);by_cases hq1:0≤nx1 s p1 X.length
       ·by_cases hq2:0≤nx1 t p2 X.length
        ·have hg:=hgo.2 ⟨hq1,hq2⟩;generalize nx1 s p1 X.length=q1 at *;generalize nx1 t p2 X.length=q2 at *;simp only [go_sem,↓reduceIte,↓Aa,Int.ofNat_lt,hlt3,n1,n2,hq1,hq2,AT He];refine place_ok (q:=(q1,q2)) rfl (by omega) hX.nd (fun hm=>?_) (fun hm=>?_)
         ·simp only [go_sem,↓reduceIte,↓Aa,w0];have hc:=hold hg hm;rw [YX hlt3] at hc;refine ⟨by omega,hN3 (l',X++[((l'.idxOf (q1,q2):Nat):Int)]) _ (by simp only [List.length_append,List.length_singleton];omega) ⟨by simp only [List.length_append,List.length_singleton];omega,by simp only [List.length_append,List.length_singleton];exact hc,?_⟩⟩;simp only [go_sem,↓reduceIte,↓Aa];rw [Bt rfl (by decide)];simp only [go_sem,↓reduceIte,↓Aa,List.map_append];repeat apply Exists.intro
          rfl
         ·simp only [go_sem,↓reduceIte,↓Aa,w0,ePr];have hc:=hnew hg (hgd hg) hm;rw [YX hlt3] at hc;refine ⟨by omega,hN3 (l'++[(q1,q2)],X++[((l'.length:Nat):Int)]) _ (by simp only [List.length_append,List.length_singleton];omega) ⟨by simp only [List.length_append,List.length_singleton];omega,by simp only [List.length_append,List.length_singleton];exact hc,?_⟩⟩;simp only [go_sem,↓reduceIte,↓Aa];rw [Mu (r:=11) rfl rfl rfl (by decide) (by simp) (by decide)];simp only [go_sem,↓reduceIte,↓Aa,List.map_append,ePr,List.length_append,List.length_singleton];repeat apply Exists.intro
          rfl
        ·have hg:=fun g=>hq2 (hgo.1 g).2;have hc:=hskip hg;generalize nx1 s p1 X.length=q1 at *;generalize nx1 t p2 X.length=q2 at *;simp only [go_sem,↓reduceIte,↓Aa,Int.ofNat_lt,hlt3,n1,n2,hq1,hq2,AT He,w0];refine ⟨by omega,hN3 (l',X++[-1]) _ (by simp only [List.length_append,List.length_singleton];omega) ⟨by simp only [List.length_append,List.length_singleton];omega,by simp only [List.length_append,List.length_singleton];exact hc,?_⟩⟩;simp only [go_sem,↓reduceIte,↓Aa];rw [Bt rfl (by decide)];simp only [go_sem,↓reduceIte,↓Aa,List.map_append];repeat apply Exists.intro
         rfl
       ·have hg:=fun g=>hq1 (hgo.1 g).1;have hc:=hskip hg;generalize nx1 s p1 X.length=q1 at *;generalize nx1 t p2 X.length=q2 at *;simp only [go_sem,↓reduceIte,↓Aa,Int.ofNat_lt,hlt3,n1,n2,hq1,AT He,w0];refine ⟨by omega,hN3 (l',X++[-1]) _ (by simp only [List.length_append,List.length_singleton];omega) ⟨by simp only [List.length_append,List.length_singleton];omega,by simp only [List.length_append,List.length_singleton];exact hc,?_⟩⟩;simp only [go_sem,↓reduceIte,↓Aa];rw [Bt rfl (by decide)];simp only [go_sem,↓reduceIte,↓Aa,List.map_append];repeat apply Exists.intro
        rfl
      ·have hXl:X.length=s.acts.length:=by omega
       subst hQ3;simp only [go_sem,↓reduceIte,↓Aa,Int.ofNat_lt,hlt3,Ab hlt (show l.length≤1000000000 by omega)];refine ⟨by omega,hN (l',outs++[⟨F,X⟩]) _ (by simp only [List.length_append,List.length_singleton];omega) ⟨?_,?_⟩⟩
       ·simp only [List.length_append,List.length_singleton];refine hnext (a:=X.length) (fun b hb hab _=>by omega) ?_;rw [Af9 hXl] at hX;exact hX
       ·simp only [go_sem,↓reduceIte,↓Aa];rw [Bt rfl (by decide)];simp only [go_sem,↓reduceIte,↓Aa,List.map_append,rowS];repeat apply Exists.intro
        rfl
     ·refine ⟨by simp,by simp only [List.length_nil,AeX];exact CX.start hI.nd hI.good,?_⟩;simp only [go_sem,↓reduceIte,↓Aa];rw [Bt rfl (by decide)];simp only [go_sem,↓reduceIte,↓Aa];repeat apply Exists.intro
      rfl
   ·refine ⟨by omega,?_⟩;simp only [go_sem,↓reduceIte,↓Aa,List.take_zero,List.filter_nil,List.map_nil];repeat apply Exists.intro
    rfl
  ·subst hQ;simp only [go_sem,↓reduceIte,↓Aa,Int.ofNat_lt,hlt,AdD];refine ⟨⟨s.acts,outs⟩,l,hI.fin (by omega) rfl (fun p hp=>?_),rfl⟩;exact (K9 (hs.st p.1.toNat (by have:=hp.2.1;have:=hp.1;omega)).ris).filter _
 ·refine ⟨CI.start ⟨by omega,by omega,by omega,by omega⟩,?_⟩;simp only [go_sem,↓reduceIte,↓Aa];rw [Bt rfl (by decide)];simp only [go_sem,↓reduceIte,↓Aa,ePr,List.map_nil,cellv_nil];repeat apply Exists.intro
  rfl
end
end Go.Mw
namespace Go.Mw
set_option maxRecDepth 100000
theorem light07_big (s:Spc)(hs:SpBig s):∃v,FnT G Fa [eSp s] (Bo v)∧(v=true→SpSz s∧s.S.length≤30):=by
 obtain ⟨v,hv,hP⟩:=AfM s hs 600 (by omega) (by omega);have hcall:∀ {fr:Bool}{roots:List Nat}{b:Nat}{ss:List Nat}{σ:St}{k:AV→St→Prop},callT G JS [.agg [.lst (s.acts.map .str),.lst (s.S.map eSt)],.int .i64 600] fr roots b ss σ k=k (Bo v) σ:=hv.rule;refine FnP.flatB (FnP.mk' Xc rfl rfl ?_);have hS:=hs.fs;simp only [go_sem,↓reduceIte,↓Aa,Pw,eSp];by_cases h:(s.S.length:Int)≤30
 ·simp only [go_sem,↓reduceIte,↓Aa,h,hcall,YQ];exact fun hv=>⟨hP hv,by omega⟩
 ·simp only [go_sem,↓reduceIte,↓Aa,h,YQ]
theorem AbB {m:Nat}(s:Spc)(hs:SpcK m s)(ht:(trimA s).1=s):FnT G D9 [eSp s] (Bo true):=by
 have hr:∀ {roots:List Nat}{b:Nat}{ss:List Nat}{σ:St}{k:AV→St→Prop},callT G C5 [.agg [.lst (s.acts.map .str),.lst (s.S.map eSt)]] true roots b ss σ k=k (.tup [eSp (trimA s).1,.lst ((trimA s).2.map eN)]) σ:=AdQ (hs.b hs.sz) hs.s1 (Ax hs.acts);rw [ht] at hr;refine FnP.mk' VP rfl rfl ?_;simp only [go_sem,↓reduceIte,↓Aa,Ok,eSp,hr,AjI hs.sz]
open Classical in
theorem Agl {q:Nat}(g w:Spc)(hg:FY g)(hw:SpcK q w)(ha:g.acts=w.acts)(ht:(trimA g).1=g)(he:Ref (trimA g).1 w∧Ref (trimA w).1 g):FnT G Bx [eSp g,eSp w] (Bo true):=by
 have hz:=hg.sz;have hi:∀ {fr:Bool}{roots:List Nat}{b:Nat}{ss:List Nat}{σ:St}{k:AV→St→Prop},callT G D9 [.agg [.lst (g.acts.map .str),.lst (g.S.map eSt)]] fr roots b ss σ k=k (Bo true) σ:=(AbB g hg ht).rule;have h8:=Ax hg.acts;have h8w:=Ax hw.acts;have hs:∀ {fr:Bool}{roots:List Nat}{b:Nat}{ss:List Nat}{σ:St}{k:AV→St→Prop},callT G AI [.lst (g.acts.map .str),.lst (w.acts.map .str)] fr roots b ss σ k=k (Bo true) σ:=by
  intros;rw [Ae3 (by omega) (by omega),decide_eq_true ha]
 have hq:∀ {fr:Bool}{roots:List Nat}{b:Nat}{ss:List Nat}{σ:St}{k:AV→St→Prop},callT G DW [.agg [.lst (g.acts.map .str),.lst (g.S.map eSt)],.agg [.lst (w.acts.map .str),.lst (w.S.map eSt)]] fr roots b ss σ k=k (Bo true) σ:=by
  intros;rw [AeU hg hw (by rw [ha]),decide_eq_true he]
 refine FnP.mk' NO rfl rfl ?_;simp only [go_sem,↓reduceIte,↓Aa,R7,eSp,AgN hz,hg,hi,hs,hq]
theorem Acg {fr:Bool}{roots:List Nat}{b:Nat}{ss:List Nat}{σ:St}{k:AV→St→Prop}:callT G Fs [.agg [.lst [],.lst []]] fr roots b ss σ k=k (Bo true) σ:=(Aez zSpc).rule
theorem YG (w:Spc)(e:Int)(h:e≠0)(b:Bool):FnT G Cg [eSp zSpc,I e,I e,eSp w,Bo b] (Bo true):=by
 have h1:(e != 0)=true:=by simpa using h
 refine FnP.mk' Nx rfl rfl ?_;simp only [go_sem,↓reduceIte,↓Aa,Lz,eSp,zSpc,List.map_nil,h1,Acg]
theorem ZG (w:Spc):FnT G Cg [eSp zSpc,I 2,I 0,eSp w,Bo true] (Bo true):=by
 refine FnP.mk' Nx rfl rfl ?_;simp only [go_sem,↓reduceIte,↓Aa,Lz,eSp,zSpc,List.map_nil,Acg]
theorem UD (g w:Spc)(hf:FnT G Bx [eSp g,eSp w] (Bo true))(b:Bool):FnT G Cg [eSp g,I 0,I 0,eSp w,Bo b] (Bo true):=by
 have hr:∀ {fr:Bool}{roots:List Nat}{b:Nat}{ss:List Nat}{σ:St}{k:AV→St→Prop},callT G Bx [.agg [.lst (g.acts.map .str),.lst (g.S.map eSt)],.agg [.lst (w.acts.map .str),.lst (w.S.map eSt)]] fr roots b ss σ k=k (Bo true) σ:=hf.rule;refine FnP.mk' Nx rfl rfl ?_;simp only [go_sem,↓reduceIte,↓Aa,Lz,eSp,hr]
theorem Aeg {q:Nat}{C W:Spc}{R:Nat→Nat→Prop}(h:Bi C W R)(hC:FY C)(hW:SpcK q W):FnT G Bx [eSp (trimA C).1,eSp W] (Bo true):=by
 obtain ⟨hT,hTa⟩:=YC hC;exact Agl _ W hT.ok hW (by rw [hTa,h.e]) (QP hC) (h.both hC hW)
theorem AfO {d:Option Nat}{i:Ins}{t:Nat}{want:Bool}{os:List Rop}{b:Nat}{σ:St}{K:St→List (Option (List Nat))→Prop}(hv:σ.t[t]? = some (.bool want)) :
 Aen G (⟨d,i,some (t,want)⟩::os) b σ K=Aen G (⟨d,i,none⟩::os) b σ K:=by
 have hw:wantedO (some (t,want)) σ=some true:=by simp [wantedO,hv]
 have h0:wantedO none σ=some true:=(rfl);unfold Aen WpD;simp only [drwE,hw,h0]
theorem Abd:FnT G CV [] (Bo true):=by
 refine FnP.mk' WK rfl rfl ?_;simp only [go_sem,↓reduceIte,↓Aa,Pn,AT H6,AT JN,AT Kc,Adn,YZ,Ac7,Add,Yt,YY]
 repeat (rw [AfO (by simp only [go_sem,↓reduceIte,↓Aa])];simp only [go_sem,↓reduceIte,↓Aa,AT H6,AT JN,AT Kc,Adn,YZ,Ac7,Add,Yt,YY])
theorem DJ {roots:List Nat}{b:Nat}{ss:List Nat}{σ:St}{k:AV→St→Prop}{fr:Bool}:callT G CV [] fr roots b ss σ k=k (Bo true) σ:=Abd.rule
theorem Bi.trans {A B C:Spc}{R S:Nat→Nat→Prop}(h:Bi A B R)(g:Bi B C S):Bi A C (fun x z=>∃y,R x y∧S y z) :=
 ⟨h.e.trans g.e,⟨0,h.z,g.z⟩,fun x z ⟨y,h1,h2⟩=>⟨(h.lt x y h1).1,(g.lt y z h2).2⟩,fun x z ⟨y,h1,h2⟩ v=>(h.acc x y h1 v).trans (g.acc y z h2 v),
  fun x z ⟨y,h1,h2⟩ v hv a ha=>⟨_,h.nx x y h1 v hv a ha,g.nx y z h2 v ((h.acc x y h1 v).1 hv) a ha⟩⟩
theorem Bi.refl {m:Nat}{A:Spc}(h:SpcK m A):Bi A A (fun x y=>x=y∧x<A.S.length):=by
 have h1:=h.s1;refine ⟨rfl,⟨rfl,h1⟩,fun x y ⟨e,hx⟩=>⟨hx,by omega⟩,fun x y ⟨e,hx⟩ v=>by rw [e],fun x y ⟨e,hx⟩ v hv a ha=>?_⟩;subst e;obtain ⟨f1,f2⟩:=h.ltA hx hv ha;have:=(h.st x hx).x a f1;exact ⟨rfl,by omega⟩
theorem Bi.trim {A B:Spc}{R:Nat→Nat→Prop}(h:Bi A B R){m q:Nat}(hA:SpcK m A)(hB:SpcK q B):∃R',Bi (trimA A).1 (trimA B).1 R':=by
 cases h0:(Cp A)[0]! with
 | true =>
   have h0B:(Cp B)[0]! = true:=(De hB.s1).2 (h.hol hA hB h.z ((De hA.s1).1 h0));rw [Qi h0,Qi h0B,h.e];refine ⟨fun x y=>x=0∧y=0,⟨rfl,⟨rfl,rfl⟩,fun x y ⟨e1,e2⟩=>by subst e1 e2;simp [B5],fun x y ⟨e1,e2⟩ v=>by rw [e1,e2],fun x y ⟨e1,e2⟩ v hv=>by subst e1;simp [B5] at hv⟩⟩
 | false =>
   have h0B:(Cp B)[0]! = false:=by
    cases hb:(Cp B)[0]! with
    | false=>rfl
    | true =>
      have:=h.symm.hol hB hA h.z ((De hB.s1).1 hb);rw [(De hA.s1).2 this] at h0;cases h0
   rw [trimA_f h0,trimA_f h0B];have hb:=hA.b hA.sz;have h1:0<A.S.length:=hA.s1;have hbB:=hB.b hB.sz;have h1B:0<B.S.length:=hB.s1;have lA:(Am A).S.length=(ordOf A).length:=by simp [Am]
   have lB:(Am B).S.length=(ordOf B).length:=by simp [Am]
   have acc:∀i j,i<(ordOf A).length∧j<(ordOf B).length∧R (ordOf A)[i]! (ordOf B)[j]!→∀v,v∈(Am A).S[i]!.A↔v∈(Am B).S[j]!.A:=by
    rintro i j ⟨hi,hj,hr⟩ v;rw [(JD hA h0 hi).1,(JD hB h0B hj).1];exact ⟨h.kept hA hB hr,h.symm.kept hB hA hr⟩
   refine ⟨fun i j=>i<(ordOf A).length∧j<(ordOf B).length∧R (ordOf A)[i]! (ordOf B)[j]!,⟨h.e,⟨KR hb h1,KR hbB h1B,by rw [MS hb h1,MS hbB h1B];exact h.z⟩,?_,acc,?_⟩⟩
   ·rintro i j ⟨hi,hj,hr⟩;exact ⟨by rw [lA];exact hi,by rw [lB];exact hj⟩
   ·rintro i j ⟨hi,hj,hr⟩ v hv a hva;have hv2:=(acc i j ⟨hi,hj,hr⟩ v).1 hv;obtain ⟨g1,g2,g3⟩:=Qr hA h0 hi hv hva;obtain ⟨f1,f2,f3⟩:=Qr hB h0B hj hv2 hva;refine ⟨g2,f2,?_⟩;rw [g3,f3];rw [(JD hA h0 hi).1] at hv;exact h.nx _ _ hr v (Lx.1 hv).1 a hva
theorem PS.bi3 {Gd1 Gd2:Pr→Prop}{acts:List ByteArray}{acc1 acc2:Pr→Int→Prop}{nx1 nx2:Pr→Nat→Pr}{go1 go2:Pr→Nat→Prop}{A B:Spc}{l k:List Pr}(h:PS Gd1 acts acc1 nx1 go1 A l)(g:PS Gd2 acts acc2 nx2 go2 B k)
 (hA:AccOk Gd1 acts.length acc1 go1) (hB:AccOk Gd2 acts.length acc2 go2) (Q:Pr→Pr→Prop) (z:Q (0,0) (0,0)) (he:∀p q v,Gd1 p→Gd2 q→Q p q→(acc1 p v↔acc2 q v))
 (hn:∀p q v a,Gd1 p→Gd2 q→Q p q→acc1 p v→acc2 q v→hasA v a=true→a<acts.length→Q (nx1 p a) (nx2 q a)):Bi A B (fun x y=>x<l.length∧y<k.length∧Q l[x]! k[y]!):=by
 refine ⟨by rw [h.ac,g.ac],⟨h.pos,g.pos,by rw [h.zero,g.zero];exact z⟩,fun x y hr=>⟨by rw [h.len];exact hr.1,by rw [g.len];exact hr.2.1⟩,fun x y hr v=>?_,fun x y hr v hv a ha=>?_⟩
 ·obtain ⟨hx,hy,e⟩:=hr;rw [h.a x hx,g.a y hy];exact he _ _ _ (h.good _ (AJ hx)) (g.good _ (AJ hy)) e
 ·obtain ⟨hx,hy,e⟩:=hr;have hg1:=h.good _ (AJ hx);have hg2:=g.good _ (AJ hy);have hv1:=(h.a x hx v).1 hv;have hv2:=(he _ _ _ hg1 hg2 e).1 hv1;have hb:=hA.b _ _ hg1 hv1;have hlt:a<acts.length:=AO (n:=v.toNat) (by omega) ha;obtain ⟨f1,f2,f3⟩:=h.xg x hx a hlt (hA.g _ _ a hg1 hv1 ha);obtain ⟨d1,d2,d3⟩:=g.xg y hy a hlt (hB.g _ _ a hg2 hv2 ha);exact ⟨f2,d2,by rw [f3,d3];exact hn _ _ v a hg1 hg2 e hv1 hv2 ha hlt⟩
section
variable {m q r:Nat}{s A B:Spc}
theorem Bi.met {R:Nat→Nat→Prop}{C M:Spc}{l k:List Pr}(h:Bi A B R)(hA:SpcK m A)(hB:SpcK q B)(hs:SpcK r s)
 (hC:PS (gdM A.S.length s.S.length) A.acts (accM A s) (nxP A s) (usedP (accM A s)) C l) (hM:PS (gdM B.S.length s.S.length) B.acts (accM B s) (nxP B s) (goM B s) M k):∃R',Bi C M R':=by
 rw [←h.e] at hM;have hoB:=TB hB hs;rw [←h.e] at hoB;refine ⟨_,hC.bi3 hM (TB hA hs).used hoB (fun p q=>R p.1.toNat q.1.toNat∧p.2=q.2) ⟨h.z,rfl⟩ (fun p q v hp hq hQ=>?_) (fun p q v a hp hq hQ h1 h2 ha hlt=>?_)⟩
 ·unfold accM accP;rw [h.acc _ _ hQ.1 v,hQ.2];have:=hp.1;have:=hq.1;constructor
  ·rintro ⟨⟨_,f⟩,g⟩;exact ⟨⟨hq.1,f⟩,g⟩
  ·rintro ⟨⟨_,f⟩,g⟩;exact ⟨⟨hp.1,f⟩,g⟩
 ·have:=hp.1;have:=hq.1;simp only [nxP,nx1];rw [if_neg (by omega),if_neg (show ¬q.1<0 by omega),hQ.2];exact ⟨h.nx _ _ hQ.1 v h1.1.2 a ha,rfl⟩
theorem Bi.tight {R:Nat→Nat→Prop}(h:Bi A B R)(hA:TSpcK m A)(hB:TSpcK q B){x y a:Nat}(hr:R x y)(ha:a<A.acts.length) :
 (A.S[x]!.X[a]! < 0∧B.S[y]!.X[a]! < 0)∨(0≤A.S[x]!.X[a]!∧0≤B.S[y]!.X[a]!∧R A.S[x]!.X[a]!.toNat B.S[y]!.X[a]!.toNat):=by
 obtain ⟨hx,hy⟩:=h.lt x y hr;have l1:=(hA.ok.st x hx).len;have l2:=(hB.ok.st y hy).len;by_cases h0:0≤A.S[x]!.X[a]!
 ·obtain ⟨v,hv,hva⟩:=hA.tight x hx a (by rw [l1];exact ha) h0;exact .inr ⟨h0,(hB.ok.ltA hy ((h.acc x y hr v).1 hv) hva).2,h.nx x y hr v hv a hva⟩
 ·refine .inl ⟨by omega,?_⟩;by_cases h1:0≤B.S[y]!.X[a]!
  ·obtain ⟨v,hv,hva⟩:=hB.tight y hy a (by rw [l2,←h.e];exact ha) h1;exact absurd (hA.ok.ltA hx ((h.acc x y hr v).2 hv) hva).2 h0
  ·omega
end
end Go.Mw
namespace Go.Mw
set_option maxRecDepth 100000
def upI (n:Nat):List Int:=(List.range n).map fun (i:Nat)=>(i:Int)
theorem JR {n:Nat}:(upI n).length=n:=by simp [upI]
theorem AfQ {n:Nat}:upI (n+1)=upI n++[(n:Int)]:=by simp [upI,List.range_succ]
theorem Adi {n:Nat}{v:Int}:v∈upI n↔0≤v∧v<(n:Int):=by
 unfold upI;constructor
 ·intro h;obtain ⟨i,hi,rfl⟩:=List.mem_map.1 h;rw [List.mem_range] at hi;omega
 ·rintro ⟨h1,h2⟩;exact List.mem_map.2 ⟨v.toNat,by rw [List.mem_range];omega,by omega⟩
theorem Nz {n i:Nat}(h:i<n):(upI n)[i]! = (i:Int):=by
 rw [getElem!_pos _ i (by rw [JR];exact h)];simp [upI]
def evR (acts:List ByteArray)(rs:List AV)(h:List Ob):Prop:=∃z h',h=⟨1,z,.own 2 [.agg [cellv .nils 1 (acts.map .str),.own 2 [.agg [cellv .nils 1 ((upI (2 ^ acts.length)).map I),cellv .nils 1 (List.replicate acts.length (I 0))]]]]⟩::h' ∧
 rs = [.agg [On .nils 1 0 1 [(0,0)] z (acts.map .str),.sl 0 1 [(0,1)] z 0 1]]
theorem Af8 (acts:List ByteArray)(h:acts.length≤8):FnQ G J6 [.lst (acts.map .str)] (evR acts):=by
 have h28:2 ^ acts.length≤2 ^ 8:=Nat.pow_le_pow_right (by omega) h;refine FnQ.mk' Ach rfl rfl ?_;simp only [go_sem,↓reduceIte,↓Aa,U8,Pe (show acts.length≤62 by omega),Int.toNat_natCast];refine Ad (fun (i:Nat) σ=>i≤2 ^ acts.length∧∃z1 a2 c2 a3 c3,σ=⟨aT .undef 33 [(0,.lst (acts.map .str)),(2,.ptr 0 1 [] 0 0 0),(3,.ptr 1 1 [] 0 0 0),(7,I ((2 ^ acts.length:Nat):Int)),(8,I i)],
  [⟨1,0,.own 2 [.agg [.nils,.nils]]⟩,⟨1,z1,.own 2 [.agg [cellv .nils 1 ((upI i).map I),.nils]]⟩,⟨a2,c2,.gone⟩,⟨a3,c3,.gone⟩,⟨0,0,.gone⟩,⟨0,0,.gone⟩,⟨0,0,.gone⟩,⟨0,0,.gone⟩],[]⟩) (fun i=>2 ^ acts.length-i) ?_ 0 ?_
 ·rintro i σ ⟨hi,z1,a2,c2,a3,c3,rfl⟩ N Q hQ hN;by_cases hlt:i<2 ^ acts.length
  ·simp only [go_sem,↓reduceIte,↓Aa,Ab hlt (by omega),Int.ofNat_lt,hlt,List.length_map,JR];refine ⟨by omega,hN (i+1) _ (by omega) ⟨by omega,?_⟩⟩;simp only [go_sem,↓reduceIte,↓Aa,AfQ,List.map_append,List.map_cons,List.map_nil];repeat apply Exists.intro
   rfl
  ·have hil:i=2 ^ acts.length:=by omega
   subst hil hQ;simp only [go_sem,↓reduceIte,↓Aa,Int.ofNat_lt,hlt];refine Ad (fun (i:Nat) σ=>i≤acts.length∧∃z1 a4 c4 a5 c5,σ=⟨aT .undef 33 [(0,.lst (acts.map .str)),(2,.ptr 0 1 [] 0 0 0),(3,.ptr 1 1 [] 0 0 0),(19,I acts.length),(20,I i)],
    [⟨1,0,.own 2 [.agg [.nils,.nils]]⟩,⟨1,z1,.own 2 [.agg [cellv .nils 1 ((upI (2 ^ acts.length)).map I),cellv .nils 1 (List.replicate i (I 0))]]⟩,⟨a2,c2,.gone⟩,⟨a3,c3,.gone⟩,⟨a4,c4,.gone⟩,⟨a5,c5,.gone⟩,⟨0,0,.gone⟩,⟨0,0,.gone⟩],[]⟩) (fun i=>acts.length-i) ?_ 0 ?_
   ·rintro i σ ⟨hi,z1,a4,c4,a5,c5,rfl⟩ N Q hQ hN;by_cases hlt2:i<acts.length
    ·simp only [go_sem,↓reduceIte,↓Aa,Ab hlt2 (by omega),Int.ofNat_lt,hlt2,List.length_replicate];refine ⟨by omega,hN (i+1) _ (by omega) ⟨by omega,?_⟩⟩;simp only [go_sem,↓reduceIte,↓Aa,List.replicate_succ'];repeat apply Exists.intro
     rfl
    ·have hil:i=acts.length:=by omega
     subst hil hQ;simp only [go_sem,↓reduceIte,↓Aa,Int.ofNat_lt,hlt2];refine ⟨by omega,?_⟩;exact ⟨_,_,rfl,rfl⟩
   ·refine ⟨Nat.zero_le _,?_⟩;simp only [go_sem,↓reduceIte,↓Aa,List.replicate_zero];repeat apply Exists.intro
    rfl
 ·refine ⟨Nat.zero_le _,?_⟩;simp only [go_sem,↓reduceIte,↓Aa,upI,List.range_zero,List.map_nil];repeat apply Exists.intro
  rfl
section
variable {fr:Bool}{roots:List Nat}{b:Nat}{ss:List Nat}{σ:St}{k:AV→St→Prop}
end
end Go.Mw
namespace Go.Mw
set_option maxRecDepth 100000
section
variable {acts:List ByteArray}{l:List Spc}
end
end Go.Mw
namespace Go.Mw
set_option maxRecDepth 100000
theorem PS.eqv {Gd:Pr→Prop}{acts:List ByteArray}{acc acc':Pr→Int→Prop}{nx:Pr→Nat→Pr}{go go':Pr→Nat→Prop}{A:Spc}{l:List Pr}(h:PS Gd acts acc nx go A l)(ha:∀p,Gd p→∀v,acc p v↔acc' p v)(hg:∀p,Gd p→∀a,go p a↔go' p a):PS Gd acts acc' nx go' A l :=
 ⟨h.ac,h.len,h.z,h.nd,h.good,fun i hi v=>(h.a i hi v).trans (ha _ (h.good _ (AJ hi)) v),h.ris,h.xl,fun i hi a hl hh=>h.xg i hi a hl ((hg _ (h.good _ (AJ hi)) a).2 hh),fun i hi a hl hh=>h.xn i hi a hl (fun g=>hh ((hg _ (h.good _ (AJ hi)) a).1 g))⟩
theorem PS.used {Gd:Pr→Prop}{acts:List ByteArray}{acc acc':Pr→Int→Prop}{nx:Pr→Nat→Pr}{A:Spc}{l:List Pr}(h:PS Gd acts acc nx (usedP acc) A l)(ha:∀p,Gd p→∀v,acc p v↔acc' p v):PS Gd acts acc' nx (usedP acc') A l :=
 h.eqv ha (fun p hp a=>exists_congr fun v=>and_congr (ha p hp v) Iff.rfl)
theorem AhF {n m:Nat}{l:List Pr}(hn:l.Nodup)(hg:∀p∈l,gdM n m p):l.length≤n*m:=by
 have:=EC (n:=n*m) (l:=l.map fun p=>p.1.toNat*m+p.2.toNat) ?_ ?_
 ·simpa using this
 ·refine (List.pairwise_map).2 ?_;refine List.Pairwise.imp_of_mem ?_ hn;intro a b ha hb hab he;obtain ⟨a1,a2,a3,a4⟩:=hg a ha;obtain ⟨b1,b2,b3,b4⟩:=hg b hb;have e2:a.2.toNat=b.2.toNat:=by
   have:=congrArg (· % m) he;simp only [Nat.mul_add_mod_self_right] at this;rwa [Nat.mod_eq_of_lt (by omega),Nat.mod_eq_of_lt (by omega)] at this
  have e1:a.1.toNat=b.1.toNat:=by
   have:a.1.toNat*m=b.1.toNat*m:=by omega
   exact Nat.eq_of_mul_eq_mul_right (by omega) this
  exact hab (Prod.ext (by omega) (by omega))
 ·intro x hx;obtain ⟨p,hp,rfl⟩:=List.mem_map.1 hx;obtain ⟨a1,a2,a3,a4⟩:=hg p hp;have h1:(p.1.toNat+1)*m≤n*m:=Nat.mul_le_mul_right _ (by omega);rw [Nat.add_mul] at h1;omega
section
variable {acts:List ByteArray}{l:List Spc}
theorem Ys {m q:Nat}{s t:Spc}(hs:SpcK m s)(ht:SpcK q t):AccOk (gdM s.S.length t.S.length) s.acts.length (fun p v=>v∈Mq s t p) (goM s t):=⟨fun p v hp hv=>(TB hs ht).b p v hp ((QJ hp).1 hv),fun p v a hp hv ha=>(TB hs ht).g p v a hp ((QJ hp).1 hv) ha⟩
theorem no_hol {l:List ByteArray}:(Cp (B5 l))[0]! = true:=(De (by simp [B5])).2 ⟨by simp [B5],fun P hP=>hP 0 (by simp [B5]) (fun i hi=>by simp [B5] at hi)⟩
theorem Ahw {l:List ByteArray}:(trimA (B5 l)).1=B5 l:=by rw [Qi no_hol];rfl
end
end Go.Mw
namespace Go.Mw
set_option maxRecDepth 100000
theorem newOb_gone {h:List Ob}{r st ss:Nat}{c:AV}(e:h[r]? = some ⟨st,ss,.gone⟩):newOb h r c=some (h.set r ⟨st+1,0,c⟩,st+1):=by simp only [newOb,e]
theorem Agw (acts:List ByteArray)(h:acts.length≤8){roots:List Nat}{b s1 s2:Nat}{σ:St}{k:AV→St→Prop}{st1 ss1 st2 ss2:Nat}(h1:σ.h[b+s1]? = some ⟨st1,ss1,.gone⟩)(h2:σ.h[b+s2]? = some ⟨st2,ss2,.gone⟩)(hne:s1≠s2)
 (hk:k (.agg [Mo .nils 1 (b+s1) (sta (acts.map .str) st1) (acts.map .str),.sl (b+s2) (st2+1) [] 0 0 1]) { σ with h:=(σ.h.set (b+s1) ⟨sta (acts.map .str) st1,ssa (acts.map .str) ss1,Pa 1 (acts.map .str)⟩).set (b+s2) ⟨st2+1,0,.own 2 [.agg [cellv .nils 1 ((upI (2 ^ acts.length)).map I),cellv .nils 1 (List.replicate acts.length (I 0))]]⟩ }):callT G J6 [.lst (acts.map .str)] true roots b [s1,s2] σ k:=by
 obtain ⟨F,n,rs,σ1,hf,hl,hp,hs,hr,⟨z,h',e1,rfl⟩,hfo⟩:=(Af8 acts h).ok;refine ⟨F,n,_,_,hf,hl,?_,hk⟩;have hne2:b+s2≠b+s1:=by omega
 have n2:node σ1.h 0 1 [(0,1)] z=some (.own 2 [.agg [cellv .nils 1 ((upI (2 ^ acts.length)).map I),cellv .nils 1 (List.replicate acts.length (I 0))]]):=by rw [e1];exact Bf.2 ⟨_,rfl,rfl,.inr rfl,rfl⟩
 unfold callX;rw [hs];simp only [Bool.false_eq_true,if_false,hr,Bool.true_or,if_true,hfo,List.isEmpty_cons,Bool.not_false,Bool.and_self];by_cases h0:acts.map AV.str = []
 ·simp only [h0,On,Mo,Pa,sta,ssa,if_true,NQ,Ms,Ng,O5,List.tail_cons,Nat.le_refl,YL,List.all_nil,and_self,n2,List.length_singleton,newOb_gone h2,packV];have:σ.h.set (b+s1) ⟨st1,ss1,.gone⟩=σ.h:=List.set_self h1;rw [this]
 ·have n1:node σ1.h 0 1 [(0,0)] z=some (.own 1 (acts.map .str)):=by rw [e1];simp only [cellv,if_neg h0];exact Bf.2 ⟨_,rfl,rfl,.inr rfl,rfl⟩
  have h2':(σ.h.set (b+s1) ⟨st1+1,0,.own 1 (acts.map .str)⟩)[b+s2]? = some ⟨st2,ss2,.gone⟩:=by rw [List.getElem?_set_ne (Ne.symm hne2)];exact h2
  simp only [On,Mo,Pa,sta,ssa,if_neg h0,if_true,NQ,Ms,Ng,O5,Nat.le_refl,YL,List.all_nil,List.all_cons,and_self,n1,n2,List.length_singleton,newOb_gone h1,newOb_gone h2',packV,XT,true_and,
   show ((0:Nat) != 0 || !([(0,0)]:Path).isPrefixOf [(0,1)] && !([(0,1)]:Path).isPrefixOf [(0,0)])=true from rfl,Bool.and_true]
end Go.Mw
