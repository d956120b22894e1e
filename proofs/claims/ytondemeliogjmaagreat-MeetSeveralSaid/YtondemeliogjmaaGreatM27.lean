/- The pairs that can be reached: (meet.combiner).combine. -/
import Derived.Test.YtondemeliogjmaaGreatM26
set_option linter.unusedVariables false
set_option linter.unusedSimpArgs false
namespace Go.Mw
set_option maxRecDepth 100000
attribute [local go_sem] takeCellK_mp one_mp cells_mp isNode_ownm lokK_mpP mupK_mpP mupF_E mupF_nil cells_nilm plain_nilm
def ePr (p:Pr):AV:=.agg [I p.1,I p.2]
def Ahx (x:Stt):AV:=.agg [.lst (x.A.map I),.own 1 (x.X.map I)]
theorem AeK {l:List Stt}:(l.map Ahx).map frz=l.map eSt:=by
 have h:∀l:List Int,(l.map I).map frz=l.map I:=fun l=>by rw [List.map_map];rfl
 rw [List.map_map];congr 1;funext x;simp only [Function.comp,Ahx,eSt,go_sem,h]
theorem outvK_fn {r st:Nat}{p:Path}{ss:Nat}{f:FuncId}{cs:List AV}{q:AV→Prop}:Sv r st p ss (.fn f cs) q=q (.fn f cs):=(rfl)
theorem Zd {b:Nat}{σ:St}{f:FuncId}{xs:List Opd}{s:Nat}(h:PureF G f):foot G b (.call f xs [s]) σ=some ((b+s)::rootsL (σ.gets xs)):=by
 obtain ⟨F,h1,h2⟩:=h;simp [foot,h1,h2]
structure CB (acts:List ByteArray)(Gd:Pr→Prop)(sets:Pr→List Int)(nx:Pr→Nat→Pr)(fs fn:FuncId)(cs cn:List AV):Prop where
 ok:actsOk acts=true
 ps:PureF G fs
 pn:PureF G fn
 ts:∀h,treeBL 0 h cs=cs
 tn:∀h,treeBL 0 h cn=cn
 fs1:(AV.fn fs cs).plain=true
 fn1:(AV.fn fn cn).plain=true
 fa:cs.all AV.free=true∧rootsL cs = []
 na:cn.all AV.free=true∧rootsL cn = []
 gs:∀p,Gd p→Fn G fs (ePr p::cs) (.lst ((sets p).map I))
 gn:∀p a,Gd p→a<acts.length→usedP (fun p v=>v∈sets p) p a→Fn G fn (ePr p::I a::cn) (ePr (nx p a))
 b:∀p,Gd p→(∀v∈sets p,0≤v∧v<((2 ^ acts.length:Nat):Int))∧(sets p).length≤1048576∧(sets p).Pairwise (· < ·)
 nxg:∀p a,Gd p→a<acts.length→usedP (fun p v=>v∈sets p) p a→Gd (nx p a)
 z:Gd (0,0)
theorem RF {acts:List ByteArray}{Gd:Pr→Prop}{sets:Pr→List Int}{nx:Pr→Nat→Pr}{fs fn:FuncId}{cs cn:List AV}(h:CB acts Gd sets nx fs fn cs cn) :
 FnP G Ag [.agg [.fn fs cs,.fn fn cn],.lst (acts.map .str),ePr (0,0)] (fun rs h =>
  (∃out l,PS Gd acts (fun p v=>v∈sets p) nx (usedP fun p v=>v∈sets p) out l∧l.length≤500∧packV (treeBL 0 h rs) = .tup [eSp out,Bo true]) ∨
  (∃l:List Pr,l.Nodup∧(∀p∈l,Gd p)∧l.length=501∧packV (treeBL 0 h rs) = .tup [.agg [.lst [],.lst []],Bo false])):=by
 have hk8:=Au h.ok;have hfs:=h.fs1;have hfn:=h.fn1;obtain ⟨fa1,fa2⟩:=h.fa;obtain ⟨na1,na2⟩:=h.na;refine FnP.mk' Jz rfl rfl ?_;simp only [go_sem,↓reduceIte,↓Aa,DU,ePr,takeCellK_plain hfs,takeCellK_plain hfn,Pk (show acts.length≤1048576 by omega)];refine Ac (fun (g:List Pr×List Stt) σ=>CI Gd acts.length sets nx (usedP fun p v=>v∈sets p) g.2.length g.1 g.2∧g.1.length≤500∧∃z5 z7 z8 s9 a10 c10 a11 c11 a12 c12 a13 c13 a14 c14 a15 c15 a16 c16 a17 c17,σ=⟨aT .undef 102 [(1,.lst (acts.map .str)),(3,.ptr 0 1 [] 0 0 0),(6,.ptr 2 1 [] 0 0 0),(7,.ptr 3 1 [] 0 0 0),(8,.ptr 5 1 [] 0 0 0),(9,.ptr 7 1 [] 0 0 0),(10,.ptr 8 1 [] 0 0 0),(11,.ptr 9 s9 [] 0 0 0)],[⟨1,0,.own 2 [.agg [.fn fs cs,.fn fn cn]]⟩,⟨1,0,.own 2 [.agg [I 0,I 0]]⟩,⟨1,0,.own 2 [.agg [.nils,.nils]]⟩,⟨1,0,.own 1 [.bool false]⟩,⟨1,0,.gone⟩,⟨1,z5,.own 1 [.ownm (Fe (XQ g.1))]⟩,⟨1,0,.gone⟩,⟨1,z7,.own 1 [.own 2 (g.1.map ePr)]⟩,⟨1,z8,.own 2 [.agg [.lst (acts.map .str),cellv .nils 2 (g.2.map Ahx)]]⟩,⟨s9,0,.own 1 [I g.2.length]⟩,⟨a10,c10,.gone⟩,⟨a11,c11,.gone⟩,⟨a12,c12,.gone⟩,⟨a13,c13,.gone⟩,⟨a14,c14,.gone⟩,⟨a15,c15,.gone⟩,⟨a16,c16,.gone⟩,⟨a17,c17,.gone⟩,⟨0,0,.gone⟩],[]⟩) (fun g=>500-g.2.length) ?_ ([(0,0)],[]) ?_
 ·rintro ⟨l,outs⟩ σ ⟨hI,hl5,z5,z7,z8,s9,a10,c10,a11,c11,a12,c12,a13,c13,a14,c14,a15,c15,a16,c16,a17,c17,rfl⟩ N Q hQ hN;simp only at hI hl5;have hil:=hI.il;by_cases hlt:outs.length<l.length
  ·have hgp:=hI.good _ (AI hlt);have hb:=h.b _ hgp;have hSet:∀ {roots:List Nat}{b:Nat}{ss:List Nat}{σ:St}{k:AV→St→Prop},callT G fs (.agg [I l[outs.length]!.1,I l[outs.length]!.2]::cs) true roots b ss σ k=k (.lst ((sets l[outs.length]!).map I)) σ:=(h.gs _ hgp).rule;simp only [go_sem,↓reduceIte,↓Aa,Int.ofNat_lt,hlt,ePr,outvK_fn,OE h.ps,h.ts,fa1,fa2,OG h.ps,Zd EM,hSet,Agn hk8];have hS2:=hb.1;generalize hSe:sets l[outs.length]! = S at *;have hSn:∀i<S.length,∃k:Nat,S[i]! = k∧k<2 ^ 8:=fun i hi=>by
    have:=hS2 _ (AI hi);have h28:2 ^ acts.length≤2 ^ 8:=Nat.pow_le_pow_right (by omega) hk8;exact ⟨S[i]!.toNat,by omega,by omega⟩
   have husz:∀i,usedN (S.take i)<2 ^ 8:=fun i=>MQ fun v hv=>by
    obtain ⟨j,hj,e⟩:=List.mem_iff_getElem.1 (List.mem_of_mem_take hv);obtain ⟨k,e1,e2⟩:=hSn j hj;rw [getElem!_pos S j hj,e] at e1;omega
   have hSl:=hb.2.1;refine Ac (fun (j:Nat) σ=>j≤S.length∧σ=⟨aT .undef 102 [(1,.lst (acts.map .str)),(3,.ptr 0 1 [] 0 0 0),(6,.ptr 2 1 [] 0 0 0),(7,.ptr 3 1 [] 0 0 0),(8,.ptr 5 1 [] 0 0 0),(9,.ptr 7 1 [] 0 0 0),(10,.ptr 8 1 [] 0 0 0),(11,.ptr 9 s9 [] 0 0 0),(12,.ptr 12 (a12+1) [] 0 0 0),(13,I (usedN (S.take j):Nat)),(47,.lst (S.map I)),(48,I S.length),(49,I j)],[⟨1,0,.own 2 [.agg [.fn fs cs,.fn fn cn]]⟩,⟨1,0,.own 2 [.agg [I 0,I 0]]⟩,⟨1,0,.own 2 [.agg [.nils,.nils]]⟩,⟨1,0,.own 1 [.bool false]⟩,⟨1,0,.gone⟩,⟨1,z5,.own 1 [.ownm (Fe (XQ l))]⟩,⟨1,0,.gone⟩,⟨1,z7,.own 1 [.own 2 (l.map ePr)]⟩,⟨1,z8,.own 2 [.agg [.lst (acts.map .str),cellv .nils 2 (outs.map Ahx)]]⟩,⟨s9,0,.own 1 [I outs.length]⟩,⟨a10+1,0,.gone⟩,⟨a11+1,0,.gone⟩,⟨a12+1,1,.own 2 [.agg [.lst (S.map I),.own 1 (List.replicate acts.length (.int .i64 (-1)))]]⟩,⟨a13,c13,.gone⟩,⟨a14,c14,.gone⟩,⟨a15,c15,.gone⟩,⟨a16,c16,.gone⟩,⟨a17,c17,.gone⟩,⟨0,0,.gone⟩],[]⟩) (fun j=>S.length-j) ?_ 0 ?_
   ·rintro j σ ⟨hj,rfl⟩ N2 Q2 hQ2 hN2;by_cases hlt2:j<S.length
    ·obtain ⟨k,hk1,hk2⟩:=hSn j hlt2;have hu1:=husz j;simp only [go_sem,↓reduceIte,↓Aa,Int.ofNat_lt,hlt2,Ab hlt2 (by omega),hk1,Ng (show usedN (S.take j)<2 ^ 63 by omega) (show k<2 ^ 63 by omega)];refine hN2 (j+1) _ (by omega) ⟨by omega,?_⟩;have e:usedN (S.take (j+1))=usedN (S.take j)|||k:=by
      rw [List.take_succ_eq_append_getElem hlt2,Jw,←getElem!_pos S j hlt2,hk1,Int.toNat_natCast]
     simp only [go_sem,↓reduceIte,↓Aa,e]
    ·have hjl:j=S.length:=by omega
     subst hjl hQ2;have hu1:=husz S.length;rw [List.take_length] at hu1;simp only [go_sem,↓reduceIte,↓Aa,Int.ofNat_lt,hlt2,List.take_length,Ai9];have hubit:∀a,(usedN S).testBit a=true↔usedP (fun p v=>v∈sets p) l[outs.length]! a:=fun a=>by
      rw [Do];unfold usedP;simp only [hSe]
     have hua:∀a,(usedN S).testBit a=true→a<acts.length:=fun a ha=>by
      obtain ⟨v,hv,hb2⟩:=Do.1 ha;have:=hS2 v hv;exact Bz (n:=v.toNat) (by omega) hb2
     refine AhO (usedN S) (by omega) (by simp only [go_sem,↓reduceIte,↓Aa]) (fun a hh=>∃g:List Pr×List Int,CX Gd acts.length (usedP (fun p v=>v∈sets p) l[outs.length]!) (nx l[outs.length]!) l a g.1 g.2∧g.1.length≤500∧∃z5 z7 z12 o13 o14 o15,hh = [⟨1,0,.own 2 [.agg [.fn fs cs,.fn fn cn]]⟩,⟨1,0,.own 2 [.agg [I 0,I 0]]⟩,⟨1,0,.own 2 [.agg [.nils,.nils]]⟩,⟨1,0,.own 1 [.bool false]⟩,⟨1,0,.gone⟩,⟨1,z5,.own 1 [.ownm (Fe (XQ g.1))]⟩,⟨1,0,.gone⟩,⟨1,z7,.own 1 [.own 2 (g.1.map ePr)]⟩,⟨1,z8,.own 2 [.agg [.lst (acts.map .str),cellv .nils 2 (outs.map Ahx)]]⟩,⟨s9,0,.own 1 [I outs.length]⟩,⟨a10+1,0,.gone⟩,⟨a11+1,0,.gone⟩,⟨a12+1,z12,.own 2 [.agg [.lst (S.map I),.own 1 (g.2.map I)]]⟩,o13,o14,o15,⟨a16,c16,.gone⟩,⟨a17,c17,.gone⟩,⟨0,0,.gone⟩]) ?_ ?_ ?_ ?_ ?_
     ·rintro a hh ⟨g,_,_,z5,z7,z12,o13,o14,o15,rfl⟩;rfl
     ·refine ⟨(l,List.replicate acts.length (-1)),CX.start hI.nd hI.good,hl5,?_⟩;simp only [go_sem,↓reduceIte,↓Aa,List.map_replicate];repeat apply Exists.intro
      rfl
     ·rintro a hh hbit ⟨g,hX,hg5,hr⟩;exact ⟨g,hX.skip (fun hu=>by rw [(hubit a).2 hu] at hbit;cases hbit),hg5,hr⟩
     ·rintro a hh LF LT hbit ha62 ⟨⟨l',X⟩,hX,hg5,z5,z7,z12,o13,o14,o15,rfl⟩;simp only at hX hg5;have haa:=hua a hbit;have huP:=(hubit a).1 hbit;have hle:=hX.pre.length_le;have hig:l'[outs.length]! = l[outs.length]!:=LX hX.pre hlt;have hil':outs.length<l'.length:=by omega
      have hNx:∀ {roots:List Nat}{b:Nat}{ss:List Nat}{σ:St}{k:AV→St→Prop},callT G fn (.agg [I l[outs.length]!.1,I l[outs.length]!.2]::I a::cn) true roots b ss σ k=k (.agg [I (nx l[outs.length]! a).1,I (nx l[outs.length]! a).2]) σ:=(h.gn _ a hgp haa huP).rule;have hgq:=h.nxg _ a hgp haa huP;have hxl:=hX.xl;have hax:a<X.length:=by omega
      have hold:=fun hm=>hX.old haa huP hm;have hnew:=fun hm=>hX.new haa huP hgq hm;generalize nx l[outs.length]! a=q at *;obtain ⟨q1,q2⟩:=q;by_cases hm:(q1,q2)∈l'
      ·have hl1:Y1 (XQ l') (q1,q2) (.int .i64 0)=I (l'.idxOf (q1,q2):Nat):=by rw [Acl,if_pos hm]
       have hl2:Adq (XQ l') (q1,q2)=true:=by rw [XP,decide_eq_true hm]
       simp only [go_sem,↓reduceIte,↓Aa,B9,B8,Int.ofNat_lt,hil',hig,ePr,OE h.pn,h.tn,outvK_fn,hNx,na1,na2,OG h.pn,hl1,hl2];refine ⟨hax,hax,(l',X.set a (l'.idxOf (q1,q2):Nat)),hold hm,hg5,?_⟩;repeat apply Exists.intro
       rfl
      ·have hl2:Adq (XQ l') (q1,q2)=false:=by rw [XP,decide_eq_false hm]
       simp only [go_sem,↓reduceIte,↓Aa,B9,B8,Int.ofNat_lt,hil',hig,ePr,OE h.pn,h.tn,outvK_fn,hNx,na1,na2,OG h.pn,hl2];refine ⟨fun h5=>?_,fun h5=>?_⟩
       ·have h5':(l'.length:Int)=500:=by simpa using h5
        subst hQ;simp only [go_sem,↓reduceIte,↓Aa];refine .inr ⟨l'++[(q1,q2)],nodup_snoc hX.nd hm,?_,?_⟩
        ·intro q hq;rw [List.mem_append,List.mem_singleton] at hq;rcases hq with hq|rfl
         ·exact hX.good q hq
         ·exact hgq
        ·simp only [List.length_append,List.length_singleton];omega
       ·have h5':¬(l'.length:Int)=500:=by simpa using h5
        refine ⟨⟨by omega,rfl⟩,hax,hax,(l'++[(q1,q2)],X.set a (l'.length:Nat)),hnew hm,by simp only [List.length_append,List.length_singleton];omega,?_⟩;simp only [X4 hm,List.map_append,List.map_cons,List.map_nil,ePr];repeat apply Exists.intro
        rfl
     ·rintro a hh ha ⟨⟨l',X⟩,hX,hg5,z5,z7,z12,o13,o14,o15,rfl⟩;simp only at hX hg5;simp only [go_sem,↓reduceIte,↓Aa,Ab hlt (show l.length≤1000000000 by omega)];refine ⟨by omega,hN (l',outs++[⟨S,X⟩]) _ (by simp only [List.length_append,List.length_singleton];omega) ⟨?_,hg5,?_⟩⟩
      ·simp only [List.length_append,List.length_singleton];rw [←hSe];exact hI.next hlt (a:=a) (fun b hb hab hu=>by
        have h1:=(hubit b).2 hu;rw [testBit_big ha hab] at h1;cases h1) hX
      ·simp only [go_sem,↓reduceIte,↓Aa,List.map_append,Ahx];repeat apply Exists.intro
       rfl
   ·refine ⟨by omega,?_⟩;simp only [go_sem,↓reduceIte,↓Aa,List.take_zero];rfl
  ·subst hQ;simp only [go_sem,↓reduceIte,↓Aa,Int.ofNat_lt,hlt,AeK];exact .inl ⟨_,l,hI.fin (by omega) rfl (fun p hp=>(h.b p hp).2.2),hl5,rfl⟩
 ·refine ⟨CI.start h.z,by simp,?_⟩;have e0:putM [] ((0:Int),(0:Int)) (.int .i64 0)=XQ [(0,0)]:=X4 (l:=[]) (by simp);simp only [go_sem,↓reduceIte,↓Aa,e0,ePr];repeat apply Exists.intro
  rfl
end Go.Mw
namespace Go.Mw
set_option maxRecDepth 100000
theorem FnP.ex {f:FuncId}{xs:List AV}{P:AV→Prop}(h:FnP G f xs fun rs h=>P (packV (treeBL 0 h rs))):∃v,P v∧Fn G f xs v:=by
 obtain ⟨F,n,rs,σ1,h1,h2,h3,h4,h5,h6,h7⟩:=h.ok;exact ⟨_,h7,F,n,rs,σ1,h1,h2,h3,h4,h5,h6,rfl⟩
section
variable {h:List Ob}{f:FuncId}{a b c:List AV}{q:AV→List Ob→Prop}
theorem takeCellK_fn2:B4 h (.fn f [.pfro a,.pfro b]) q=q (.fn f [.pfro a,.pfro b]) h:=takeCellK_plain rfl
theorem takeCellK_fn3:B4 h (.fn f [.pfro a,.pfro b,.pfro c]) q=q (.fn f [.pfro a,.pfro b,.pfro c]) h:=takeCellK_plain rfl
theorem oneK_fn2:Qn h (.fn f [.pfro a,.pfro b])=True:=eq_true rfl
theorem oneK_fn3:Qn h (.fn f [.pfro a,.pfro b,.pfro c])=True:=eq_true rfl
theorem Tj:B4 h (.fn f []) q=q (.fn f []) h:=takeCellK_plain rfl
theorem AeW:Qn h (.fn f [])=True:=eq_true rfl
theorem cells_nilf:AV.nilf.cells = [.nilf]:=rfl
theorem QW:setCellOf .nilf 0 (.fn f []) = .fn f []:=rfl
theorem frz_fn0:frz (.fn f []) = .fn f []:=rfl
theorem plain_nilf:AV.nilf.plain=true:=rfl
end
attribute [go_sem] Tj AeW QW frz_fn0 cells_nilf takeCellK_fn2 takeCellK_fn3 oneK_fn2 oneK_fn3 plain_nilf outvK_fn
def fz (s:Spc):AV:=.pfro [.lst (s.acts.map .str),.lst (s.S.map eSt)]
def J1 (s t:Spc)(p:Pr):List Int:=(s.S[p.1.toNat]!.A).filter fun v=>decide (v∈t.S[p.2.toNat]!.A)
theorem FU {s t:Spc}{p:Pr}(hp:gdM s.S.length t.S.length p){v:Int}:v∈J1 s t p↔accM s t p v:=by
 obtain ⟨h1,h2,h3,h4⟩:=hp;unfold J1 accM accP;rw [List.mem_filter,decide_eq_true_iff];simp only [h1,h3,true_and]
theorem Aie {l:List Int}(h:l.Pairwise (· < ·)):∀i j,i<j→j<l.length→l[i]! < l[j]!:=fun i j hij hj=>by
 have:=List.pairwise_iff_getElem.1 h i j (by omega) hj hij;rwa [getElem!_pos l i (by omega),getElem!_pos l j hj]
section
variable {m q:Nat}{s t:Spc}(hs:SpcK m s) (ht:SpcK q t) (he:t.acts=s.acts)
include hs ht
theorem Af6 {p:Pr}(hp:gdM s.S.length t.S.length p):Fn G f_meet_Met_1 [ePr p,fz s,fz t] (.lst ((J1 s t p).map I)):=by
 obtain ⟨p1,p2⟩:=p;obtain ⟨h1,h2,h3,h4⟩:=hp;simp only at h1 h2 h3 h4;obtain ⟨x,rfl⟩:∃x:Nat,p1=x:=⟨p1.toNat,by omega⟩;obtain ⟨y,rfl⟩:∃y:Nat,p2=y:=⟨p2.toNat,by omega⟩;have hx:x<s.S.length:=by omega
 have hy:y<t.S.length:=by omega
 have hxa:=hs.alen hx;have hya:=ht.alen hy;have hb:∀ {roots:List Nat}{b:Nat}{ss:List Nat}{σ:St}{k:AV→St→Prop},callT G Fp [.lst (s.S[x]!.A.map I),.lst (t.S[y]!.A.map I)] true roots b ss σ k=k (.lst ((J1 s t (x,y)).map I)) σ:=(Ahg _ _ (by omega) (by omega) (Aie (FZ (ht.st y hy).ris))).rule;refine FnP.mk' TB rfl rfl ?_;simp only [go_sem,↓reduceIte,↓Aa,NF,ePr,fz,hx,hy,eSt,hb]
include he
theorem AgD {p:Pr}(hp:gdM s.S.length t.S.length p){a:Nat}(ha:a<s.acts.length):Fn G f_meet_Met_2 [ePr p,I a,fz s,fz t] (ePr (nxP s t p a)):=by
 obtain ⟨p1,p2⟩:=p;obtain ⟨h1,h2,h3,h4⟩:=hp;simp only at h1 h2 h3 h4;obtain ⟨x,rfl⟩:∃x:Nat,p1=x:=⟨p1.toNat,by omega⟩;obtain ⟨y,rfl⟩:∃y:Nat,p2=y:=⟨p2.toNat,by omega⟩;have hx:x<s.S.length:=by omega
 have hy:y<t.S.length:=by omega
 have hxa:a<s.S[x]!.X.length:=by rw [(hs.st x hx).len];exact ha
 have hya:a<t.S[y]!.X.length:=by rw [(ht.st y hy).len,he];exact ha
 have e1:nx1 s (x:Int) a=s.S[x]!.X[a]!:=by unfold nx1;rw [if_neg (by omega),Int.toNat_natCast]
 have e2:nx1 t (y:Int) a=t.S[y]!.X[a]!:=by unfold nx1;rw [if_neg (by omega),Int.toNat_natCast]
 refine FnP.mk' UW rfl rfl ?_;simp only [go_sem,↓reduceIte,↓Aa,NK,ePr,fz,hx,hy,eSt,hxa,hya,nxP,e1,e2]
theorem Ait:CB s.acts (gdM s.S.length t.S.length) (J1 s t) (nxP s t) f_meet_Met_1 f_meet_Met_2 [fz s,fz t] [fz s,fz t]:=by
 have hs1:=hs.s1;have ht1:=ht.s1;have hu:∀p a,gdM s.S.length t.S.length p→usedP (fun p v=>v∈J1 s t p) p a→goM s t p a:=fun p a hp ⟨v,hv,hb⟩=>XG hs ht hp ((FU hp).1 hv) hb;refine ⟨hs.acts,KZ,KM,fun h=>rfl,fun h=>rfl,rfl,rfl,⟨rfl,rfl⟩,⟨rfl,rfl⟩,fun p hp=>Af6 hs ht hp,fun p a hp ha _=>AgD hs ht he hp ha,fun p hp=>⟨fun v hv=>?_,?_,?_⟩,fun p a hp ha hup=>AfF hs ht he hp ha (hu p a hp hup),⟨by omega,by omega,by omega,by omega⟩⟩
 ·exact (LV hs ht).b p v hp ((FU hp).1 hv)
 ·have:=hs.alen (x:=p.1.toNat) (by have:=hp.2.1;have:=hp.1;omega);exact Nat.le_trans (List.length_filter_le _ _) (by omega)
 ·exact (FZ (hs.st p.1.toNat (by have:=hp.2.1;have:=hp.1;omega)).ris).filter _
theorem met_ok:(∃C l,PS (gdM s.S.length t.S.length) s.acts (fun p v=>v∈J1 s t p) (nxP s t) (usedP fun p v=>v∈J1 s t p) C l∧l.length≤500∧Fn G f_meet_Met [eSp s,eSp t] (.tup [eSp (trimA C).1,Bo true])) ∨
 (∃l:List Pr,l.Nodup∧(∀p∈l,gdM s.S.length t.S.length p)∧l.length=501∧Fn G f_meet_Met [eSp s,eSp t] (.tup [eSp zSpc,Bo false])):=by
 obtain ⟨v,hv,hc⟩:=FnP.ex (P:=fun v=>(∃out l,PS (gdM s.S.length t.S.length) s.acts (fun p v=>v∈J1 s t p) (nxP s t) (usedP fun p v=>v∈J1 s t p) out l∧l.length≤500∧v = .tup [eSp out,Bo true]) ∨
  (∃l:List Pr,l.Nodup∧(∀p∈l,gdM s.S.length t.S.length p)∧l.length=501∧v = .tup [.agg [.lst [],.lst []],Bo false])) (RF (Ait hs ht he))
 rcases hv with ⟨C,l,hP,hl,rfl⟩|⟨l,h1,h2,h3,rfl⟩
 ·have hC:CR C:=hP.ok hs.acts (AccOk.used ⟨fun p v hp hv=>(LV hs ht).b p v hp ((FU hp).1 hv),fun p v a hp hv ha=>(LV hs ht).g p v a hp ((FU hp).1 hv) ha⟩) (by omega);have hcall:∀ {roots:List Nat}{b:Nat}{ss:List Nat}{σ:St}{k:AV→St→Prop},callT G Ag [.agg [.fn f_meet_Met_1 [.pfro [.lst (s.acts.map .str),.lst (s.S.map eSt)],.pfro [.lst (t.acts.map .str),.lst (t.S.map eSt)]],.fn f_meet_Met_2 [.pfro [.lst (s.acts.map .str),.lst (s.S.map eSt)],.pfro [.lst (t.acts.map .str),.lst (t.S.map eSt)]]],.lst (s.acts.map .str),.agg [I 0,I 0]] true roots b ss σ k=k (.tup [eSp C,Bo true]) σ:=hc.rule;refine .inl ⟨C,l,hP,hl,FnP.mk' RO rfl rfl ?_⟩;simp only [go_sem,↓reduceIte,↓Aa,Np,eSp,hcall,trimmed_r hC]
 ·have hcall:∀ {roots:List Nat}{b:Nat}{ss:List Nat}{σ:St}{k:AV→St→Prop},callT G Ag [.agg [.fn f_meet_Met_1 [.pfro [.lst (s.acts.map .str),.lst (s.S.map eSt)],.pfro [.lst (t.acts.map .str),.lst (t.S.map eSt)]],.fn f_meet_Met_2 [.pfro [.lst (s.acts.map .str),.lst (s.S.map eSt)],.pfro [.lst (t.acts.map .str),.lst (t.S.map eSt)]]],.lst (s.acts.map .str),.agg [I 0,I 0]] true roots b ss σ k=k (.tup [.agg [.lst [],.lst []],Bo false]) σ:=hc.rule;refine .inr ⟨l,h1,h2,h3,FnP.mk' RO rfl rfl ?_⟩;simp only [go_sem,↓reduceIte,↓Aa,Np,eSp,hcall,zSpc]
end
end Go.Mw
namespace Go.Mw
set_option maxRecDepth 100000
def setsJ (s t:Spc)(p:Pr):List Int:=uniL (acL7 s p.1) (acL7 t p.2)
theorem KQ {s t:Spc}{p:Pr}{v:Int}:v∈setsJ s t p↔accJ s t p v:=by
 unfold setsJ accJ;rw [uniL_mem,XZ,XZ]
theorem FM {m:Nat}{s:Spc}(hs:SpcK m s){x:Int}(hx:x<(s.S.length:Int)):(acL7 s x).Pairwise (· < ·)∧(acL7 s x).length≤256:=by
 unfold acL7;split
 ·exact ⟨List.Pairwise.nil,by simp⟩
 ·exact ⟨FZ (hs.st x.toNat (by omega)).ris,hs.alen (by omega)⟩
theorem X2 {b:List Int}:∀ {a:List Int},(uniL a b).length≤a.length+b.length:=by
 induction b with
 | nil=>intro a;simp [uniL]
 | cons x b ih =>
   intro a;have h1:=@ih (OC a x);have h2:(OC a x).length≤a.length+1:=by
    unfold OC;split
    ·omega
    ·have:=@AfA a x;simp;omega
   simp only [List.length_cons];have h3:uniL a (x::b)=uniL (OC a x) b:=rfl;rw [h3];omega
theorem AfS (s:Spc)(x:Int)(hx:x<(s.S.length:Int)):Fn G f_meet_Joined_1 [eSp s,I x] (.lst ((acL7 s x).map I)):=by
 refine FnP.mk' PW rfl rfl ?_;by_cases h:x<0
 ·simp only [go_sem,↓reduceIte,↓Aa,Jb,eSp,h,acL7,if_true]
 ·obtain ⟨k,rfl⟩:∃k:Nat,x=k:=⟨x.toNat,by omega⟩;have hk:k<s.S.length:=by omega
  simp only [go_sem,↓reduceIte,↓Aa,Jb,eSp,h,if_false,hk,eSt,acL7,Int.toNat_natCast]
theorem AfN (s:Spc)(x:Int)(hx:x<(s.S.length:Int))(a:Nat)(ha:0≤x→a<s.S[x.toNat]!.X.length):FnT G AY [eSp s,I x,I a] (I (nx1 s x a)):=by
 refine FnP.mk' PE rfl rfl ?_;by_cases h:x<0
 ·simp only [go_sem,↓reduceIte,↓Aa,HT,eSp,h,if_true,nx1]
 ·obtain ⟨k,rfl⟩:∃k:Nat,x=k:=⟨x.toNat,by omega⟩;have hk:k<s.S.length:=by omega
  have ha':=ha (by omega);rw [Int.toNat_natCast] at ha';simp only [go_sem,↓reduceIte,↓Aa,HT,eSp,h,if_false,hk,eSt,nx1,Int.toNat_natCast,ha']
def fzf (f:FuncId):AV:=.pfro [.fn f []]
section
variable {m q:Nat}{s t:Spc}(hs:SpcK m s) (ht:SpcK q t) (he:t.acts=s.acts)
include hs ht
theorem AhN {p:Pr}(hp:Cd s.S.length t.S.length p):Fn G f_meet_Joined_3 [ePr p,fzf f_meet_Joined_1,fz s,fz t] (.lst ((setsJ s t p).map I)):=by
 obtain ⟨p1,p2⟩:=p;obtain ⟨h1,h2,h3,h4,_⟩:=hp;simp only at h1 h2 h3 h4;have ha:=FM hs h2;have hb:=FM ht h4;have c1:∀ {roots:List Nat}{b:Nat}{ss:List Nat}{σ:St}{k:AV→St→Prop},callT G f_meet_Joined_1 [.agg [.lst (s.acts.map .str),.lst (s.S.map eSt)],I p1] true roots b ss σ k=k (.lst ((acL7 s p1).map I)) σ:=(AfS s p1 h2).rule;have c2:∀ {roots:List Nat}{b:Nat}{ss:List Nat}{σ:St}{k:AV→St→Prop},callT G f_meet_Joined_1 [.agg [.lst (t.acts.map .str),.lst (t.S.map eSt)],I p2] true roots b ss σ k=k (.lst ((acL7 t p2).map I)) σ:=(AfS t p2 h4).rule;have c3:∀ {roots:List Nat}{b:Nat}{ss:List Nat}{σ:St}{k:AV→St→Prop},callT G DA [.lst ((acL7 s p1).map I),.lst ((acL7 t p2).map I)] true roots b ss σ k=k (.lst ((setsJ s t (p1,p2)).map I)) σ:=(AbJ _ _ ha.1 (by omega) (by omega)).rule;refine FnP.mk' PZ rfl rfl ?_;simp only [go_sem,↓reduceIte,↓Aa,KW,ePr,fz,fzf,c1,c2,c3]
include he
theorem Aiw {p:Pr}(hp:Cd s.S.length t.S.length p){a:Nat}(ha:a<s.acts.length):Fn G f_meet_Joined_4 [ePr p,I a,fzf AY,fz s,fz t] (ePr (nxP s t p a)):=by
 obtain ⟨p1,p2⟩:=p;obtain ⟨h1,h2,h3,h4,_⟩:=hp;simp only at h1 h2 h3 h4;have c1:∀ {fr:Bool}{roots:List Nat}{b:Nat}{ss:List Nat}{σ:St}{k:AV→St→Prop},callT G AY [.agg [.lst (s.acts.map .str),.lst (s.S.map eSt)],I p1,I a] fr roots b ss σ k=k (I (nx1 s p1 a)) σ:=(AfN s p1 h2 a fun h=>by rw [(hs.st p1.toNat (by omega)).len];exact ha).rule;have c2:∀ {fr:Bool}{roots:List Nat}{b:Nat}{ss:List Nat}{σ:St}{k:AV→St→Prop},callT G AY [.agg [.lst (t.acts.map .str),.lst (t.S.map eSt)],I p2,I a] fr roots b ss σ k=k (I (nx1 t p2 a)) σ:=(AfN t p2 h4 a fun h=>by rw [(ht.st p2.toNat (by omega)).len,he];exact ha).rule;refine FnP.mk' PX rfl rfl ?_;simp only [go_sem,↓reduceIte,↓Aa,K3,ePr,fz,fzf,c1,c2,nxP]
theorem Ai5:CB s.acts (Cd s.S.length t.S.length) (setsJ s t) (nxP s t) f_meet_Joined_3 f_meet_Joined_4 [fzf f_meet_Joined_1,fz s,fz t] [fzf AY,fz s,fz t]:=by
 have hs1:=hs.s1;have ht1:=ht.s1;have hu:∀p a,Cd s.S.length t.S.length p→usedP (fun p v=>v∈setsJ s t p) p a→goJ s t p a:=fun p a hp ⟨v,hv,hb⟩=>XB hs ht hp (KQ.1 hv) hb;refine ⟨hs.acts,Jq,Jp,fun h=>rfl,fun h=>rfl,rfl,rfl,⟨rfl,rfl⟩,⟨rfl,rfl⟩,fun p hp=>AhN hs ht hp,fun p a hp ha _=>Aiw hs ht he hp ha,fun p hp=>⟨fun v hv=>?_,?_,?_⟩,fun p a hp ha hup=>AfH hs ht he hp ha (hu p a hp hup),⟨by omega,by omega,by omega,by omega,.inl (by omega)⟩⟩
 ·exact (Lc hs ht he).b p v hp (KQ.1 hv)
 ·have h1:=(FM hs hp.2.1).2;have h2:=(FM ht hp.2.2.2.1).2;exact Nat.le_trans X2 (by omega)
 ·exact RU (FM hs hp.2.1).1
end
theorem OJ {m:Nat}{s:Spc}(h:SpcK m s):((trimA s).2 = []↔(Cn s)[0]! = true):=by
 cases h0:(Cn s)[0]! with
 | true=>rw [Kl h0];simp
 | false =>
   rw [trimA_f h0];have:=JM (h.b h.sz) h.s1;simp only [Bool.false_eq_true,iff_false];intro e;rw [e] at this;simp at this
theorem Abc {s t:Spc}(hs:CR s)(ht:CR t)(he:t.acts=s.acts) :
 ((trimA s).2 = []∧Fn G f_meet_Joined [eSp s,eSp t] (.tup [eSp (trimA t).1,Bo true])) ∨
 ((trimA t).2 = []∧Fn G f_meet_Joined [eSp s,eSp t] (.tup [eSp (trimA s).1,Bo true])) ∨
 (∃C l,(trimA s).2≠[]∧PS (Cd (trimA s).1.S.length (trimA t).1.S.length) s.acts (fun p v=>v∈setsJ (trimA s).1 (trimA t).1 p) (nxP (trimA s).1 (trimA t).1) (usedP fun p v=>v∈setsJ (trimA s).1 (trimA t).1 p) C l∧l.length≤500∧Fn G f_meet_Joined [eSp s,eSp t] (.tup [eSp (trimA C).1,Bo true])) ∨
 (∃l:List Pr,(trimA s).2≠[]∧l.Nodup∧(∀p∈l,Cd (trimA s).1.S.length (trimA t).1.S.length p)∧l.length=501∧Fn G f_meet_Joined [eSp s,eSp t] (.tup [eSp zSpc,Bo false])):=by
 obtain ⟨hT,hTa⟩:=Cx hs;obtain ⟨hU,hUa⟩:=Cx ht;have r1:∀ {roots:List Nat}{b:Nat}{ss:List Nat}{σ:St}{k:AV→St→Prop},callT G A0 [.agg [.lst (s.acts.map .str),.lst (s.S.map eSt)]] true roots b ss σ k=k (.tup [eSp (trimA s).1,.lst ((trimA s).2.map eN)]) σ:=trimmed_r hs;have r2:∀ {roots:List Nat}{b:Nat}{ss:List Nat}{σ:St}{k:AV→St→Prop},callT G A0 [.agg [.lst (t.acts.map .str),.lst (t.S.map eSt)]] true roots b ss σ k=k (.tup [eSp (trimA t).1,.lst ((trimA t).2.map eN)]) σ:=trimmed_r ht;generalize hse:(trimA s).1=s' at *;generalize hte:(trimA t).1=t' at *;generalize hs2:(trimA s).2=l1 at *;generalize ht2:(trimA t).2=l2 at *;have he':t'.acts=s'.acts:=by rw [hUa,hTa,he]
 by_cases h1:l1 = []
 ·subst h1;refine .inl ⟨rfl,FnP.mk' Hk rfl rfl ?_⟩;simp only [go_sem,↓reduceIte,↓Aa,EK,eSp,r1,r2,List.map_nil]
 by_cases h2:l2 = []
 ·subst h2;have h1':¬(l1.length:Int)=0:=by have:=List.length_pos_iff.2 h1;omega
  refine .inr (.inl ⟨rfl,FnP.mk' Hk rfl rfl ?_⟩);simp only [go_sem,↓reduceIte,↓Aa,EK,eSp,r1,r2,List.map_nil,h1'];exact fun h=>absurd (by simpa using h) h1
 have h1':¬(l1.length:Int)=0:=by have:=List.length_pos_iff.2 h1;omega
 have h2':¬(l2.length:Int)=0:=by have:=List.length_pos_iff.2 h2;omega
 obtain ⟨v,hv,hc⟩:=FnP.ex (P:=fun v=>(∃out l,PS (Cd s'.S.length t'.S.length) s'.acts (fun p v=>v∈setsJ s' t' p) (nxP s' t') (usedP fun p v=>v∈setsJ s' t' p) out l∧l.length≤500∧v = .tup [eSp out,Bo true]) ∨
  (∃l:List Pr,l.Nodup∧(∀p∈l,Cd s'.S.length t'.S.length p)∧l.length=501∧v = .tup [.agg [.lst [],.lst []],Bo false])) (RF (Ai5 hT.ok hU.ok he'))
 have b1:((l1.length:Int)==0)=false:=by rw [beq_eq_false_iff_ne];exact h1'
 have b2:((l2.length:Int)==0)=false:=by rw [beq_eq_false_iff_ne];exact h2'
 rcases hv with ⟨C,l,hP,hl,rfl⟩|⟨l,g1,g2,g3,rfl⟩
 ·have hA:=Lc hT.ok hU.ok he';have hC:CR C:=hP.ok (by rw [hTa];exact hs.acts) (AccOk.used ⟨fun p v hp hv=>hA.b p v hp (KQ.1 hv),fun p v a hp hv ha=>hA.g p v a hp (KQ.1 hv) ha⟩) (by omega);have hcall:∀ {roots:List Nat}{b:Nat}{ss:List Nat}{σ:St}{k:AV→St→Prop},callT G Ag [.agg [.fn f_meet_Joined_3 [.pfro [.fn f_meet_Joined_1 []],.pfro [.lst (s'.acts.map .str),.lst (s'.S.map eSt)],.pfro [.lst (t'.acts.map .str),.lst (t'.S.map eSt)]],.fn f_meet_Joined_4 [.pfro [.fn AY []],.pfro [.lst (s'.acts.map .str),.lst (s'.S.map eSt)],.pfro [.lst (t'.acts.map .str),.lst (t'.S.map eSt)]]],.lst (s'.acts.map .str),.agg [I 0,I 0]] true roots b ss σ k=k (.tup [eSp C,Bo true]) σ:=hc.rule;refine .inr (.inr (.inl ⟨C,l,h1,by rw [←hTa];exact hP,hl,FnP.mk' Hk rfl rfl ?_⟩));simp only [go_sem,↓reduceIte,↓Aa,EK,eSp,r1,r2,b1,b2,hcall,trimmed_r hC]
 ·have hcall:∀ {roots:List Nat}{b:Nat}{ss:List Nat}{σ:St}{k:AV→St→Prop},callT G Ag [.agg [.fn f_meet_Joined_3 [.pfro [.fn f_meet_Joined_1 []],.pfro [.lst (s'.acts.map .str),.lst (s'.S.map eSt)],.pfro [.lst (t'.acts.map .str),.lst (t'.S.map eSt)]],.fn f_meet_Joined_4 [.pfro [.fn AY []],.pfro [.lst (s'.acts.map .str),.lst (s'.S.map eSt)],.pfro [.lst (t'.acts.map .str),.lst (t'.S.map eSt)]]],.lst (s'.acts.map .str),.agg [I 0,I 0]] true roots b ss σ k=k (.tup [.agg [.lst [],.lst []],Bo false]) σ:=hc.rule;refine .inr (.inr (.inr ⟨l,h1,g1,g2,g3,FnP.mk' Hk rfl rfl ?_⟩));simp only [go_sem,↓reduceIte,↓Aa,EK,eSp,r1,r2,b1,b2,hcall,zSpc]
end Go.Mw
namespace Go.Mw
set_option maxRecDepth 100000
theorem wpX_congr {G:Prg}{ops:List Rop}{b:Nat}{σ τ:St}{K:St→List (Option (List Nat))→List Sft→Prop}(h:σ=τ):WpX G ops b σ K=WpX G ops b τ K:=by rw [h]
attribute [congr] wpX_congr
theorem Ag0 {G:Prg}{b:Nat}{σ:St}{K:St→List (Option (List Nat))→List Sft→Prop}:WpX G [] b σ K=K σ [] [] :=
 propext ⟨fun ⟨n,σ',fs,h,k⟩=>by simp [drwE] at h;obtain ⟨rfl,rfl⟩:=h;exact k,fun k=>⟨0,σ,[],rfl,k⟩⟩
theorem AgF {G:Prg}{n m:Nat}(h:n≤m){ops:List Rop}{b:Nat}{σ:St}{r:St×List (Option (List Nat))}(hx:drwE G (evO G n) ops b σ=some r):RC (evO G n) ops b σ=RC (evO G m) ops b σ :=
 U5 (fun i b σ r h2=>(monoLe h).2.1 i b σ r h2) _ _ _ _ hx
theorem AeX {G:Prg}{d:Option Nat}{i:Ins}{os:List Rop}{b:Nat}{σ:St}{K:St→List (Option (List Nat))→List Sft→Prop} :
 WpX G (⟨d,i,none⟩::os) b σ K=wpI G i b σ (fun v σ1=>WpX G os b (σ1.put d v) (fun σ2 fs ss=>K σ2 (foot G b i σ::fs) (sftI b i σ::ss))):=by
 refine propext ⟨fun ⟨n,σ',fs,h,k⟩=>?_,fun h=>?_⟩
 ·rw [XE];simp only [drwE,RC,wantedO] at h k;cases hx:evO G n i b σ with
  | none=>simp [hx] at h
  | some p =>
    obtain ⟨v,σ1⟩:=p;simp only [hx] at h k;cases hy:drwE G (evO G n) os b (σ1.put d v) with
    | none=>simp [hy] at h
    | some q =>
      obtain ⟨σ2,fs2⟩:=q;simp only [hy,Option.some.injEq,Prod.mk.injEq] at h;obtain ⟨rfl,rfl⟩:=h;exact ⟨n,v,σ1,hx,n,σ2,fs2,hy,k⟩
 ·rw [XE] at h;obtain ⟨n,v,σ1,h1,m,σ2,fs,h2,k⟩:=h;refine ⟨max n m,σ2,foot G b i σ::fs,?_,?_⟩
  ·simp only [drwE,wantedO,(monoLe (Nat.le_max_left n m)).2.1 _ _ _ _ h1,Abj (Nat.le_max_right n m) h2]
  ·simp only [RC,wantedO,(monoLe (Nat.le_max_left n m)).2.1 _ _ _ _ h1,←AgF (Nat.le_max_right n m) h2];exact k
def rdP (v:AV):Sft:=match v with | .ptr r _ p _ _ _=>.rd r p|_=>.no
def rdS (v:AV):Sft:=match v with | .sl r _ p _ _ _=>.rd r p|_=>.no
def AiR (o:Option AV)(x:Sft):Sft:=match o with|some (.own ..)=>x|_=>.no
def rdC (h:List Ob)(v:AV):Sft:=match v with | .ptr r _ p _ i j=>AiR (nodeAt h r (p++[(i,j)])) (.rd r (p++[(i,j)]))|_=>.no
def apP (s:Nat)(x y:AV):Sft:=match x with | .sl r _ p _ _ _=>.ap r p (s::rootsOf y)|_=>.no
def apM (xs:List AV)(r:Nat)(p:Path)(os:List Nat):Sft:=if xs = [] then .no else .ap r p os
section
variable {b:Nat}{σ:St}{x y z:Opd}{r st ss i j off len es s n m:Nat}{p q:Path}{xs:List AV}{h:List Ob}
theorem AeO {x:Nat}:sftI b (.app s n m (.t x) y) σ=apP (b+s) (σ.get (.t x)) (σ.get y):=(rfl)
theorem Ad2:sftI b (.mov x) σ = .no:=(rfl)
theorem Afh {l:List Opd}:sftI b (.bsl s n m l) σ = .no:=(rfl)
def Ajv (p q:Path):Prop:=p.isPrefixOf q=false
theorem Af8 {a c:Option (List Nat)}{u v:Sft}:((apart a c||Aa5 u v)=true)=(¬apart a c=true→Aa5 u v=true):=by
 cases apart a c<;>simp
end
attribute [go_sem] AhZ Ag0 AeX     AeO Ad2 Afh            Af8
end Go.Mw
namespace Go.Mw
set_option maxRecDepth 100000
def giveK (B:Nat)(h1 h0:List Ob)(b:Nat)(ss:List Nat)(rs:List AV)(k:AV→List Ob→Prop)(u:Tg k:=tg):Prop:=match Mf true B h1 h0 b ss rs with|some (v,h)=>k v h|none=>False
theorem UG {G:Prg}{f:FuncId}{xs:List AV}{b s:Nat}{σ:St}{K:AV→St→Prop}{np nt ns:Nat}{c:C}{res:List (Nat×Option (Bool×Nat))}{sp:Bool}(hf:G f=some ⟨np,nt,ns,c,res,false,true,sp⟩)(hl:xs.length=np)
 (h:Wp G c σ.h.length { t:=xs++List.replicate (nt-xs.length) (.tup []),h:=σ.h++List.replicate ns E4,lp:=σ.lp }
   (fun e σ1=>(match e with | .ext _=>False|_=>True)∧TV σ1 res (fun rs=>giveK σ.h.length σ1.h (σ1.h.take σ.h.length) b [s] rs (fun v h=>K v ⟨σ.t,h,σ1.lp⟩)))):Bc G f xs b [s] σ K:=by
 obtain ⟨n,e,σ1,hx,he,hr⟩:=h;unfold TV at hr;cases hrs:resT σ1 res with
 | none=>simp [hrs] at hr
 | some rs =>
   simp only [hrs] at hr;unfold giveK at hr;cases hg:Mf true σ.h.length σ1.h (σ1.h.take σ.h.length) b [s] rs with
   | none=>simp [hg] at hr
   | some p =>
     obtain ⟨v,h⟩:=p;simp only [hg] at hr;refine ⟨n+2,_,_,?_,hr⟩;rw [callF,hf];simp only [hl,if_true,Bool.false_eq_true,if_false];rw [runF];rw [hl] at hx;simp only [hx];cases e with
     | ext i=>exact he.elim
     | nrm=>simp only [hrs,List.isEmpty_cons,Bool.not_false,Bool.true_and,hg]
     | ret=>simp only [hrs,List.isEmpty_cons,Bool.not_false,Bool.true_and,hg]
theorem Abg {B:Nat}{h1 h0:List Ob}{b s r st sb off len:Nat}{p:Path}{k:AV→List Ob→Prop}(h:r<B):giveK B h1 h0 b [s] [.sl r st p sb off len] k=k (.sl r st p sb off len) h0:=by
 unfold giveK;simp only [Mf,Nat.not_le.2 h,if_false]
theorem Ac9 {B:Nat}{h1 h0:List Ob}{b s r st sb off len:Nat}{p:Path}{κ:IntKind}{n:Int}{k:AV→List Ob→Prop}(h:r<B):giveK B h1 h0 b [s] [.int κ n,.sl r st p sb off len] k=k (.tup [.int κ n,.sl r st p sb off len]) h0:=by
 unfold giveK;simp only [Mf,Nat.not_le.2 h,if_false]
theorem Ug {B:Nat}{h1 h0:List Ob}{b s r st sb off len:Nat}{p:Path}{k:AV→List Ob→Prop}(h:B≤r) :
 giveK B h1 h0 b [s] [.sl r st p sb off len] k=Bw h1 r st p sb (fun nd=>H3 nd (fun es xs=>(off=0∧len=xs.length∧xs.all (fun e:AV=>e.cells.all AV.plain)=true)∧Mg h0 (b+s) (.own es xs) (fun h st'=>k (.sl (b+s) st' [] 0 0 len) h))):=by
 unfold giveK Bw;simp only [Mf,h,if_true];cases node h1 r st p sb with
 | none=>rfl
 | some nd =>
   cases nd<;>first|rfl|skip
   rename_i es xs;simp only [H3,Mg];by_cases hc:off=0∧len=xs.length∧xs.all (fun e:AV=>e.cells.all AV.plain)=true
   ·rw [if_pos hc];cases newOb h0 (b+s) (.own es xs) with
    | none=>simp
    | some q=>simp only [hc,and_self,true_and]
   ·rw [if_neg hc];simp only [hc,false_and]
theorem AbX {B:Nat}{h1 h0:List Ob}{b s r st sb off len:Nat}{p:Path}{κ:IntKind}{n:Int}{k:AV→List Ob→Prop}(h:B≤r) :
 giveK B h1 h0 b [s] [.int κ n,.sl r st p sb off len] k=Bw h1 r st p sb (fun nd=>H3 nd (fun es xs=>(off=0∧len=xs.length∧xs.all (fun e:AV=>e.cells.all AV.plain)=true)∧Mg h0 (b+s) (.own es xs) (fun h st'=>k (.tup [.int κ n,.sl (b+s) st' [] 0 0 len]) h))):=by
 unfold giveK Bw;simp only [Mf,h,if_true];cases node h1 r st p sb with
 | none=>rfl
 | some nd =>
   cases nd<;>first|rfl|skip
   rename_i es xs;simp only [H3,Mg];by_cases hc:off=0∧len=xs.length∧xs.all (fun e:AV=>e.cells.all AV.plain)=true
   ·rw [if_pos hc];cases newOb h0 (b+s) (.own es xs) with
    | none=>simp
    | some q=>simp only [hc,and_self,true_and]
   ·rw [if_neg hc];simp only [hc,false_and]
section
variable {H os:List Ob}{r k:Nat}
theorem Af9 (h:r<H.length):(H++os)[r]? = H[r]? := List.getElem?_append_left h
theorem SN:(H++os)[H.length+k]? = os[k]? := by rw [List.getElem?_append_right (by omega),Nat.add_sub_cancel_left]
theorem ZA:(H++os)[H.length]? = os[0]? := by rw [List.getElem?_append_right (by omega),Nat.sub_self]
theorem Aim {o:Ob}(h:r<H.length):(H++os).set r o=H.set r o++os:=List.set_append_left _ _ h
theorem ap_shi {o:Ob}:(H++os).set (H.length+k) o=H++os.set k o:=by rw [List.set_append_right _ _ (by omega),Nat.add_sub_cancel_left]
theorem Rr {o:Ob}:(H++os).set H.length o=H++os.set 0 o:=by rw [List.set_append_right _ _ (by omega),Nat.sub_self]
theorem P8:(H++os).take H.length=H:=by simp
theorem Ahp {ks:List Nat}:freeSites H.length ks (H++os)=H++Jk ks 0 os:=by
 rw [←FA];unfold freeSites;induction ks generalizing H os with
 | nil=>rfl
 | cons x ks ih =>
   simp only [List.map_cons,Al,List.foldl_cons];have e1:(H++os).modify (H.length+x) (fun o=>{ o with c:=.gone })=H++os.modify (0+x) (fun o=>{ o with c:=.gone }):=by
    apply List.ext_getElem?;intro i;rw [List.getElem?_modify,Nat.zero_add];by_cases hi:i<H.length
    ·rw [List.getElem?_append_left hi,List.getElem?_append_left hi];have:¬H.length+x=i:=by omega
     simp [this]
    ·rw [List.getElem?_append_right (by omega),List.getElem?_append_right (by omega),List.getElem?_modify];have:(H.length+x=i)=(x=i-H.length):=propext ⟨fun h=>by omega,fun h=>by omega⟩;simp only [this]
   rw [e1];exact ih
theorem Ym:Jk [H.length+k] 0 (H++os)=H++Jk [k] 0 os:=by
 have:=@Ahp H os [k];rw [LY,FA] at this;exact this
theorem Afy {o:Ob}:(H.set r o++os)[H.length+k]? = os[k]? := by
 have:=@SN (H.set r o) os k;rw [List.length_set] at this;exact this
theorem Aho {o u:Ob}:(H.set r o++os).set (H.length+k) u=H.set r o++os.set k u:=by
 have:=@ap_shi (H.set r o) os k u;rw [List.length_set] at this;exact this
theorem Afb {o:Ob}:(H.set r o++os).take H.length=H.set r o:=by
 have:=@P8 (H.set r o) os;rw [List.length_set] at this;exact this
end
end Go.Mw
namespace Go.Mw
set_option maxRecDepth 100000
section
variable {b:Nat}{σ:St}
theorem Pz {es:Nat}{x y:Opd}:sftI b (.sli es x none (some y) none) σ = .cm (rootsL [σ.get x,σ.get y]):=(rfl)
theorem PY {es:Nat}{x y:Opd}:sftI b (.sli es x (some y) none none) σ = .cm (rootsL [σ.get x,σ.get y]):=(rfl)
theorem O1 {es:Nat}{x y:Opd}:foot G b (.sli es x none (some y) none) σ=some (rootsL [σ.get x,σ.get y]):=(rfl)
theorem Qi {es:Nat}{x y:Opd}:foot G b (.sli es x (some y) none none) σ=some (rootsL [σ.get x,σ.get y]):=(rfl)
theorem WG {s:Nat}{os:List Nat}:Aa5 (.nw s) (.cm os) = !os.contains s:=(rfl)
theorem Pc {s es m:Nat}{y:Opd}:sftI b (.app s es m (.c .nils) y) σ=if Js σ.h es (σ.get y)=true then .nw (b+s) else .no:=(rfl)
end
theorem AaZ {h:List Ob}{es:Nat}{lo hi:Option AV}{q:AV→Prop}:AgU h es .nils lo hi none q=boundK hi 0 0 (fun _=>boundK lo 0 0 (fun _=>q .nils)):=(rfl)
def AgE:C :=
 .seq (.drs [zm 33 0,
 zm 34 5,
 zq 35 (.sli 1 (.t 33) none (some (.t 34)) none),
 zq 36 (.app 0 1 8 (.c .nils) (.t 35)),
 zm 37 1,
 zq 38 (.bsl 1 1 1 [(.t 37)]),
 zq 39 (.app 2 1 8 (.t 36) (.t 38)),
 zm 40 0,
 zm 41 5,
 zq 42 (.sli 1 (.t 40) (some (.t 41)) none none),
 zq 43 (.app 3 1 8 (.t 39) (.t 42)),
 zm 4 43] [(2,5),(3,5),(3,9),(5,9),(6,9)])
 (.ret)
theorem AgI {H:List Ob}{r st ss:Nat}{l:List Int}{x:Int}{i:Nat}(hr:H[r]? = some ⟨st,ss,.own 2 [.agg [.own 1 (l.map I),.nils]]⟩)(hl:l.length≤100000)(hi:i≤l.length){lp:List Lp}{Q:Ex→St→Prop}(T:List (Nat×AV))(t0:AX .undef 0 T = .sl r st [(0,0)] ss 0 l.length)(t1:AX .undef 1 T=I x)(t5:AX .undef 5 T=I i)
 (hQ:∀T2 os,AX .undef 4 T2 = .sl (H.length+3) 1 [] 0 0 (l.length+1)→os[3]? = some ⟨1,0,.own 1 ((l.take i++x::l.drop i).map I)⟩→Q .ret ⟨aT .undef 44 T2,H++os,lp⟩) :
 Wp G AgE H.length ⟨aT .undef 44 T,H++[⟨0,0,.gone⟩,⟨0,0,.gone⟩,⟨0,0,.gone⟩,⟨0,0,.gone⟩],lp⟩ Q:=by
 have hrl:r<H.length:=List.lt_of_some hr;have hr2:∀os,(H++os)[r]? = some ⟨st,ss,.own 2 [.agg [.own 1 (l.map I),.nils]]⟩:=fun os=>by rw [Af9 hrl];exact hr
 have hnode:∀os,node (H++os) r st [(0,0)] ss=some (.own 1 (l.map I)):=fun os=>by
  unfold node;rw [hr2 os];simp only [or_true,and_true,if_true,nav];rfl
 have hpI:∀k:List Int,(k.map I).all (fun e:AV=>e.cells.all AV.plain)=true:=fun k=>Ab4;have hp:∀os off len,off+len≤l.length→Js (H++os) 1 (.sl r st [(0,0)] ss off len)=true:=fun os off len h=>by
  simp only [Js,hnode];rw [←List.map_drop,←List.map_take,hpI];simp [h]
 have ha:∀os off len (q:List AV→List Ob→Prop),off+len≤l.length→appYK (H++os) 1 (.sl r st [(0,0)] ss off len) q=q (((l.drop off).take len).map I) (H++os):=fun os off len q h=>by
  simp only [appYK,appY,hnode];rw [←List.map_drop,←List.map_take,if_pos ⟨trivial,by simpa using h,hpI _⟩]
 have a1:∀os (q:List AV→List Ob→Prop),appYK (H++os) 1 (.sl r st [(0,0)] ss 0 i) q=q ((l.take i).map I) (H++os):=fun os q=>by rw [ha os 0 i q (by omega),List.drop_zero]
 have a2:∀os (q:List AV→List Ob→Prop),appYK (H++os) 1 (.sl r st [(0,0)] ss i (l.length-i)) q=q ((l.drop i).map I) (H++os):=fun os q=>by
  rw [ha os i _ q (by omega),List.take_of_length_le (by simp)]
 have p1:∀os,Js (H++os) 1 (.sl r st [(0,0)] ss 0 i)=true:=fun os=>hp os 0 i (by omega);have n0:(r==H.length)=false:=by rw [beq_eq_false_iff_ne];omega
 have n1:(r==H.length+1)=false:=by rw [beq_eq_false_iff_ne];omega
 have m0:(H.length==r)=false:=by rw [beq_eq_false_iff_ne];omega
 have m1:(H.length+1==r)=false:=by rw [beq_eq_false_iff_ne];omega
 have m2:(H.length+2==r)=false:=by rw [beq_eq_false_iff_ne];omega
 have i1:(i:Int)≤(l.length:Int):=by omega
 by_cases hi0:i=0
 ·have e0:(l.take i).map I = []:=by rw [hi0];rfl
  rw [e0] at a1;have fin:∀T2 os,AX .undef 4 T2 = .sl (H.length+3) 1 [] 0 0 (l.length+1)→os[3]? = some ⟨1,0,.own 1 (I x::(l.drop i).map I)⟩→Q .ret ⟨aT .undef 44 T2,H++os,lp⟩:=fun T2 os h1 h2=>hQ T2 os h1 (by rw [h2,hi0];rfl);have hz:∀ {h:List Ob}{r:Nat}{q:AV→List Ob→Prop}{x0:AV},WO x0 [I x] ((l.drop i).map I) 1 8 h r q=_:=fun {h r q x0}=>Tz (by simp);simp only [go_sem,↓reduceIte,↓Aa,AgE,t0,t1,t5,hr2,SN,ZA,ap_shi,Rr,Pz,PY,O1,Qi,WG,Pc,a1,a2,p1,n0,n1,m0,m1,m2,Nat.sub_zero,Int.toNat_natCast,i1,hz];have hd:1+(List.drop i l).length=l.length+1:=by rw [List.length_drop,hi0];omega
  rw [hd];exact ⟨Nat.zero_le _,⟨by omega,rfl⟩,⟨by omega,rfl⟩,⟨fun h=>absurd (by omega) h,fun h=>absurd ⟨by omega,by omega⟩ h,fun h=>absurd (by omega) h,fun h=>absurd ⟨by omega,by omega⟩ h⟩,fin _ _ rfl rfl⟩
 ·have hne:(l.take i).map I≠[]:=fun e=>by
   have:=congrArg List.length e;simp at this;rcases this with h|h
   ·exact hi0 h
   ·subst h;simp at hi;omega
  have hlen:(l.take i).length=i:=by rw [List.length_take];omega
  have hA:List.take i ((l.take i).map I)=(l.take i).map I:=List.take_of_length_le (by rw [List.length_map];omega);have hz:∀ {h:List Ob}{r:Nat}{q:AV→List Ob→Prop}{x0:AV},WO x0 ((l.take i).map I++[I x]) ((l.drop i).map I) 1 8 h r q=_:=fun {h r q x0}=>Tz (by simp);have v1:∀r st,Le .nils 1 r st ((l.take i).map I) = .sl r st [] 0 0 i:=fun r st=>by unfold Le;rw [if_neg hne,List.length_map,hlen]
  have v2:MW 1 ((l.take i).map I) = .own 1 ((l.take i).map I):=by unfold MW;rw [if_neg hne]
  have v3:∀n,sta ((l.take i).map I) n=n+1:=fun n=>by unfold sta;rw [if_neg hne]
  have v4:∀n,ssa ((l.take i).map I) n=0:=fun n=>by unfold ssa;rw [if_neg hne]
  simp only [go_sem,↓reduceIte,↓Aa,AgE,t0,t1,t5,hr2,SN,ZA,ap_shi,Rr,Pz,PY,O1,Qi,WG,Pc,a1,a2,p1,n0,n1,m0,m1,m2,Nat.sub_zero,Int.toNat_natCast,i1,v1,v2,v3,v4,hA,hz];have hd:(List.take i l).length+1+(List.drop i l).length=l.length+1:=by rw [List.length_take,List.length_drop];omega
  rw [hd];refine ⟨by omega,by omega,⟨by omega,rfl⟩,⟨by omega,rfl⟩,⟨fun h=>absurd (by omega) h,fun h=>absurd ⟨by omega,by omega⟩ h,fun h=>absurd (by omega) h,fun h=>absurd ⟨by omega,by omega,by omega⟩ h⟩,hQ _ _ rfl ?_⟩;simp
theorem AgP {H:List Ob}{x:Int}{lp:List Lp}{Q:Ex→St→Prop}(T:List (Nat×AV))(t0:AX .undef 0 T = .nils)(t1:AX .undef 1 T=I x)(t5:AX .undef 5 T=I 0)
 (hQ:∀T2 os,AX .undef 4 T2 = .sl (H.length+3) 1 [] 0 0 1→os[3]? = some ⟨1,0,.own 1 [I x]⟩→Q .ret ⟨aT .undef 44 T2,H++os,lp⟩) :
 Wp G AgE H.length ⟨aT .undef 44 T,H++[⟨0,0,.gone⟩,⟨0,0,.gone⟩,⟨0,0,.gone⟩,⟨0,0,.gone⟩],lp⟩ Q:=by
 have hz:∀ {h:List Ob}{r:Nat}{q:AV→List Ob→Prop}{x0:AV},WO x0 [I x] [] 1 8 h r q=_:=fun {h r q x0}=>Tz (by simp);simp only [go_sem,↓reduceIte,↓Aa,AgE,t0,t1,t5,SN,ZA,ap_shi,Rr,Pz,PY,O1,Qi,WG,Pc,AaZ,hz];exact ⟨Nat.zero_le _,⟨by omega,rfl⟩,⟨by omega,rfl⟩,fun h=>absurd (by omega) h,hQ _ _ rfl rfl⟩
theorem Ah4:T9 =
 .seq (.reg [zq 4 (.mov (.c .nils))])
 (.seq (.reg [zk 5 0])
 (.seq (.blk 0 (P2))
 (.seq (.seq (.reg [zm 20 5,
 zm 21 0,
 zn 22 21,
 zb 23 .lss 20 22,
 zm 24 23,
 zmg 25 0 24 true,
 zmg 26 5 24 true,
 zg 27 (.iad 1 (.t 25) (.t 26)) 24 true,
 zlg 28 1 27 24 true,
 zmg 29 1 24 true,
 zg 30 (.bin .eql (.t 28) (.t 29)) 24 true,
 zu 31 24 30])
 (.cond (.t 31) (.seq (.reg [zm 32 0,
 zm 4 32])
  (.ret)) (.skip)))
 AgE))):=rfl
theorem AhM {H:List Ob}{r st ss s:Nat}{l:List Int}{x:Int}(hr:H[r]? = some ⟨st,ss,.own 2 [.agg [cellv .nils 1 (l.map I),.nils]]⟩)(hl:l.length≤100000){t:List AV}{lp:List Lp}{K:AV→St→Prop}{bs:Nat}
 (h1:OC l x=l→l≠[]→K (.sl r st [(0,0)] ss 0 l.length) ⟨t,H,lp⟩)
 (h2:Mg H (bs+s) (.own 1 ((OC l x).map I)) (fun h st'=>K (.sl (bs+s) st' [] 0 0 (OC l x).length) ⟨t,h,lp⟩)) :
 Bc G MP [OA .nils 1 r st [(0,0)] ss (l.map I),I x] bs [s] ⟨t,H,lp⟩ K:=by
 have hrl:r<H.length:=List.lt_of_some hr;refine UG AbV rfl ?_;rw [A6 (by simp)];have w0:IntKind.i64.wrap 0=0:=by decide
 rw [newK_eq] at h2;by_cases h0:l = []
 ·subst h0;have e0:OA .nils 1 r st [(0,0)] ss (List.map I []) = .nils:=rfl;rw [e0];have hp:OC [] x = [x]:=by simp [OC,atL]
  rw [hp,List.map_cons,List.map_nil] at h2;simp only [go_sem,↓reduceIte,↓Aa,Ah4];refine Ac (fun (_:Unit) σ=>σ=⟨aT .undef 44 [(0,.nils),(1,I x),(5,I 0)],H++[⟨0,0,.gone⟩,⟨0,0,.gone⟩,⟨0,0,.gone⟩,⟨0,0,.gone⟩],lp⟩) (fun _=>0) ?_ () ?_
  ·rintro _ σ rfl N Q hQ hN;subst hQ;simp only [go_sem,↓reduceIte,↓Aa];refine AgP _ rfl rfl rfl (fun T2 os h3 h4=>⟨trivial,?_⟩);have hpl:([I x]:List AV).all (fun e:AV=>e.cells.all AV.plain)=true:=rfl;simp only [go_sem,↓reduceIte,↓Aa,h3,Ug (show H.length≤H.length+3 by omega),SN,h4,P8];exact h2
  ·simp only [go_sem,↓reduceIte,↓Aa]
 ·have e:l.map I≠[]:=by simpa using h0
  rw [cellv,if_neg e] at hr;have hr2:∀os,(H++os)[r]? = some ⟨st,ss,.own 2 [.agg [.own 1 (l.map I),.nils]]⟩:=fun os=>by rw [Af9 hrl,hr]
  simp only [go_sem,↓reduceIte,↓Aa,Ah4,OA,if_neg e,List.length_map];refine Ac (fun (i:Nat) σ=>i≤l.length∧(∀j<i,l[j]! < x)∧σ=⟨aT .undef 44 [(0,.sl r st [(0,0)] ss 0 l.length),(1,I x),(5,I i)],H++[⟨0,0,.gone⟩,⟨0,0,.gone⟩,⟨0,0,.gone⟩,⟨0,0,.gone⟩],lp⟩) (fun i=>l.length-i) ?_ 0 ?_
  ·rintro i σ ⟨hi,hlt,rfl⟩ N Q hQ hN;have last:∀(T:List (Nat×AV)),AX .undef 0 T = .sl r st [(0,0)] ss 0 l.length→AX .undef 1 T=I x→AX .undef 5 T=I i→i=atL l x→¬(i<l.length∧l[i]! = x) →
    Wp G AgE H.length ⟨aT .undef 44 T,H++[⟨0,0,.gone⟩,⟨0,0,.gone⟩,⟨0,0,.gone⟩,⟨0,0,.gone⟩],lp⟩ (fun e σ1=>(match e with | .ext _=>False|_=>True)∧TV σ1 [(4,none)] (fun rs=>giveK H.length σ1.h (σ1.h.take H.length) bs [s] rs (fun v h=>K v ⟨t,h,σ1.lp⟩))):=fun T t0 t1 t5 hat hne=>by
    have hput:OC l x=l.take i++x::l.drop i:=by unfold OC;rw [←hat,if_neg hne]
    refine AgI hr hl hi T t0 t1 t5 (fun T2 os h3 h4=>⟨trivial,?_⟩);have hpl:((OC l x).map I).all (fun e:AV=>e.cells.all AV.plain)=true:=Ab4;have hlen:(OC l x).length=l.length+1:=by rw [hput];simp;omega
    rw [←hput] at h4;rw [hlen] at h2;simp only [go_sem,↓reduceIte,↓Aa,h3,Ug (show H.length≤H.length+3 by omega),SN,h4,P8,hlen];exact ⟨hpl,h2⟩
   by_cases hil:i<l.length
   ·by_cases hx:l[i]! < x
    ·simp only [go_sem,↓reduceIte,↓Aa,Int.ofNat_lt,hil,hx,hr2,Ab hil (by omega)];refine hN (i+1) _ (by omega) ⟨by omega,Ae hlt hx,?_⟩;simp only [go_sem,↓reduceIte,↓Aa]
    ·have hat:i=atL l x:=Afs hi hlt (fun _=>hx);subst hQ;simp only [go_sem,↓reduceIte,↓Aa,Int.ofNat_lt,hil,hx,hr2];refine ⟨fun hq=>?_,fun hq=>last _ rfl rfl rfl hat (fun g=>by rw [g.2] at hq;simp at hq)⟩;rw [Abg hrl,P8];exact h1 (by unfold OC;rw [←hat,if_pos ⟨hil,by simpa using hq⟩]) h0
   ·have hat:i=atL l x:=Afs hi hlt (fun h=>absurd h hil);subst hQ;simp only [go_sem,↓reduceIte,↓Aa,Int.ofNat_lt,hil,hr2];exact last _ rfl rfl rfl hat (fun g=>hil g.1)
  ·refine ⟨by omega,fun j hj=>by omega,?_⟩;simp only [go_sem,↓reduceIte,↓Aa]
end Go.Mw
namespace Go.Mw
set_option maxRecDepth 100000
theorem place_ok {H:List Ob}{r st ss s0 bs s:Nat}{l:List Pr}{q:Pr}(hr:H[r]? = some ⟨st,ss,.own 2 (l.map ePr)⟩)(hl:l.length≤100000)(hnd:l.Nodup){t:List AV}{lp:List Lp}{K:AV→St→Prop}
 (h1:q∈l→K (.tup [I (l.idxOf q:Nat),.sl r st [] s0 0 l.length]) ⟨t,H,lp⟩)
 (h2:q∉l→Mg (H.set r ⟨st,ss,.gone⟩) (bs+s) (.own 2 (l.map ePr++[ePr q])) (fun h st'=>K (.tup [I l.length,.sl (bs+s) st' [] 0 0 (l.length+1)]) ⟨t,h,lp⟩)) :
 Bc G Jd [.sl r st [] s0 0 l.length,ePr q] bs [s] ⟨t,H,lp⟩ K:=by
 have hrl:r<H.length:=List.lt_of_some hr;have hr':∀os,(H++os)[r]? = some ⟨st,ss,.own 2 (l.map ePr)⟩:=fun os=>by rw [Af9 hrl];exact hr
 refine UG VT rfl ?_;rw [A6 (by simp)];obtain ⟨q1,q2⟩:=q;simp only [go_sem,↓reduceIte,↓Aa,P5,ePr,SN,ZA,ap_shi,Rr,hr'];refine Ac (fun (i:Nat) σ=>i≤l.length∧(∀j<i,l[j]!≠(q1,q2))∧∃a1 c1,σ=⟨aT .undef 27 [(0,.sl r st [] s0 0 l.length),(3,.ptr H.length 1 [] 0 0 0),(8,.sl r st [] s0 0 l.length),(9,I l.length),(10,I i)],H++[⟨1,0,.own 2 [.agg [I q1,I q2]]⟩,⟨a1,c1,.gone⟩,⟨0,0,.gone⟩,⟨0,0,.gone⟩],lp⟩) (fun i=>l.length-i) ?_ 0 ?_
 ·rintro i σ ⟨hi,hne,a1,c1,rfl⟩ N Q hQ hN;by_cases hlt:i<l.length
  ·simp only [go_sem,↓reduceIte,↓Aa,Int.ofNat_lt,hlt,ePr,SN,ZA,ap_shi,Rr,hr',Ab hlt (by omega)];refine ⟨fun h=>?_,fun h=>?_⟩
   ·have he:l[i]! = (q1,q2):=by
     simp only [bne_iff_ne,ne_eq,Bool.not_eq_false,Bool.and_eq_true,beq_iff_eq] at h;exact Prod.ext h.1.symm h.2.symm
    subst hQ;simp only [go_sem,↓reduceIte,↓Aa,Ac9 hrl,P8];have hix:l.idxOf (q1,q2)=i:=by
     rw [←he,getElem!_pos l i hlt];exact hnd.idxOf_getElem i hlt
    have:=h1 (he▸AI hlt);rw [hix] at this;exact this
   ·have he:l[i]!≠(q1,q2):=fun e=>by rw [e] at h;simp at h
    refine hN (i+1) _ (by omega) ⟨by omega,Ae hne he,?_⟩;simp only [go_sem,↓reduceIte,↓Aa,Ym];repeat apply Exists.intro
    rfl
  ·have hil:i=l.length:=by omega
   subst hil hQ;have hnm:(q1,q2)∉l:=fun hm=>by
    obtain ⟨j,hj,e⟩:=getAt hm;exact hne j hj e
   simp only [go_sem,↓reduceIte,↓Aa,Int.ofNat_lt,hlt,ePr,SN,ZA,ap_shi,Rr,Aim hrl,hr',Afy,Aho];refine ⟨⟨by omega,rfl⟩,?_⟩;have h2':=h2 hnm;have hall:(l.map ePr++[ePr (q1,q2)]).all (fun e:AV=>e.cells.all AV.plain)=true:=by
    rw [List.all_eq_true];intro x hx;rw [List.mem_append,List.mem_map,List.mem_singleton] at hx;rcases hx with ⟨p,_,rfl⟩|rfl<;>rfl
   rw [AbX (show H.length≤H.length+3 by omega),Afb];simp only [go_sem,↓reduceIte,↓Aa,Afy];rw [newK_eq] at h2';exact ⟨hall,h2'⟩
 ·refine ⟨by omega,fun j hj=>by omega,?_⟩;simp only [go_sem,↓reduceIte,↓Aa,Ym];repeat apply Exists.intro
  rfl
end Go.Mw
