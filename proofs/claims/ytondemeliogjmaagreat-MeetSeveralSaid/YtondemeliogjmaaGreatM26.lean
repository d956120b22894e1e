/- What is trimmed is trim: trimming it again leaves it as it is. -/
import Derived.Test.YtondemeliogjmaaGreatM25
set_option linter.unusedVariables false
set_option linter.unusedSimpArgs false
namespace Go.Mw
set_option maxRecDepth 100000
open Classical in
theorem inB_holL {s:Spc}{k:Nat}:inB (Cn s) k↔Hol s k:=by
 unfold inB;by_cases hk:k<s.S.length
 ·exact Cw hk
 ·have e:(Cn s)[k]! = false:=by
   rw [List.getElem!_eq_getElem?_getD,List.getElem?_eq_none (by simp [Cn];omega)];rfl
  rw [e];exact ⟨fun h=>(by cases h),fun h=>absurd h.1 hk⟩
theorem Agl {l:List Nat}{k:Nat}(h:k∈l):l[l.idxOf k]! = k:=by
 have hl:=List.idxOf_lt_length_of_mem h;rw [getElem!_pos l _ hl,List.getElem_idxOf]
theorem JJ {m:Nat}{s:Spc}(h:SpcK m s)(h0:(Cn s)[0]! = false){i:Nat}(hi:i<(ordOf s).length) :
 (Ao s).S[i]!.A=keptL s (ordOf s)[i]!∧(ordOf s)[i]! < s.S.length∧(Cn s)[(ordOf s)[i]!]! = false:=by
 have hs:(ordOf s)[i]! < s.S.length∧(Cn s)[(ordOf s)[i]!]! = false:=PQ h h0 s.S.length _ (AI hi);refine ⟨?_,hs⟩;rw [Lx hi];simp only [Hc,Kz,KD];rw [if_neg (by rw [hs.2];simp)]
open Classical in
theorem Ln {s:Spc}{x:Nat}{v:Int}:v∈keptL s x↔v∈s.S[x]!.A∧¬Dies s.S[x]! (Hol s) v:=by
 have hd:Dies s.S[x]! (inB (Cn s)) v↔Dies s.S[x]! (Hol s) v:=⟨fun h=>h.mono fun k hk=>inB_holL.1 hk,fun h=>h.mono fun k hk=>inB_holL.2 hk⟩;unfold keptL;rw [List.mem_filter,Bool.not_eq_true',decide_eq_false_iff_not,hd]
theorem PG {m:Nat}{s:Spc}(h:SpcK m s)(h0:(Cn s)[0]! = false){i:Nat}(hi:i<(ordOf s).length){v:Int}(hv:v∈(Ao s).S[i]!.A){a:Nat}(ha:hasA v a=true) :
 a<s.acts.length∧(Ao s).S[i]!.X[a]!.toNat<(ordOf s).length∧(ordOf s)[(Ao s).S[i]!.X[a]!.toNat]! = s.S[(ordOf s)[i]!]!.X[a]!.toNat:=by
 have hb:=h.b h.sz;have h1:0<s.S.length:=h.s1;obtain ⟨e,hx,hh⟩:=JJ h h0 hi;rw [e] at hv;have hcl:=Li hb h1 _ (AI hi);rw [EN hx] at hcl;have hva:=(AcK hv).1;obtain ⟨j,hj,ej⟩:=getAt hva;have hst:=h.st _ hx;have hlt:a<s.acts.length:=Bz (n:=v.toNat) (by have:=hst.a j hj;rw [ej] at this;omega) ha;have hsol:KD s (ordOf s)[i]! = keptL s (ordOf s)[i]!:=by unfold KD;rw [if_neg (by rw [hh];simp)]
 have hu:(usedN (KD s (ordOf s)[i]!)).testBit a=true:=Do.2 ⟨v,by rw [hsol];exact hv,ha⟩;have hX0:0≤s.S[(ordOf s)[i]!]!.X[a]!:=TX h hx (by rw [hst.len];exact hlt) hu;have hm:s.S[(ordOf s)[i]!]!.X[a]!.toNat∈ordOf s:=by
  refine hcl _ ?_ hX0;have:(Kz s (ordOf s)[i]!).X[a]!∈(Kz s (ordOf s)[i]!).X:=AI (by simp only [Kz,Dp];rw [hst.len];exact hlt);rw [Mn (by rw [hst.len];exact hlt),if_pos hu] at this;exact this
 rw [Lx hi,Nb (by rw [hst.len];exact hlt),if_pos hu];have hp:placeX (ordOf s) s.S[(ordOf s)[i]!]!.X[a]! = ((ordOf s).idxOf s.S[(ordOf s)[i]!]!.X[a]!.toNat:Int):=by unfold placeX;rw [if_pos hX0]
 rw [hp,Int.toNat_natCast];have hl:=List.idxOf_lt_length_of_mem hm;exact ⟨hlt,hl,Agl hm⟩
theorem AcR {N n:Nat}{o:List Nat}(ho:o.Nodup)(hn:o.length=n):∀(ks:List Int) (p p':List Bool×List Nat),VI N p→(∀k∈ks,k<(N:Int))→VI n p'→p'.2=List.range p.2.length→(ks.foldl visit p).2 <+: o →
 ((ks.map (placeX o)).foldl visit p').2=List.range (ks.foldl visit p).2.length∧VI n ((ks.map (placeX o)).foldl visit p'):=by
 intro ks;induction ks with
 | nil=>intro p p' _ _ hv' he _;exact ⟨he,hv'⟩
 | cons k ks ih =>
   intro p p' hp hk hv' he hpre;simp only [List.map_cons,List.foldl_cons] at hpre ⊢;have hkN:=hk k (List.mem_cons_self ..);have hpv:=hp.visit hkN;have hpre1:(visit p k).2 <+: o:=(FF ks).trans hpre;have hpre0:p.2 <+: o:=Vw.trans hpre1;have hplen:p.2.length≤n:=by rw [←hn];exact hpre0.length_le
   by_cases h0:0≤k
   ·have hpx:placeX o k=(o.idxOf k.toNat:Int):=by unfold placeX;rw [if_pos h0]
    have hmem:k.toNat∈(visit p k).2:=by
     unfold visit;by_cases hf:p.1[k.toNat]! = false
     ·rw [if_pos ⟨h0,hf⟩];simp
     ·rw [if_neg (fun g=>hf g.2),hp.m];exact ⟨by omega,by simpa using hf⟩
    have hmo:k.toNat∈o:=hpre1.subset hmem;have hio:=List.idxOf_lt_length_of_mem hmo;have hvk:placeX o k<(n:Int):=by rw [hpx];omega
    refine ih _ _ hpv (fun j hj=>hk j (List.mem_cons_of_mem _ hj)) (hv'.visit hvk) ?_ hpre;by_cases hf:p.1[k.toNat]! = false
    ·have e1:(visit p k).2=p.2++[k.toNat]:=by unfold visit;rw [if_pos ⟨h0,hf⟩]
     have hidx:o.idxOf k.toNat=p.2.length:=by
      rw [e1] at hpre1;obtain ⟨r,hr⟩:=hpre1;have hlt:p.2.length<o.length:=by rw [←hr];simp
      have he2:o[p.2.length]=k.toNat:=by simp [←hr]
      have:=ho.idxOf_getElem p.2.length hlt;rw [he2] at this;exact this
     have hf':p'.1[p.2.length]! = false:=by
      cases hb:p'.1[p.2.length]! with
      | false=>rfl
      | true =>
        have:p.2.length∈p'.2:=(hv'.m _).2 ⟨by rw [hidx] at hio;omega,hb⟩;rw [he] at this;simp at this
     have e2:(visit p' (placeX o k)).2=p'.2++[p.2.length]:=by
      unfold visit;rw [hpx,hidx,Int.toNat_natCast,if_pos ⟨by omega,hf'⟩]
     rw [e2,e1,he,List.length_append,List.length_singleton,List.range_succ]
    ·have e1:visit p k=p:=by unfold visit;rw [if_neg (fun g=>hf g.2)]
     have hin:k.toNat∈p.2:=(hp.m _).2 ⟨by omega,by simpa using hf⟩;have hidx:o.idxOf k.toNat<p.2.length:=by
      obtain ⟨r,hr⟩:=hpre0;rw [←hr,List.idxOf_append,if_pos hin];exact List.idxOf_lt_length_of_mem hin
     have hin':o.idxOf k.toNat∈p'.2:=by rw [he];exact List.mem_range.2 hidx
     have hb:=((hv'.m _).1 hin').2;have e2:visit p' (placeX o k)=p':=by
      unfold visit;rw [hpx,Int.toNat_natCast,hb];rw [if_neg (fun g=>by cases g.2)]
     rw [e2,e1,he]
   ·have e1:visit p k=p:=by unfold visit;rw [if_neg (fun g=>h0 g.1)]
    have hpx:placeX o k=k:=by unfold placeX;rw [if_neg h0]
    have e2:visit p' (placeX o k)=p':=by rw [hpx];unfold visit;rw [if_neg (fun g=>h0 g.1)]
    rw [e1] at hpre ⊢;rw [e2];exact ih p p' hp (fun j hj=>hk j (List.mem_cons_of_mem _ hj)) hv' he hpre
theorem Xl {n:Nat}{nx:Nat→List Int}{i:Nat}(hi:i≤n):(bfsAt n nx i).2 <+: orderL n nx:=by
 have:=@XF n nx i (n-i);rw [show i+(n-i)=n by omega] at this;exact this
theorem AhJ {N n:Nat}{nx:Nat→List Int}(hN:0<N)(hx:∀x<N,∀k∈nx x,k<(N:Int))(hn:(orderL N nx).length=n) :
 orderL n (fun i=>(nx (orderL N nx)[i]!).map (placeX (orderL N nx)))=List.range n:=by
 have hV:=fun i=>NP hN hx i;have hnd:(orderL N nx).Nodup:=(hV N).nd;have hnN:n≤N:=by rw [←hn];exact (hV N).len
 have hn0:0<n:=by rw [←hn];exact (hV N).pos
 generalize ho:orderL N nx=o at *;have key:∀i,i≤N→(bfsAt n (fun i=>(nx o[i]!).map (placeX o)) i).2=List.range (bfsAt N nx i).2.length∧VI n (bfsAt n (fun i=>(nx o[i]!).map (placeX o)) i):=by
  intro i;induction i with
  | zero =>
    intro _;refine ⟨by simp [bfsAt,List.range_succ],?_⟩;refine ⟨by simp [bfsAt],by simp [bfsAt],fun x=>?_,rfl⟩;simp only [bfsAt,List.mem_singleton];rw [LK (by simpa using hn0)];by_cases e:0=x
    ·subst e;simp [hn0]
    ·rw [if_neg e];constructor
     ·intro h;exact absurd h.symm e
     ·rintro ⟨h1,h2⟩;rw [getElem!_pos _ x (by simpa using h1)] at h2;simp at h2
  | succ i ih =>
    intro hi;obtain ⟨e,hv⟩:=ih (by omega);have hpre:(bfsAt N nx (i+1)).2 <+: o:=by rw [←ho];exact Xl hi
    have hprei:(bfsAt N nx i).2 <+: o:=by rw [←ho];exact Xl (by omega)
    have hll:(bfsAt n (fun i=>(nx o[i]!).map (placeX o)) i).2.length=(bfsAt N nx i).2.length:=by rw [e,List.length_range]
    simp only [bfsAt] at hpre ⊢;by_cases hl:i<(bfsAt N nx i).2.length
    ·rw [if_pos (by rw [hll];exact hl)];rw [if_pos hl] at hpre ⊢;have e1:(bfsAt n (fun i=>(nx o[i]!).map (placeX o)) i).2[i]! = i:=by rw [e,getElem!_pos _ i (by simpa using hl)];simp
     have e2:o[i]! = (bfsAt N nx i).2[i]!:=LX hprei hl;rw [e1,e2];exact AcR hnd hn _ _ _ (hV i) (hx _ ((hV i).get hl)) hv e hpre
    ·rw [if_neg (by rw [hll];exact hl),if_neg hl];exact ⟨e,hv⟩
 have hstay:(bfsAt N nx n).2.length=n:=by
  have hpn:(bfsAt N nx n).2 <+: o:=by rw [←ho];exact Xl hnN
  have h1:(bfsAt N nx n).2.length≤n:=by have:=hpn.length_le;omega
  have:=Yk h1 (N-n);rw [show n+(N-n)=N by omega] at this;have e3:(bfsAt N nx N).2=o:=ho;rw [←this,e3];exact hn
 have:=(key n hnN).1;rw [hstay] at this;exact this
open Classical in
theorem D9 {m:Nat}{s:Spc}(h:SpcK m s):(trimA (trimA s).1).1=(trimA s).1:=by
 have hb:=h.b h.sz;have h1:0<s.S.length:=h.s1;cases h0:(Cn s)[0]! with
 | true =>
   have e:trimA s=(Bl s.acts,[]):=by unfold trimA;rw [if_pos h0]
   rw [e];have h2:(Cn (Bl s.acts))[0]! = true:=(Cw (by simp [Bl])).2 ⟨by simp [Bl],fun P hP=>hP 0 (by simp [Bl]) (fun i hi=>by simp [Bl] at hi)⟩;unfold trimA;rw [if_pos h2];rfl
 | false =>
   have e:trimA s=(Ao s,ordOf s):=by unfold trimA;rw [if_neg (by rw [h0];simp)]
   rw [e];have hlen:(Ao s).S.length=(ordOf s).length:=by simp [Ao]
   have hpos:=JM hb h1;have hno:∀k,¬Hol (Ao s) k:=by
    intro k hk;refine hk.2 (fun _=>False) (fun x hx hd=>?_);rw [hlen] at hx;obtain ⟨eA,hxl,hh⟩:=JJ h h0 hx;have hne:=Wf h hxl hh;rw [←eA] at hne;have h00:0<(Ao s).S[x]!.A.length:=List.length_pos_iff.2 hne;obtain ⟨a,_,_,_,hF⟩:=hd 0 h00;exact hF
   have hT0:(Cn (Ao s))[0]! = false:=by
    cases hb2:(Cn (Ao s))[0]! with
    | false=>rfl
    | true=>exact absurd ((Cw (by rw [hlen];exact hpos)).1 hb2) (hno 0)
   have hk:∀i,keptL (Ao s) i=(Ao s).S[i]!.A:=fun i=>by
    unfold keptL;refine List.filter_eq_self.2 (fun v _=>?_);rw [Bool.not_eq_true',decide_eq_false_iff_not];rintro ⟨a,_,_,_,hd⟩;exact hno _ (inB_holL.1 hd)
   have hsA:∀i<(ordOf s).length,KD (Ao s) i=(Ao s).S[i]!.A:=fun i hi=>by
    have:(Cn (Ao s))[i]! = false:=by
     cases hb2:(Cn (Ao s))[i]! with
     | false=>rfl
     | true=>exact absurd ((Cw (by rw [hlen];exact hi)).1 hb2) (hno i)
    unfold KD;rw [if_neg (by rw [this];simp)];exact hk i
   have hXeq:∀i<(ordOf s).length,onlyX (Ao s).S[i]! (usedN (Ao s).S[i]!.A) (Ao s).S[i]!.X.length=(Ao s).S[i]!.X:=fun i hi=>by
    apply List.ext_getElem (by rw [Dp]);intro a ha1 ha2;rw [←getElem!_pos _ a ha1,←getElem!_pos _ a ha2,Ms ha2];split
    ·rfl
    ·rename_i hu;rw [Lx hi] at hu ha2 ⊢;have hA:(Hc s (ordOf s)[i]!).A=KD s (ordOf s)[i]!:=rfl;rw [MG] at ha2;rw [Nb ha2,if_neg (by rw [←hA];exact hu)];simp [placeX]
   have hsS:∀i<(ordOf s).length,Kz (Ao s) i=(Ao s).S[i]!:=fun i hi=>by
    unfold Kz;rw [hsA i hi,hXeq i hi]
   have hord:ordOf (Ao s)=List.range (ordOf s).length:=by
    unfold ordOf;rw [hlen];have hbase:=AhJ (nx:=fun x=>(solidOf s).S[x]!.X) h1 (NT hb) (n:=(ordOf s).length) rfl;have hbase2:orderL (ordOf s).length (fun i=>((solidOf s).S[(ordOf s)[i]!]!.X).map (placeX (ordOf s)))=List.range (ordOf s).length:=hbase;have hcong:∀(n:Nat) (f g:Nat→List Int),(∀i<n,f i=g i)→(∀x<n,∀k∈g x,k<(n:Int))→0<n→orderL n f=orderL n g:=by
     intro n f g hfg hg hn;have:∀i,bfsAt n f i=bfsAt n g i:=by
      intro i;induction i with
      | zero=>rfl
      | succ i ih =>
        simp only [bfsAt,ih];split
        ·rename_i hl;rw [hfg _ ((NP hn hg i).get hl)]
        ·rfl
     unfold orderL;rw [this]
    have hTb:=(NB h).ok.b (NB h).ok.sz;have hx2:=NT hTb;rw [hlen] at hx2;have heq:∀i<(ordOf s).length,(solidOf (Ao s)).S[i]!.X=((solidOf s).S[(ordOf s)[i]!]!.X).map (placeX (ordOf s)):=fun i hi=>by
     rw [EN (by rw [hlen];exact hi),hsS i hi,Lx hi,EN (Acx hb h1 (AI hi))];rfl
    rw [hcong _ _ (fun i=>((solidOf s).S[(ordOf s)[i]!]!.X).map (placeX (ordOf s))) heq (fun x hx k hk=>by rw [←heq x hx] at hk;exact hx2 x hx k hk) hpos];exact hbase2
   have hTt:trimA (Ao s)=(Ao (Ao s),ordOf (Ao s)):=by unfold trimA;rw [if_neg (by rw [hT0];simp)]
   rw [hTt];simp only;have hfin:∀i<(ordOf s).length,Hc (Ao s) i=(Ao s).S[i]!:=fun i hi=>by
    have hst:=(NB h).ok.st i (by rw [hlen];exact hi);unfold Hc;rw [hsS i hi,hord];have:(Ao s).S[i]!.X.map (placeX (List.range (ordOf s).length))=(Ao s).S[i]!.X:=by
     conv=>rhs;rw [←List.map_id (Ao s).S[i]!.X]
     refine List.map_congr_left fun k hk=>?_;obtain ⟨a,ha,ea⟩:=getAt hk;have hb3:=hst.x a (by rw [←hst.len];exact ha);rw [ea,hlen] at hb3;unfold placeX;split
     ·rename_i h0';have hlt:k.toNat<(List.range (ordOf s).length).length:=by rw [List.length_range];omega
      have:=List.nodup_range.idxOf_getElem k.toNat hlt;rw [List.getElem_range] at this;rw [this,id];omega
     ·rfl
    rw [this]
   have:(ordOf (Ao s)).map (Hc (Ao s))=(Ao s).S:=by
    rw [hord];apply List.ext_getElem (by simp [hlen]);intro i hi1 hi2;rw [List.getElem_map,List.getElem_range,hfin i (by simpa using hi1),getElem!_pos _ i hi2]
   show Spc.mk (Ao s).acts ((ordOf (Ao s)).map (Hc (Ao s)))=Ao s;rw [this]
structure Bi (A B:Spc)(R:Nat→Nat→Prop):Prop where
 e:A.acts=B.acts
 z:R 0 0
 lt:∀x y,R x y→x<A.S.length∧y<B.S.length
 acc:∀x y,R x y→∀v,v∈A.S[x]!.A↔v∈B.S[y]!.A
 nx:∀x y,R x y→∀v∈A.S[x]!.A,∀a,hasA v a=true→R A.S[x]!.X[a]!.toNat B.S[y]!.X[a]!.toNat
theorem Bi.symm {A B:Spc}{R:Nat→Nat→Prop}(h:Bi A B R):Bi B A (fun y x=>R x y) :=
 ⟨h.e.symm,h.z,fun y x hr=>(h.lt x y hr).symm,fun y x hr v=>(h.acc x y hr v).symm,fun y x hr v hv a ha=>h.nx x y hr v ((h.acc x y hr v).2 hv) a ha⟩
theorem SpcK.ltA {m:Nat}{s:Spc}(h:SpcK m s){x:Nat}(hx:x<s.S.length){v:Int}(hv:v∈s.S[x]!.A){a:Nat}(ha:hasA v a=true):a<s.acts.length∧0≤s.S[x]!.X[a]!:=by
 obtain ⟨j,hj,e⟩:=getAt hv;have hst:=h.st x hx;have hlt:a<s.acts.length:=Bz (n:=v.toNat) (by have:=hst.a j hj;rw [e] at this;omega) ha;exact ⟨hlt,hst.has j hj a hlt (by rw [e];exact ha)⟩
theorem Bi.hol {A B:Spc}{R:Nat→Nat→Prop}(h:Bi A B R){m q:Nat}(hA:SpcK m A)(hB:SpcK q B){x y:Nat}(hr:R x y)(hx:Hol A x):Hol B y:=by
 refine hx.2 (fun x=>∀y,R x y→Hol B y) (fun x hxl hall y hr=>?_) y hr;have hy:=(h.lt x y hr).2;refine Hol.closed B y hy (fun j hj=>?_);have hv:B.S[y]!.A[j]!∈A.S[x]!.A:=(h.acc x y hr _).2 (AI hj);obtain ⟨i,hi,e⟩:=getAt hv;obtain ⟨a,h1,h2,h3,h4⟩:=hall i hi;rw [e] at h3;obtain ⟨g1,g2⟩:=hB.ltA hy (AI hj) h3;exact ⟨a,by rw [(hB.st y hy).len];exact g1,g2,h3,h4 _ (h.nx x y hr _ hv a h3)⟩
theorem Bi.kept {A B:Spc}{R:Nat→Nat→Prop}(h:Bi A B R){m q:Nat}(hA:SpcK m A)(hB:SpcK q B){x y:Nat}(hr:R x y){v:Int}(hv:v∈keptL A x):v∈keptL B y:=by
 obtain ⟨h1,h2⟩:=Ln.1 hv;have hx:=(h.lt x y hr).1;refine Ln.2 ⟨(h.acc x y hr v).1 h1,fun ⟨a,g1,g2,g3,g4⟩=>h2 ?_⟩;obtain ⟨f1,f2⟩:=hA.ltA hx h1 g3;exact ⟨a,by rw [(hA.st x hx).len];exact f1,f2,g3,h.symm.hol hB hA (h.nx x y hr v h1 a g3) g4⟩
open Classical in
theorem AfL {l:List ByteArray}{t:Spc}:Ref (Bl l) t:=by
 refine XA (P:=fun x y=>x=0) ⟨rfl,fun x y hx _ a ha h0=>?_⟩ (fun x y hx v hv=>?_)
 ·subst hx;simp only [Bl,List.getElem!_cons_zero,List.length_replicate] at ha h0;rw [getElem!_pos _ a (by simpa using ha)] at h0;simp at h0
 ·subst hx;simp [Bl] at hv
theorem trimA_f {s:Spc}(h0:(Cn s)[0]! = false):trimA s=(Ao s,ordOf s):=by unfold trimA;rw [if_neg (by rw [h0];simp)]
theorem Kl {s:Spc}(h0:(Cn s)[0]! = true):trimA s=(Bl s.acts,[]):=by unfold trimA;rw [if_pos h0]
theorem Bi.ref {A B:Spc}{R:Nat→Nat→Prop}(h:Bi A B R){m q:Nat}(hA:SpcK m A)(hB:SpcK q B):Ref (trimA A).1 B:=by
 cases h0:(Cn A)[0]! with
 | true=>rw [Kl h0];exact AfL
 | false =>
   rw [trimA_f h0];have hb:=hA.b hA.sz;have h1:0<A.S.length:=hA.s1;have hlen:(Ao A).S.length=(ordOf A).length:=by simp [Ao]
   refine XA (P:=fun i y=>i<(ordOf A).length∧R (ordOf A)[i]! y) ⟨⟨JM hb h1,by rw [Lt hb h1];exact h.z⟩,?_⟩ ?_
   ·rintro i y ⟨hi,hr⟩ hsub a ha h0';obtain ⟨v,hv,hva⟩:=(NB hA).tight i (by rw [hlen];exact hi) a ha h0';obtain ⟨g1,g2,g3⟩:=PG hA h0 hi hv hva;refine ⟨g2,?_⟩;rw [g3];rw [(JJ hA h0 hi).1] at hv;exact h.nx _ _ hr v (Ln.1 hv).1 a hva
   ·rintro i y ⟨hi,hr⟩ v hv;rw [(JJ hA h0 hi).1] at hv;exact (h.acc _ _ hr v).1 (Ln.1 hv).1
theorem Bi.reft {A B:Spc}{R:Nat→Nat→Prop}(h:Bi A B R){m q:Nat}(hA:SpcK m A)(hB:SpcK q B):Ref (trimA A).1 (trimA B).1:=by
 cases h0:(Cn A)[0]! with
 | true=>rw [Kl h0];exact AfL
 | false =>
   have h0B:(Cn B)[0]! = false:=by
    cases hb:(Cn B)[0]! with
    | false=>rfl
    | true =>
      have:=h.symm.hol hB hA h.z ((Cw hB.s1).1 hb);rw [(Cw hA.s1).2 this] at h0;cases h0
   rw [trimA_f h0,trimA_f h0B];have hb:=hA.b hA.sz;have h1:0<A.S.length:=hA.s1;have hbB:=hB.b hB.sz;have h1B:0<B.S.length:=hB.s1;have hlen:(Ao A).S.length=(ordOf A).length:=by simp [Ao]
   refine XA (P:=fun i j=>i<(ordOf A).length∧j<(ordOf B).length∧R (ordOf A)[i]! (ordOf B)[j]!) ⟨⟨JM hb h1,JM hbB h1B,by rw [Lt hb h1,Lt hbB h1B];exact h.z⟩,?_⟩ ?_
   ·rintro i j ⟨hi,hj,hr⟩ hsub a ha h0';obtain ⟨v,hv,hva⟩:=(NB hA).tight i (by rw [hlen];exact hi) a ha h0';have hv2:=hsub v hv;obtain ⟨g1,g2,g3⟩:=PG hA h0 hi hv hva;obtain ⟨f1,f2,f3⟩:=PG hB h0B hj hv2 hva;refine ⟨g2,f2,?_⟩;rw [g3,f3];rw [(JJ hA h0 hi).1] at hv;exact h.nx _ _ hr v (Ln.1 hv).1 a hva
   ·rintro i j ⟨hi,hj,hr⟩ v hv;rw [(JJ hA h0 hi).1] at hv;show v∈(Ao B).S[j]!.A;rw [(JJ hB h0B hj).1];exact h.kept hA hB hr hv
theorem Bi.both {C want:Spc}{R:Nat→Nat→Prop}(h:Bi C want R){m q:Nat}(hC:SpcK m C)(hw:SpcK q want):Ref (trimA (trimA C).1).1 want∧Ref (trimA want).1 (trimA C).1 :=
 ⟨by rw [D9 hC];exact h.ref hC hw,h.symm.reft hw hC⟩
abbrev Pr:=Int×Int
def Cd (n m:Nat)(p:Pr):Prop := -1≤p.1∧p.1<(n:Int) ∧ -1≤p.2∧p.2<(m:Int)∧(0≤p.1∨0≤p.2)
def Rt (m:Nat)(p:Pr):Nat:=((p.1+1)*(m+1)+(p.2+1)-1).toNat
theorem AbA {n m:Nat}{p:Pr}(h:Cd n m p):Rt m p<n*m+n+m:=by
 obtain ⟨h1,h2,h3,h4,h5⟩:=h;unfold Rt;have e1:(p.1+1)*((m:Int)+1)≤n*(m+1):=Int.mul_le_mul_of_nonneg_right (by omega) (by omega);have e2:(n:Int)*(m+1)=n*m+n:=by rw [Int.mul_add,Int.mul_one]
 have e3:((n*m:Nat):Int)=(n:Int)*m:=by simp
 have e4:0≤(p.1+1)*((m:Int)+1):=Int.mul_nonneg (by omega) (by omega);have e5:0≤p.1→(m:Int)+1≤(p.1+1)*((m:Int)+1):=fun h=>by
  have:=Int.mul_le_mul_of_nonneg_right (show (1:Int)≤p.1+1 by omega) (show (0:Int)≤m+1 by omega);omega
 omega
theorem Z9 {n m:Nat}{p q:Pr}(hp:Cd n m p)(hq:Cd n m q)(h:Rt m p=Rt m q):p=q:=by
 obtain ⟨h1,h2,h3,h4,h5⟩:=hp;obtain ⟨g1,g2,g3,g4,g5⟩:=hq;unfold Rt at h;have lo:∀ {a:Int},0≤a→0≤a*((m:Int)+1):=fun ha=>Int.mul_nonneg ha (by omega);have l1:=lo (show 0≤p.1+1 by omega);have l2:=lo (show 0≤q.1+1 by omega);have hi1:0≤p.1→(m:Int)+1≤(p.1+1)*((m:Int)+1):=fun h=>by
  have:=Int.mul_le_mul_of_nonneg_right (show (1:Int)≤p.1+1 by omega) (show (0:Int)≤m+1 by omega);omega
 have hi2:0≤q.1→(m:Int)+1≤(q.1+1)*((m:Int)+1):=fun h=>by
  have:=Int.mul_le_mul_of_nonneg_right (show (1:Int)≤q.1+1 by omega) (show (0:Int)≤m+1 by omega);omega
 have he:(p.1+1)*((m:Int)+1)+(p.2+1)=(q.1+1)*((m:Int)+1)+(q.2+1):=by omega
 have e1:p.1=q.1:=by
  rcases Int.lt_trichotomy p.1 q.1 with hlt|e|hlt
  ·have:=Int.mul_le_mul_of_nonneg_right (show p.1+1+1≤q.1+1 by omega) (show (0:Int)≤m+1 by omega);rw [Int.add_mul,Int.one_mul] at this;omega
  ·exact e
  ·have:=Int.mul_le_mul_of_nonneg_right (show q.1+1+1≤p.1+1 by omega) (show (0:Int)≤m+1 by omega);rw [Int.add_mul,Int.one_mul] at this;omega
 have e2:p.2=q.2:=by rw [e1] at he;omega
 exact Prod.ext e1 e2
theorem Ki {n m:Nat}{l:List Pr}(hn:l.Nodup)(hg:∀p∈l,Cd n m p):l.length≤n*m+n+m:=by
 have:=Jg (n:=n*m+n+m) (l:=l.map (Rt m)) ?_ ?_
 ·simpa using this
 ·refine (List.pairwise_map).2 ?_;refine List.Pairwise.imp_of_mem ?_ hn;intro a b ha hb hab he;exact hab (Z9 (hg a ha) (hg b hb) he)
 ·intro x hx;obtain ⟨p,hp,rfl⟩:=List.mem_map.1 hx;exact AbA (hg p hp)
structure PS (Gd:Pr→Prop)(acts:List ByteArray)(acc:Pr→Int→Prop)(nx:Pr→Nat→Pr)(go:Pr→Nat→Prop)(out:Spc)(l:List Pr):Prop where
 ac:out.acts=acts
 len:out.S.length=l.length
 z:l[0]? = some (0,0)
 nd:l.Nodup
 good:∀p∈l,Gd p
 a:∀i<l.length,∀v,v∈out.S[i]!.A↔acc l[i]! v
 ris:∀i<l.length,out.S[i]!.A.Pairwise (· < ·)
 xl:∀i<l.length,out.S[i]!.X.length=acts.length
 xg:∀i<l.length,∀a<acts.length,go l[i]! a→0≤out.S[i]!.X[a]!∧out.S[i]!.X[a]!.toNat<l.length∧l[out.S[i]!.X[a]!.toNat]! = nx l[i]! a
 xn:∀i<l.length,∀a<acts.length,¬go l[i]! a→out.S[i]!.X[a]! = -1
structure AccOk (Gd:Pr→Prop)(k:Nat)(acc:Pr→Int→Prop)(go:Pr→Nat→Prop):Prop where
 b:∀p v,Gd p→acc p v→0≤v∧v<((2 ^ k:Nat):Int)
 g:∀p v a,Gd p→acc p v→hasA v a=true→go p a
theorem PS.pos {Gd:Pr→Prop}{acts:List ByteArray}{acc:Pr→Int→Prop}{nx:Pr→Nat→Pr}{go:Pr→Nat→Prop}{out:Spc}{l:List Pr}(h:PS Gd acts acc nx go out l):0<l.length:=List.lt_of_some h.z
theorem PS.zero {Gd:Pr→Prop}{acts:List ByteArray}{acc:Pr→Int→Prop}{nx:Pr→Nat→Pr}{go:Pr→Nat→Prop}{out:Spc}{l:List Pr}(h:PS Gd acts acc nx go out l):l[0]! = (0,0):=by
 rw [List.getElem!_eq_getElem?_getD,h.z];rfl
theorem PS.ok {Gd:Pr→Prop}{acts:List ByteArray}{acc:Pr→Int→Prop}{nx:Pr→Nat→Pr}{go:Pr→Nat→Prop}{out:Spc}{l:List Pr}(h:PS Gd acts acc nx go out l)(ha:actsOk acts=true)(hA:AccOk Gd acts.length acc go){q:Nat}(hq:l.length≤q∧l.length≤12000):SpcK q out:=by
 have hpos:=h.pos;have hl:=h.len;refine ⟨by rw [h.ac];exact ha,by omega,by omega,fun i hi=>?_⟩;rw [hl] at hi;rw [h.ac,hl];have hg:=h.good _ (AI hi);refine ⟨h.xl i hi,fun j hj=>hA.b _ _ hg ((h.a i hi _).1 (AI hj)),fun j hj h0=>AbL (h.ris i hi) hj h0,fun a ha=>?_,fun j hj a ha hb=>?_⟩
 ·by_cases hgo:go l[i]! a
  ·have:=h.xg i hi a ha hgo;omega
  ·have:=h.xn i hi a ha hgo;omega
 ·exact (h.xg i hi a ha (hA.g _ _ a hg ((h.a i hi _).1 (AI hj)) hb)).1
theorem PS.bi {Gd:Pr→Prop}{acts:List ByteArray}{acc1 acc2:Pr→Int→Prop}{nx:Pr→Nat→Pr}{go1 go2:Pr→Nat→Prop}{A B:Spc}{l k:List Pr}(h:PS Gd acts acc1 nx go1 A l)(g:PS Gd acts acc2 nx go2 B k)
 (hA:AccOk Gd acts.length acc1 go1) (hB:AccOk Gd acts.length acc2 go2) (he:∀p v,Gd p→(acc1 p v↔acc2 p v)):Bi A B (fun x y=>x<l.length∧y<k.length∧l[x]! = k[y]!):=by
 refine ⟨by rw [h.ac,g.ac],⟨h.pos,g.pos,by rw [h.zero,g.zero]⟩,fun x y hr=>⟨by rw [h.len];exact hr.1,by rw [g.len];exact hr.2.1⟩,fun x y hr v=>?_,fun x y hr v hv a ha=>?_⟩
 ·obtain ⟨hx,hy,e⟩:=hr;rw [h.a x hx,g.a y hy,e];exact he _ _ (g.good _ (AI hy))
 ·obtain ⟨hx,hy,e⟩:=hr;have hg1:=h.good _ (AI hx);have hg2:=g.good _ (AI hy);have hv1:=(h.a x hx v).1 hv;have hv2:acc2 k[y]! v:=by rw [←e];exact (he _ _ hg1).1 hv1
  have hb:=hA.b _ _ hg1 hv1;have hlt:a<acts.length:=Bz (n:=v.toNat) (by omega) ha;obtain ⟨f1,f2,f3⟩:=h.xg x hx a hlt (hA.g _ _ a hg1 hv1 ha);obtain ⟨d1,d2,d3⟩:=g.xg y hy a hlt (hB.g _ _ a hg2 hv2 ha);exact ⟨f2,d2,by rw [f3,d3,e]⟩
def accP (s:Spc)(x v:Int):Prop:=0≤x∧v∈s.S[x.toNat]!.A
def nx1 (s:Spc)(x:Int)(a:Nat):Int:=if x<0 then -1 else s.S[x.toNat]!.X[a]!
def nxP (s t:Spc)(p:Pr)(a:Nat):Pr:=(nx1 s p.1 a,nx1 t p.2 a)
def accM (s t:Spc)(p:Pr)(v:Int):Prop:=accP s p.1 v∧accP t p.2 v
def accJ (s t:Spc)(p:Pr)(v:Int):Prop:=accP s p.1 v∨accP t p.2 v
def usedP (acc:Pr→Int→Prop)(p:Pr)(a:Nat):Prop:=∃v,acc p v∧hasA v a=true
def goM (s t:Spc)(p:Pr)(a:Nat):Prop:=0≤(nxP s t p a).1∧0≤(nxP s t p a).2
def goJ (s t:Spc)(p:Pr)(a:Nat):Prop:=0≤(nxP s t p a).1∨0≤(nxP s t p a).2
def gdM (n m:Nat)(p:Pr):Prop:=0≤p.1∧p.1<(n:Int)∧0≤p.2∧p.2<(m:Int)
theorem XY {n m:Nat}{p:Pr}(h:gdM n m p):Cd n m p:=by obtain ⟨h1,h2,h3,h4⟩:=h;exact ⟨by omega,h2,by omega,h4,.inl h1⟩
section
variable {m q:Nat}{s t:Spc}
theorem AcQ (hs:SpcK m s){x v:Int}(hx:x<(s.S.length:Int))(h:accP s x v):0≤v∧v<((2 ^ s.acts.length:Nat):Int):=by
 obtain ⟨h1,h2⟩:=h;obtain ⟨j,hj,e⟩:=getAt h2;have:=(hs.st x.toNat (by omega)).a j hj;rwa [e] at this
theorem Yg (hs:SpcK m s){x v:Int}(hx:x<(s.S.length:Int))(h:accP s x v){a:Nat}(ha:hasA v a=true):0≤nx1 s x a:=by
 obtain ⟨h1,h2⟩:=h;unfold nx1;rw [if_neg (by omega)];exact (hs.ltA (x:=x.toNat) (by omega) h2 ha).2
theorem Yn (hs:SpcK m s){x:Int}(hx:x<(s.S.length:Int)){a:Nat}(ha:a<s.acts.length) : -1≤nx1 s x a∧nx1 s x a<(s.S.length:Int):=by
 have:=hs.s1;unfold nx1;split
 ·omega
 ·exact (hs.st x.toNat (by omega)).x a ha
theorem AfF (hs:SpcK m s)(ht:SpcK q t)(he:t.acts=s.acts){p:Pr}(hp:gdM s.S.length t.S.length p){a:Nat}(ha:a<s.acts.length)(hg:goM s t p a):gdM s.S.length t.S.length (nxP s t p a):=by
 have h1:=Yn hs hp.2.1 ha;have h2:=Yn ht hp.2.2.2 (a:=a) (by rw [he];exact ha);exact ⟨hg.1,h1.2,hg.2,h2.2⟩
theorem AfH (hs:SpcK m s)(ht:SpcK q t)(he:t.acts=s.acts){p:Pr}(hp:Cd s.S.length t.S.length p){a:Nat}(ha:a<s.acts.length)(hg:goJ s t p a):Cd s.S.length t.S.length (nxP s t p a):=by
 have h1:=Yn hs hp.2.1 ha;have h2:=Yn ht hp.2.2.2.1 (a:=a) (by rw [he];exact ha);exact ⟨h1.1,h1.2,h2.1,h2.2,hg⟩
theorem XG (hs:SpcK m s)(ht:SpcK q t){p:Pr}(hp:gdM s.S.length t.S.length p){v:Int}(hv:accM s t p v){a:Nat}(ha:hasA v a=true):goM s t p a :=
 ⟨Yg hs hp.2.1 hv.1 ha,Yg ht hp.2.2.2 hv.2 ha⟩
theorem XB (hs:SpcK m s)(ht:SpcK q t){p:Pr}(hp:Cd s.S.length t.S.length p){v:Int}(hv:accJ s t p v){a:Nat}(ha:hasA v a=true):goJ s t p a :=
 hv.elim (fun h=>.inl (Yg hs hp.2.1 h ha)) (fun h=>.inr (Yg ht hp.2.2.2.1 h ha))
theorem LV (hs:SpcK m s)(ht:SpcK q t):AccOk (gdM s.S.length t.S.length) s.acts.length (accM s t) (goM s t) :=
 ⟨fun p v hp hv=>AcQ hs hp.2.1 hv.1,fun p v a hp hv ha=>XG hs ht hp hv ha⟩
theorem Lc (hs:SpcK m s)(ht:SpcK q t)(he:t.acts=s.acts):AccOk (Cd s.S.length t.S.length) s.acts.length (accJ s t) (goJ s t) :=
 ⟨fun p v hp hv=>hv.elim (AcQ hs hp.2.1) (fun h=>by have:=AcQ ht hp.2.2.2.1 h;rwa [he] at this),fun p v a hp hv ha=>XB hs ht hp hv ha⟩
theorem AccOk.used {Gd:Pr→Prop}{k:Nat}{acc:Pr→Int→Prop}{go:Pr→Nat→Prop}(h:AccOk Gd k acc go):AccOk Gd k acc (usedP acc):=⟨h.b,fun p v a _ hv ha=>⟨v,hv,ha⟩⟩
theorem PS.bi2 {Gd:Pr→Prop}{acts:List ByteArray}{acc:Pr→Int→Prop}{nx:Pr→Nat→Pr}{go:Pr→Nat→Prop}{B C:Spc}{k:List Pr}(g:PS Gd acts acc nx go B k)(hB:AccOk Gd acts.length acc go){m:Nat}(hC:SpcK m C)(he:C.acts=acts)
 (Q:Pr→Nat→Prop) (z:Q (0,0) 0) (ha:∀p x,Gd p→x<C.S.length→Q p x→∀v,v∈C.S[x]!.A↔acc p v) (hn:∀p x v a,Gd p→x<C.S.length→Q p x→acc p v→hasA v a=true→Q (nx p a) C.S[x]!.X[a]!.toNat) :
 Bi C B (fun x y=>x<C.S.length∧y<k.length∧Q k[y]! x):=by
 refine ⟨by rw [he,g.ac],⟨hC.s1,g.pos,by rw [g.zero];exact z⟩,fun x y hr=>⟨hr.1,by rw [g.len];exact hr.2.1⟩,fun x y hr v=>?_,fun x y hr v hv a hb=>?_⟩
 ·obtain ⟨hx,hy,e⟩:=hr;rw [g.a y hy];exact ha _ _ (g.good _ (AI hy)) hx e v
 ·obtain ⟨hx,hy,e⟩:=hr;have hg:=g.good _ (AI hy);have hv2:=(ha _ _ hg hx e v).1 hv;obtain ⟨f1,f2⟩:=hC.ltA hx hv hb;rw [he] at f1;obtain ⟨d1,d2,d3⟩:=g.xg y hy a f1 (hB.g _ _ a hg hv2 hb);have hxb:=((hC.st x hx).x a (by rw [he];exact f1)).2;refine ⟨by omega,d2,?_⟩;rw [d3];exact hn _ _ v a hg hx e hv2 hb
theorem no_accP {l:List ByteArray}{x v:Int}(hx:x<1):¬accP (Bl l) x v:=by
 rintro ⟨h1,h2⟩;have:x=0:=by omega
 subst this;simp [Bl] at h2
theorem Adx {l:List ByteArray}{t want:Spc}{k:List Pr}(ht:SpcK m t)(he:t.acts=l)(g:PS (Cd 1 t.S.length) l (accJ (Bl l) t) (nxP (Bl l) t) (goJ (Bl l) t) want k)
 (hB:AccOk (Cd 1 t.S.length) l.length (accJ (Bl l) t) (goJ (Bl l) t)):∃R,Bi t want R:=by
 refine ⟨_,g.bi2 hB ht he (fun p x=>p.2=(x:Int)) rfl (fun p x hp hx e v=>?_) (fun p x v a hp hx e hv ha=>?_)⟩
 ·constructor
  ·intro hv;refine .inr ⟨by rw [e];omega,?_⟩;rw [e];exact hv
  ·rintro (h|h)
   ·exact absurd h (no_accP hp.2.1)
   ·have:=h.2;rw [e] at this;exact this
 ·have hv2:accP t p.2 v:=hv.resolve_left (no_accP hp.2.1);have hlt:=ht.ltA hx (by have:=hv2.2;rw [e] at this;exact this) ha;simp only [nxP,nx1];rw [e,if_neg (by omega),Int.toNat_natCast];omega
theorem Aeu {l:List ByteArray}{s want:Spc}{k:List Pr}(hs:SpcK m s)(he:s.acts=l)(g:PS (Cd s.S.length 1) l (accJ s (Bl l)) (nxP s (Bl l)) (goJ s (Bl l)) want k)
 (hB:AccOk (Cd s.S.length 1) l.length (accJ s (Bl l)) (goJ s (Bl l))):∃R,Bi s want R:=by
 refine ⟨_,g.bi2 hB hs he (fun p x=>p.1=(x:Int)) rfl (fun p x hp hx e v=>?_) (fun p x v a hp hx e hv ha=>?_)⟩
 ·constructor
  ·intro hv;refine .inl ⟨by rw [e];omega,?_⟩;rw [e];exact hv
  ·rintro (h|h)
   ·have:=h.2;rw [e] at this;exact this
   ·exact absurd h (no_accP hp.2.2.2.1)
 ·have hv2:accP s p.1 v:=hv.resolve_right (no_accP hp.2.2.2.1);have hlt:=hs.ltA hx (by have:=hv2.2;rw [e] at this;exact this) ha;simp only [nxP,nx1];rw [e,if_neg (by omega),Int.toNat_natCast];omega
end
end Go.Mw
namespace Go.Mw
set_option maxRecDepth 100000
def acL7 (s:Spc)(x:Int):List Int:=if x<0 then [] else s.S[x.toNat]!.A
theorem XZ {s:Spc}{x v:Int}:v∈acL7 s x↔accP s x v:=by
 unfold acL7 accP;by_cases h:x<0
 ·rw [if_pos h];simp;omega
 ·rw [if_neg h];simp only [show (0:Int)≤x by omega,true_and]
theorem SA (s:Spc)(x:Int)(hx:x<(s.S.length:Int)):Fn G Bu [eSp s,I x] (.lst ((acL7 s x).map I)):=by
 refine FnP.mk' Vc rfl rfl ?_;by_cases h:x<0
 ·simp only [go_sem,↓reduceIte,↓Aa,La,eSp,h,acL7,if_true]
 ·obtain ⟨k,rfl⟩:∃k:Nat,x=k:=⟨x.toNat,by omega⟩;have hk:k<s.S.length:=by omega
  simp only [go_sem,↓reduceIte,↓Aa,La,eSp,h,if_false,hk,eSt,acL7,Int.toNat_natCast]
theorem OD (s:Spc)(x:Int)(hx:x<(s.S.length:Int))(a:Nat)(ha:0≤x→a<s.S[x.toNat]!.X.length):FnT G Ce [eSp s,I x,I a] (I (nx1 s x a)):=by
 refine FnP.mk' YS rfl rfl ?_;by_cases h:x<0
 ·simp only [go_sem,↓reduceIte,↓Aa,Nx,eSp,h,if_true,nx1]
 ·obtain ⟨k,rfl⟩:∃k:Nat,x=k:=⟨x.toNat,by omega⟩;have hk:k<s.S.length:=by omega
  have ha':=ha (by omega);rw [Int.toNat_natCast] at ha';simp only [go_sem,↓reduceIte,↓Aa,Nx,eSp,h,if_false,hk,eSt,nx1,Int.toNat_natCast,ha']
theorem Ad6 (s:Spc):FnT G Fu [eSp s] (Bo (decide (s.acts.length=0∧s.S.length=0))):=by
 refine FnP.mk' Aac rfl rfl ?_;have e:∀n:Nat,((n:Int)==0)=decide (n=0):=fun n=>by
  by_cases h:n=0
  ·subst h;rfl
  ·rw [decide_eq_false h,beq_eq_false_iff_ne];omega
 by_cases h1:s.acts.length=0<;>by_cases h2:s.S.length=0<;>simp only [go_sem,↓reduceIte,↓Aa,Rc,eSp,e,h1,h2,decide_true,decide_false,and_true,and_false,true_and,false_and]
theorem Agx (x:Int):FnT G Bh [I x] (Bo false):=by
 refine FnP.mk' L8 rfl rfl ?_;have:(x != x)=false:=by simp
 simp only [go_sem,↓reduceIte,↓Aa,HZ,this]
theorem AiG {x:Int}{fr:Bool}{roots:List Nat}{b:Nat}{ss:List Nat}{σ:St}{k:AV→St→Prop}:callT G Bh [I x] fr roots b ss σ k=k (Bo false) σ:=(Agx x).rule
theorem AiU (l:List Int)(hl:l.length≤100000)(hs:∀i j,i<j→j<l.length→l[i]! < l[j]!)(x:Int):∃v,(∃i:Int,v = .tup [I i,Bo (decide (x∈l))])∧FnT G AF [.lst (l.map I),I x] v:=by
 refine FnP.some (FnP.mk' Ji rfl rfl ?_);simp only [go_sem,↓reduceIte,↓Aa,DR];refine Ac (fun (g:Nat×Nat) σ=>g.1≤g.2∧g.2≤l.length∧(∀k<g.1,l[k]! < x)∧(∀k,g.2≤k→k<l.length→¬l[k]! < x)∧σ=⟨aT .undef 54 [(0,.lst (l.map I)),(1,I x),(6,I l.length),(7,I g.1),(8,I g.2)],[],[]⟩) (fun g=>g.2-g.1) ?_ (0,l.length) ?_
 ·rintro ⟨i,j⟩ σ ⟨hij,hj,h1,h2,rfl⟩ N Q hQ hN;simp only at hij hj h1 h2;by_cases hlt:i<j
  ·have w1:=Ww (x:=i) (y:=j) (by omega);have w2:=OB (n:=i+j) (by omega);have w3:Adp .u64 ((i+j:Nat):Int) 1=(((i+j) / 2:Nat):Int):=Acs (n:=i+j) (k:=1) (by omega);have w4:IntKind.i64.wrap (((i+j) / 2:Nat):Int)=(((i+j) / 2:Nat):Int):=by rw [As]<;>omega
   have hh:(i+j) / 2<l.length:=by omega
   have w5:IntKind.i64.wrap ((((i+j) / 2:Nat):Int)+1)=(((i+j) / 2+1:Nat):Int):=by rw [As]<;>omega
   simp only [go_sem,↓reduceIte,↓Aa,Int.ofNat_lt,hlt,w1,w2,w3,w4,hh,w5];refine ⟨fun hx=>hN ((i+j) / 2+1,j) _ (by simp only;omega) ⟨by simp only;omega,hj,fun k hk=>?_,h2,?_⟩,fun hx=>hN (i,(i+j) / 2) _ (by simp only;omega) ⟨by simp only;omega,by simp only;omega,h1,fun k hk1 hk2=>?_,?_⟩⟩
   ·rcases Nat.lt_or_eq_of_le (show k≤(i+j) / 2 by simp only at hk;omega) with h3|rfl
    ·have:=hs k _ h3 hh;omega
    ·exact hx
   ·simp only [go_sem,↓reduceIte,↓Aa]
   ·rcases Nat.lt_or_eq_of_le (show (i+j) / 2≤k from hk1) with h3|rfl
    ·have:=hs _ k h3 hk2;omega
    ·exact hx
   ·simp only [go_sem,↓reduceIte,↓Aa]
  ·subst hQ;have hiff:x∈l↔i<l.length∧l[i]! = x:=by
    refine ⟨fun hm=>?_,fun ⟨h3,h4⟩=>by rw [←h4];exact AI h3⟩;obtain ⟨k,hk,e⟩:=getAt hm;have hk1:i≤k:=Nat.le_of_not_lt fun h=>by have:=h1 k h;omega
    have hk2:k≤i:=Nat.le_of_not_lt fun h=>by have:=h2 i (by omega) (by omega);have:=hs i k h hk;omega
    have:k=i:=by omega
    subst this;exact ⟨hk,e⟩
   simp only [go_sem,↓reduceIte,↓Aa,Int.ofNat_lt,hlt,AiG];refine ⟨fun h3=>⟨h3,fun h4=>⟨h3,?_⟩,fun h4=>?_⟩,fun h3=>?_⟩
   ·refine ⟨i,?_⟩;rw [decide_eq_false];rw [hiff];rw [beq_eq_false_iff_ne] at h4;exact fun h=>h4 h.2
   ·refine ⟨i,?_⟩;rw [decide_eq_true];rw [hiff];exact ⟨h3,by simpa using h4⟩
   ·refine ⟨i,?_⟩;rw [decide_eq_false];rw [hiff];exact fun h=>h3 h.1
 ·refine ⟨by omega,by omega,fun k hk=>by omega,fun k h1 h2=>by omega,?_⟩;simp only [go_sem,↓reduceIte,↓Aa]
theorem Ahg (s t:List Int)(hs:s.length≤100000)(ht:t.length≤100000)(hr:∀i j,i<j→j<t.length→t[i]! < t[j]!):Fn G Fp [.lst (s.map I),.lst (t.map I)] (.lst ((s.filter fun v=>decide (v∈t)).map I)):=by
 refine FnP.mk' Xs rfl rfl ?_;simp only [go_sem,↓reduceIte,↓Aa,Pv];refine Ac (fun (i:Nat) σ=>i≤s.length∧∃a0 c0 st ss,σ=⟨aT .undef 29 [(1,.lst (t.map I)),(5,Le .nils 1 1 st (((s.take i).filter fun v=>decide (v∈t)).map I)),(10,.lst (s.map I)),(11,I s.length),(12,I i)],[⟨a0,c0,.gone⟩,⟨st,ss,MW 1 (((s.take i).filter fun v=>decide (v∈t)).map I)⟩],[]⟩) (fun i=>s.length-i) ?_ 0 ?_
 ·rintro i σ ⟨hi,a0,c0,st,ss,rfl⟩ N Q hQ hN;by_cases hlt:i<s.length
  ·obtain ⟨v,⟨j,rfl⟩,hv⟩:=AiU t ht hr s[i]!;have hcall:∀ {fr:Bool}{roots:List Nat}{b:Nat}{ss:List Nat}{σ:St}{k:AV→St→Prop},callT G AF [.lst (t.map I),.int .i64 s[i]!] fr roots b ss σ k=k (.tup [I j,Bo (decide (s[i]!∈t))]) σ:=hv.rule;have hfl:((s.take i).filter fun v=>decide (v∈t)).length≤i:=Nat.le_trans (List.length_filter_le _ _) (by rw [List.length_take];omega);have htk:(s.take (i+1)).filter (fun v=>decide (v∈t))=(s.take i).filter (fun v=>decide (v∈t))++if s[i]!∈t then [s[i]!] else []:=by
    rw [List.take_succ_eq_append_getElem hlt,List.filter_append,←getElem!_pos s i hlt];generalize s[i]! = w;by_cases hm:w∈t<;>simp [hm]
   simp only [go_sem,↓reduceIte,↓Aa,Int.ofNat_lt,hlt,Ab hlt (by omega),hcall];refine ⟨fun hm=>⟨by omega,hN (i+1) _ (by omega) ⟨by omega,?_⟩⟩,fun hm=>hN (i+1) _ (by omega) ⟨by omega,?_⟩⟩
   ·simp only [go_sem,↓reduceIte,↓Aa,htk,hm,if_true,List.map_append];repeat apply Exists.intro
    rfl
   ·simp only [go_sem,↓reduceIte,↓Aa,htk,hm,if_false,List.append_nil];repeat apply Exists.intro
    rfl
  ·have hil:i=s.length:=by omega
   subst hil hQ;simp only [go_sem,↓reduceIte,↓Aa,Int.ofNat_lt,hlt,List.take_length]
 ·refine ⟨by omega,0,0,0,0,?_⟩;simp only [go_sem,↓reduceIte,↓Aa,List.take_zero,List.filter_nil,List.map_nil]
theorem takeCellK_mp {h:List Ob}{r st ss:Nat}{p:Path}{q:AV→List Ob→Prop}:B4 h (.mp r st p ss) q=Bw h r st p ss (fun nd=>O4 nd (fun es=>H2 h r p .gone false (fun h'=>q (.ownm es) h'))):=by
 simp only [B4,takeCell,Bw,O4,H2];cases node h r st p ss with
 | none=>rfl
 | some nd =>
   cases nd<;>first|rfl|skip
   simp only;cases setOb h r p .gone false<;>rfl
theorem one_mp {h:List Ob}{r st ss:Nat}{p:Path}:Qn h (.mp r st p ss)=Bw h r st p ss (fun nd=>O4 nd (fun _=>True)):=by
 simp only [Qn,LD,Bw,O4];cases node h r st p ss with
 | none=>simp
 | some nd=>cases nd<;>simp
theorem cells_mp {r st ss:Nat}{p:Path}:(AV.mp r st p ss).cells = [.mp r st p ss]:=(rfl)
theorem isNode_ownm {es:List (AV×AV)}:isNode (.ownm es)=true:=(rfl)
theorem lokK_mpP {kk:KK}{z:AV}{ok:Bool}{x:AV}{h:List Ob}{r st ss:Nat}{p:Path}{q:AV→Prop}:Aht kk z ok (.mp r st p ss) x h q=Bw h r st p ss (fun nd=>O4 nd (fun es=>Ahz kk z ok x es q)):=by
 simp only [Aht,Bw,O4,Ahz];cases node h r st p ss with
 | none=>rfl
 | some nd=>cases nd<;>rfl
def Ahh (kk:KK)(x v:AV)(es:List (AV×AV))(k:List (AV×AV)→Prop)(u:Tg k:=tg):Prop :=
 match findK kk x es with
 | some (some i)=>(match es[i]? with|some (k',_)=>k (es.set i (k',v))|none=>False)
 | some none=>k (es++[(x,v)])
 | none=>False
theorem Ze {kk:KK}{x x' v v':AV}{es es':List (AV×AV)}{k:List (AV×AV)→Prop}(h0:x=x')(h1:v=v')(h2:es=es'):Ahh kk x v es k=Ahh kk x' v' es' k:=by cases h0;cases h1;cases h2;rfl
attribute [congr] Ze
theorem mupK_mpP {kk:KK}{x v:AV}{h:List Ob}{r st ss:Nat}{p:Path}{q:List Ob→Prop}:Ahs kk (.mp r st p ss) x v h q =
 Bw h r st p ss (fun nd=>O4 nd (fun es=>(v.free=true∧x.free=true)∧Ahh kk x v es (fun es'=>H2 h r p (.ownm es') false q))):=by
 simp only [Ahs,Bw,O4,Ahh,H2];cases node h r st p ss with
 | none=>rfl
 | some nd =>
   cases nd<;>first|rfl|skip
   rename_i es;simp only;by_cases hc:v.free=true∧x.free=true
   ·simp only [hc,and_self,if_true,true_and];cases findK kk x es with
    | none=>rfl
    | some o =>
      cases o with
      | none=>rfl
      | some i =>
        simp only;cases es[i]? with
        | none=>rfl
        | some e=>rfl
   ·rw [if_neg hc];simp only [hc,false_and]
theorem mupF_E {a c:Int}{v:AV}{l:List KV}{q:List (AV×AV)→Prop}:Ahh (true,[1,1]) (.agg [I a,I c]) v (Fe l) q=q (Fe (putM l (a,c) v)):=by
 have h:=@mupE_E a c v [] 0 0 0 l (fun h=>True);simp only [Ahh,findK_E];cases hf:l.findIdx? fun e=>e.1==(a,c) with
 | none =>
   have:=@RT l (a,c) v v hf;simp only [putM,this];simp [Fe,eKV]
 | some i =>
   obtain ⟨hi,_⟩:=AcT hf;have hs:Adq l (a,c)=true:=by rw [PF,hf];rfl
   have hg:(Fe l)[i]? = some (eKV l[i]):=by simp [Fe,hi]
   simp only [hg];simp only [putM,ensM,hs,if_true,idxM,hf,Option.getD_some];rw [←Ab5 hg]
theorem mupF_nil {a c:Int}{v:AV}{q:List (AV×AV)→Prop}:Ahh (true,[1,1]) (.agg [I a,I c]) v [] q=q (Fe (putM [] (a,c) v)):=@mupF_E a c v [] q
theorem cells_nilm:AV.nilm.cells = [.nilm]:=(rfl)
theorem plain_nilm:AV.nilm.plain=true:=(rfl)
theorem AhO {x:Opd}{p:Nat}{kt ks:List Nat}{asg body:C}{b:Nat}{σ:St}{Q:Ex→St→Prop}(set:Nat)(hs:set<2 ^ 62)(hx:σ.get x = .fn E5 [.pfro [I set]])
 (Inv:Nat→List Ob→Prop) (hlen:∀a h,Inv a h→h.length=σ.h.length) (h0:Inv 0 σ.h) (skip:∀a h,set.testBit a=false→Inv a h→Inv (a+1) h)
 (step:∀a h (LF LT:List Lp),set.testBit a=true→a<62→Inv a h→Wp G asg b ⟨(kill kt σ.t).set p (I a),freeSites b ks h,LF⟩ (fun e σ1=>e = .nrm∧σ1.lp=LF ∧
   Wp G body b { σ1 with lp:=LT } (fun e σ2=>σ2.lp=LT∧match e with | .nrm=>Inv (a+1) σ2.h|e=>σ2.h.length=σ.h.length∧Q e ⟨σ.t,σ2.h,σ.lp⟩)))
 (fin:∀a h,set<2 ^ a→Inv a h→Q .nrm ⟨σ.t,h,σ.lp⟩):Wp G (.rngf x [p] kt ks asg body) b σ Q :=
 AeH set hs hx Inv hlen h0 skip (fun a h h1 h2 h3=>step a h _ _ h1 h2 h3) fin
def Th:List Pr→Nat→List KV
 | [],_=>[]
 | x::l,j=>(x,I (j:Nat))::Th l (j+1)
def XQ (l:List Pr):List KV:=Th l 0
theorem PO {k:Pr}:∀ {l:List Pr}{j:Nat},(Th l j).find? (fun e=>e.1==k)=if k∈l then some (k,I ((j+l.idxOf k:Nat))) else none:=by
 intro l;induction l with
 | nil=>intro j;simp [Th]
 | cons x l ih =>
   intro j;simp only [Th,List.find?_cons];by_cases e:x=k
   ·subst e;simp
   ·have hb:(x==k)=false:=beq_eq_false_iff_ne.2 e;rw [hb];simp only [ih,List.mem_cons,List.idxOf_cons,hb,cond_false];by_cases hm:k∈l
    ·rw [if_pos hm,if_pos (.inr hm)];congr 4;omega
    ·rw [if_neg hm,if_neg (by rintro (h|h);exact e h.symm;exact hm h)]
theorem X3 {l:List Pr}{k:Pr}(h:k∉l):(XQ l).findIdx? (fun e=>e.1==k)=none:=by
 have h1:=@PO k l 0;rw [if_neg h] at h1;rw [List.findIdx?_eq_none_iff];rw [List.find?_eq_none] at h1;intro x hx;have:=h1 x hx;simpa using this
theorem Acl {l:List Pr}{k:Pr}{z:AV}:Y1 (XQ l) k z=if k∈l then I (l.idxOf k:Nat) else z:=by
 unfold Y1 XQ;rw [PO];by_cases h:k∈l
 ·rw [if_pos h,if_pos h];simp
 ·rw [if_neg h,if_neg h]
theorem XP {l:List Pr}{k:Pr}:Adq (XQ l) k=decide (k∈l):=by
 by_cases h:k∈l
 ·rw [decide_eq_true h];have h1:=@PO k l 0;rw [if_pos h] at h1;exact List.any_eq_true.2 ⟨_,List.mem_of_find?_eq_some h1,by simp⟩
 ·rw [decide_eq_false h,PF,X3 h];rfl
theorem Aez {k:Pr}:∀ {l:List Pr}{j:Nat},Th (l++[k]) j=Th l j++[(k,I ((j+l.length:Nat)))]:=by
 intro l;induction l with
 | nil=>intro j;simp [Th]
 | cons x l ih =>
   intro j;simp only [List.cons_append,Th,ih,List.length_cons];rw [show j+1+l.length=j+(l.length+1) by omega]
theorem X4 {l:List Pr}{k:Pr}(h:k∉l):putM (XQ l) k (I (l.length:Nat))=XQ (l++[k]):=by
 unfold putM;rw [RT (X3 h)];unfold XQ;rw [Aez,Nat.zero_add]
section
variable {Gd:Pr→Prop}{n:Nat}{sets:Pr→List Int}{nx:Pr→Nat→Pr}
structure CX (Gd:Pr→Prop)(n:Nat)(go:Nat→Prop)(nx:Nat→Pr)(l0:List Pr)(a:Nat)(l:List Pr)(X:List Int):Prop where
 pre:l0 <+: l
 nd:l.Nodup
 good:∀q∈l,Gd q
 xl:X.length=n
 u:∀b<n,b<a→go b→0≤X[b]!∧X[b]!.toNat<l.length∧l[X[b]!.toNat]! = nx b
 r:∀b<n,(a≤b∨¬go b)→X[b]! = -1
variable {go:Nat→Prop}{nxt:Nat→Pr}{l0 l:List Pr}{X:List Int}{a:Nat}
theorem CX.start (hn:l0.Nodup)(hg:∀q∈l0,Gd q):CX Gd n go nxt l0 0 l0 (List.replicate n (-1)) :=
 ⟨List.prefix_refl _,hn,hg,by simp,fun b _ h=>by omega,fun b hb _=>by rw [getElem!_pos _ b (by simpa using hb)];simp⟩
theorem CX.skip (h:CX Gd n go nxt l0 a l X)(hu:¬go a):CX Gd n go nxt l0 (a+1) l X :=
 ⟨h.pre,h.nd,h.good,h.xl,fun b hb hba hub=>h.u b hb (by rcases Nat.lt_or_eq_of_le (Nat.le_of_lt_succ hba) with h1|rfl;exact h1;exact absurd hub hu) hub,
  fun b hb hc=>h.r b hb (by
   rcases hc with hc|hc
   ·exact .inl (by omega)
   ·exact .inr hc)⟩
theorem idx_getP {l:List Pr}{k:Pr}(h:k∈l):l.idxOf k<l.length∧l[l.idxOf k]! = k:=by
 have hl:=List.idxOf_lt_length_of_mem h;exact ⟨hl,by rw [getElem!_pos l _ hl,List.getElem_idxOf]⟩
theorem CX.put (h:CX Gd n go nxt l0 a l X)(ha:a<n){l':List Pr}{k:Nat}(hp:l <+: l')(hn:l'.Nodup)(hg:∀q∈l',Gd q)(hk:k<l'.length)(he:l'[k]! = nxt a)(hu:go a):CX Gd n go nxt l0 (a+1) l' (X.set a (k:Int)):=by
 have hxl:=h.xl;have hs:∀b,(X.set a (k:Int))[b]! = if a=b then (k:Int) else X[b]!:=fun b=>Ab2 (by omega);refine ⟨h.pre.trans hp,hn,hg,by rw [List.length_set];exact hxl,fun b hb hba hub=>?_,fun b hb hc=>?_⟩
 ·rw [hs];by_cases e:a=b
  ·subst e;rw [if_pos rfl,Int.toNat_natCast];exact ⟨by omega,hk,he⟩
  ·rw [if_neg e];obtain ⟨h1,h2,h3⟩:=h.u b hb (by omega) hub;exact ⟨h1,Nat.lt_of_lt_of_le h2 hp.length_le,by rw [LX hp h2];exact h3⟩
 ·rw [hs];by_cases e:a=b
  ·subst e;rcases hc with hc|hc
   ·omega
   ·exact absurd hu hc
  ·rw [if_neg e];refine h.r b hb ?_;rcases hc with hc|hc
   ·exact .inl (by omega)
   ·exact .inr hc
theorem nodup_snoc {l:List Pr}{k:Pr}(hn:l.Nodup)(hk:k∉l):(l++[k]).Nodup:=by
 rw [List.nodup_append];exact ⟨hn,by simp,fun a ha b hb e=>by rw [List.mem_singleton] at hb;subst hb;exact hk (e▸ha)⟩
theorem CX.old (h:CX Gd n go nxt l0 a l X)(ha:a<n)(hu:go a)(hm:nxt a∈l):CX Gd n go nxt l0 (a+1) l (X.set a (l.idxOf (nxt a):Nat)) :=
 h.put ha (List.prefix_refl _) h.nd h.good (idx_getP hm).1 (idx_getP hm).2 hu
theorem CX.new (h:CX Gd n go nxt l0 a l X)(ha:a<n)(hu:go a)(hg:Gd (nxt a))(hm:nxt a∉l):CX Gd n go nxt l0 (a+1) (l++[nxt a]) (X.set a (l.length:Nat)) :=
 h.put ha (List.prefix_append _ _) (nodup_snoc h.nd hm) (fun q hq=>by
  rw [List.mem_append,List.mem_singleton] at hq;rcases hq with hq|rfl
  ·exact h.good q hq
  ·exact hg) (by simp) (by rw [getElem!_pos _ _ (by simp)];simp) hu
structure CI (Gd:Pr→Prop)(n:Nat)(sets:Pr→List Int)(nx:Pr→Nat→Pr)(go:Pr→Nat→Prop)(i:Nat)(l:List Pr)(outs:List Stt):Prop where
 len:outs.length=i
 il:i≤l.length
 z:l[0]? = some (0,0)
 nd:l.Nodup
 good:∀q∈l,Gd q
 a:∀j<i,outs[j]!.A=sets l[j]!
 xl:∀j<i,outs[j]!.X.length=n
 xg:∀j<i,∀b<n,go l[j]! b→0≤outs[j]!.X[b]!∧outs[j]!.X[b]!.toNat<l.length∧l[outs[j]!.X[b]!.toNat]! = nx l[j]! b
 xn:∀j<i,∀b<n,¬go l[j]! b→outs[j]!.X[b]! = -1
variable {goP:Pr→Nat→Prop}{i:Nat}{outs:List Stt}
theorem CI.start (h0:Gd (0,0)):CI Gd n sets nx goP 0 [(0,0)] [] :=
 ⟨rfl,by simp,rfl,by simp,fun q hq=>by rw [List.mem_singleton] at hq;rw [hq];exact h0,fun j h=>by omega,fun j h=>by omega,fun j h=>by omega,fun j h=>by omega⟩
theorem OL {α:Type}[Inhabited α]{l:List α}{x:α}{j:Nat}:(l++[x])[j]! = if j=l.length then x else l[j]!:=by
 by_cases h:j<l.length
 ·rw [if_neg (by omega),getElem!_pos _ j (by simp;omega),getElem!_pos l j h,List.getElem_append_left h]
 ·by_cases e:j=l.length
  ·subst e;rw [if_pos rfl,getElem!_pos _ _ (by simp)];simp
  ·rw [if_neg e,List.getElem!_eq_getElem?_getD,List.getElem!_eq_getElem?_getD,List.getElem?_eq_none (by simp;omega),List.getElem?_eq_none (by omega)]
theorem CI.next (h:CI Gd n sets nx goP i l0 outs)(hi:i<l0.length){a:Nat}(hna:∀b<n,a≤b→¬goP l0[i]! b)(hx:CX Gd n (goP l0[i]!) (nx l0[i]!) l0 a l X):CI Gd n sets nx goP (i+1) l (outs++[⟨sets l0[i]!,X⟩]):=by
 have hl:=h.len;have hpl:=hx.pre.length_le;have hg:∀j≤i,l[j]! = l0[j]!:=fun j hj=>LX hx.pre (by omega);refine ⟨by simp [hl],by omega,?_,hx.nd,hx.good,fun j hj=>?_,fun j hj=>?_,fun j hj b hb hgo=>?_,fun j hj b hb hgo=>?_⟩
 ·obtain ⟨r,hr⟩:=hx.pre;rw [←hr,List.getElem?_append_left (by omega)];exact h.z
 ·rw [OL,hl];by_cases e:j=i
  ·subst e;rw [if_pos rfl,hg j (Nat.le_refl _)]
  ·rw [if_neg e,hg j (by omega)];exact h.a j (by omega)
 ·rw [OL,hl];by_cases e:j=i
  ·subst e;rw [if_pos rfl];exact hx.xl
  ·rw [if_neg e];exact h.xl j (by omega)
 ·rw [OL,hl];rw [hg j (by omega)] at hgo ⊢;by_cases e:j=i
  ·subst e;rw [if_pos rfl];exact hx.u b hb (Classical.byContradiction fun hc=>hna b hb (by omega) hgo) hgo
  ·rw [if_neg e];obtain ⟨h1,h2,h3⟩:=h.xg j (by omega) b hb hgo;exact ⟨h1,by omega,by rw [LX hx.pre h2];exact h3⟩
 ·rw [OL,hl];rw [hg j (by omega)] at hgo;by_cases e:j=i
  ·subst e;rw [if_pos rfl];exact hx.r b hb (.inr hgo)
  ·rw [if_neg e];exact h.xn j (by omega) b hb hgo
theorem CI.fin (h:CI Gd n sets nx goP i l outs)(hi:i=l.length){acts:List ByteArray}(ha:acts.length=n)(hris:∀p,Gd p→(sets p).Pairwise (· < ·)):PS Gd acts (fun p v=>v∈sets p) nx goP ⟨acts,outs⟩ l:=by
 subst hi;subst ha;exact ⟨rfl,h.len,h.z,h.nd,h.good,fun i hi v=>by rw [h.a i hi],fun i hi=>by rw [h.a i hi];exact hris _ (h.good _ (AI hi)),h.xl,h.xg,h.xn⟩
end
end Go.Mw
