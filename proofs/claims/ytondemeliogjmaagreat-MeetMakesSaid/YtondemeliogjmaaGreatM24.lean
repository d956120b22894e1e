/- Sorting rows of numbers: heaps. -/
import Derived.Test.YtondemeliogjmaaGreatM23
set_option linter.unusedVariables false
set_option linter.unusedSimpArgs false
namespace Go.Mw
set_option maxRecDepth 100000
theorem siftI_ok {l:List Int}{lo hi f:Nat}(hb:f+hi≤l.length)(hl:l.length≤1000000)(hlo:lo≤1000000)(hp:Hp ltI l f (lo+1) hi){t:List AV}{lp:List Lp}{H:List Ob}{r st ss s0 bs:Nat}{K:AV→St→Prop}{L:Nat}(hL:l.length=L)(hr:r<H.length)
 (hK:∀l',SegP l l' f (f+hi)→Hp ltI l' f lo hi→K (.tup []) ⟨t,dh H r st ss l',lp⟩):AM G Au [.sl r st [] s0 0 L,I lo,I hi,I f] bs [] ⟨t,dh H r st ss l,lp⟩ K:=by
 subst hL;refine A5 EU rfl ?_;rw [AI (by simp)];simp only [go_sem,↓reduceIte,↓Aa,Cx];refine Ac (fun (i:Nat) σ=>lo≤i∧i≤2000002∧∃m,SegP l m f (f+hi)∧HpX ltI m f lo hi i∧σ=⟨aT .undef 76 [(0,.sl r st [] s0 0 l.length),(2,I hi),(3,I f),(8,I i)],dh H r st ss m,lp⟩) (fun i=>hi-i) ?_ lo ?_
 ·rintro i σ ⟨hi1,hi2,m,hm,hx,rfl⟩ N Q hQ hN;have hml:=hm.len;have w1:IntKind.i64.wrap ((2:Int)*(i:Int))=((2*i:Nat):Int):=by rw [Ak]<;>omega
  have w2:IntKind.i64.wrap (((2*i:Nat):Int)+1)=((2*i+1:Nat):Int):=by rw [Ak]<;>omega
  have w2':IntKind.i64.wrap (((2*i+1:Nat):Int)+1)=((2*i+2:Nat):Int):=by rw [Ak]<;>omega
  by_cases hc:2*i+1<hi
  ·have w3:IntKind.i64.wrap ((f:Int)+((2*i+1:Nat):Int))=((f+(2*i+1):Nat):Int):=by rw [Ak]<;>omega
   have w4:IntKind.i64.wrap (((f+(2*i+1):Nat):Int)+1)=((f+(2*i+2):Nat):Int):=by rw [Ak]<;>omega
   have w5:IntKind.i64.wrap ((f:Int)+(i:Int))=((f+i:Nat):Int):=by rw [Ak]<;>omega
   have w6:IntKind.i64.wrap ((f:Int)+((2*i+2:Nat):Int))=((f+(2*i+2):Nat):Int):=by rw [Ak]<;>omega
   have hni:¬hi≤2*i+1:=by omega
   have b1:f+(2*i+1)<l.length:=by omega
   have b2:f+i<l.length:=by omega
   have b1':f+(2*i+1)<m.length:=by omega
   have b2':f+i<m.length:=by omega
   have go:∀c,(c=2*i+1∨c=2*i+2)→c<hi→(∀d,(d=2*i+1∨d=2*i+2)→d<hi→ltI m[f+c]! m[f+d]! = false)→(m[f+i]! < m[f+c]!→HpX ltI (sw m (f+i) (f+c)) f lo hi c∧SegP l (sw m (f+i) (f+c)) f (f+hi))∧(¬m[f+i]! < m[f+c]!→Hp ltI m f lo hi):=by
    intro c h1 h2 h3;refine ⟨fun h4=>⟨hx.step to_ltI hi1 h1 h2 (by omega) h3 (by unfold ltI;rw [decide_eq_true_eq];exact h4),hm.tr (sw_seg (by omega) (by omega) (by omega) (by omega) (by omega) (by omega))⟩,fun h4=>hx.fin to_ltI h1 h3 (by unfold ltI;rw [decide_eq_false_iff_not];exact h4)⟩
   by_cases hc2:2*i+2<hi
   ·have b3:f+(2*i+2)<l.length:=by omega
    have b3':f+(2*i+2)<m.length:=by omega
    by_cases hlt:m[f+(2*i+1)]! < m[f+(2*i+2)]!
    ·obtain ⟨g1,g2⟩:=go (2*i+2) (.inr rfl) hc2 (by
      rintro d (rfl|rfl) hd
      ·unfold ltI;rw [decide_eq_false_iff_not];omega
      ·exact to_ltI.refl)
     simp only [go_sem,↓reduceIte,↓Aa,w1,w2,w2',w3,w4,w5,w6,Int.ofNat_le,Int.ofNat_lt,hni,hc2,b1,b2,b3,b1',b2',b3',AB hr,hlt];refine ⟨fun h4=>?_,fun h4=>⟨by simpa using b3',hN (2*i+2) _ (by omega) ⟨by omega,by omega,_,(g1 h4).2,(g1 h4).1,?_⟩⟩⟩
     ·subst hQ;simp only [go_sem,↓reduceIte,↓Aa];exact hK m hm (g2 h4)
     ·simp only [go_sem,↓reduceIte,↓Aa,sw]
    ·obtain ⟨g1,g2⟩:=go (2*i+1) (.inl rfl) hc (by
      rintro d (rfl|rfl) hd
      ·exact to_ltI.refl
      ·unfold ltI;rw [decide_eq_false_iff_not];exact hlt)
     simp only [go_sem,↓reduceIte,↓Aa,w1,w2,w2',w3,w4,w5,w6,Int.ofNat_le,Int.ofNat_lt,hni,hc2,b1,b2,b3,b1',b2',b3',AB hr,hlt];refine ⟨fun h4=>?_,fun h4=>⟨by simpa using b1',hN (2*i+1) _ (by omega) ⟨by omega,by omega,_,(g1 h4).2,(g1 h4).1,?_⟩⟩⟩
     ·subst hQ;simp only [go_sem,↓reduceIte,↓Aa];exact hK m hm (g2 h4)
     ·simp only [go_sem,↓reduceIte,↓Aa,sw]
   ·obtain ⟨g1,g2⟩:=go (2*i+1) (.inl rfl) hc (by
     rintro d (rfl|rfl) hd
     ·exact to_ltI.refl
     ·omega)
    simp only [go_sem,↓reduceIte,↓Aa,w1,w2,w2',w3,w4,w5,w6,Int.ofNat_le,Int.ofNat_lt,hni,hc2,b1,b2,b1',b2',AB hr];refine ⟨fun h4=>?_,fun h4=>⟨by simpa using b1',hN (2*i+1) _ (by omega) ⟨by omega,by omega,_,(g1 h4).2,(g1 h4).1,?_⟩⟩⟩
    ·subst hQ;simp only [go_sem,↓reduceIte,↓Aa];exact hK m hm (g2 h4)
    ·simp only [go_sem,↓reduceIte,↓Aa,sw]
  ·have hni:hi≤2*i+1:=by omega
   subst hQ;simp only [go_sem,↓reduceIte,↓Aa,w1,w2,Int.ofNat_le,hni];exact hK m hm (hx.leaf (by omega))
 ·refine ⟨Nat.le_refl _,by omega,l,SegP.refl,HpX.start hp,?_⟩;simp only [go_sem,↓reduceIte,↓Aa]
theorem AgP {n:Nat}(h:n≤1000000):IntKind.i64.wrap (((n:Nat):Int).tdiv 2)=((n / 2:Nat):Int):=by
 have:((n:Nat):Int).tdiv 2=((n / 2:Nat):Int):=by
  rw [Int.tdiv_eq_ediv_of_nonneg (by omega)];omega
 rw [this,Ak]<;>omega
def Suf (l:List Int)(a k n:Nat):Prop:=∀p q,p<q→k≤q→q<n→ltI l[a+q]! l[a+p]! = false
theorem Suf.step {m m':List Int}{a i n:Nat}(hlen:a+n≤m.length)(hi:i<n)(hs:Suf m a (i+1) n)(hp:Hp ltI m a 0 (i+1))(hm:SegP (sw m a (a+i)) m' a (a+i)):Suf m' a i n:=by
 have ha:a<m.length:=by omega
 have hai:a+i<m.length:=by omega
 have hg:∀j,(sw m a (a+i))[a+j]! = if j=i then m[a]! else if j=0 then m[a+i]! else m[a+j]!:=fun j=>by
  rw [sw_get ha hai];by_cases e1:j=i
  ·rw [if_pos (by omega),if_pos e1]
  ·rw [if_neg (by omega),if_neg e1];by_cases e2:j=0
   ·rw [if_pos (by omega),if_pos e2]
   ·rw [if_neg (by omega),if_neg e2]
 have htop:=fun j (hj:j<i+1)=>Hp.top to_ltI hp j j (Nat.le_refl _) hj;intro p q h1 h2 h3;rw [hm.out (a+q) (by omega),hg];by_cases e1:q=i
 ·rw [if_pos e1];refine hm.all (fun x=>ltI m[a]! x=false) (fun j hj1 hj2=>?_) (a+p) (by omega) (by omega);obtain ⟨d,rfl⟩:∃d,j=a+d:=⟨j-a,by omega⟩;rw [hg,if_neg (by omega)];split
  ·exact htop i (by omega)
  ·exact htop d (by omega)
 ·rw [if_neg e1,if_neg (by omega)];by_cases e2:p<i
  ·refine hm.all (fun x=>ltI m[a+q]! x=false) (fun j hj1 hj2=>?_) (a+p) (by omega) (by omega);obtain ⟨d,rfl⟩:∃d,j=a+d:=⟨j-a,by omega⟩;rw [hg,if_neg (by omega)];split
   ·exact hs i q (by omega) (by omega) h3
   ·exact hs d q (by omega) (by omega) h3
  ·rw [hm.out (a+p) (by omega),hg];by_cases e3:p=i
   ·rw [if_pos e3];exact hs 0 q (by omega) (by omega) h3
   ·rw [if_neg e3,if_neg (by omega)];exact hs p q h1 (by omega) h3
theorem AcA {l:List Int}{a b:Nat}(hab:a<b)(hb:b≤l.length)(hl:l.length≤1000000){t:List AV}{lp:List Lp}{H:List Ob}{r st ss s0 bs:Nat}{K:AV→St→Prop}{L:Nat}(hL:l.length=L)(hr:r<H.length)
 (hK:∀l',SegP l l' a b→Srt ltI l' a b→K (.tup []) ⟨t,dh H r st ss l',lp⟩):AM G AO [.sl r st [] s0 0 L,I a,I b] bs [] ⟨t,dh H r st ss l,lp⟩ K:=by
 subst hL;refine A5 EZ rfl ?_;rw [AI (by simp)];obtain ⟨n,hn⟩:∃n,b=a+n:=⟨b-a,by omega⟩;have w1:IntKind.i64.wrap ((b:Int)-(a:Int))=(n:Int):=by rw [Ak]<;>omega
 have w2:IntKind.i64.wrap ((n:Int)-1)=((n-1:Nat):Int):=by rw [Ak]<;>omega
 simp only [go_sem,↓reduceIte,↓Aa,Cv,w1,w2,AgP (show n-1≤1000000 by omega)];refine Ac (fun (k:Nat) σ=>k≤n∧∃m,SegP l m a b∧Hp ltI m a k n∧σ=⟨aT .undef 56 [(0,.sl r st [] s0 0 l.length),(6,I a),(7,I 0),(8,I n),(9,I ((k:Int)-1))],dh H r st ss m,lp⟩) (fun k=>k) ?_ ((n-1) / 2+1) ?_
 ·rintro k σ ⟨hkn,m,hm,hp,rfl⟩ N Q hQ hN;have hml:=hm.len;by_cases hk:0<k
  ·have e1:((k:Int)-1)=((k-1:Nat):Int):=by omega
   have w3:IntKind.i64.wrap (((k-1:Nat):Int)-1)=((k-1:Nat):Int)-1:=by rw [Ak]<;>omega
   rw [←hml,e1];simp only [go_sem,↓reduceIte,↓Aa,Int.natCast_nonneg,w3];refine siftI_ok (l:=m) (lo:=k-1) (hi:=n) (f:=a) (by omega) (by omega) (by omega) (by rw [show k-1+1=k by omega];exact hp) rfl hr (fun m' hm' hp'=>?_);simp only [go_sem,↓reduceIte,↓Aa,w3];refine hN (k-1) _ (by omega) ⟨by omega,m',hm.tr (by rw [hn];exact hm'),hp',?_⟩;simp only [go_sem,↓reduceIte,↓Aa,hml]
  ·have hk0:k=0:=by omega
   subst hk0 hQ;have hneg:¬(0:Int)≤((0:Nat):Int)-1:=by omega
   simp only [go_sem,↓reduceIte,↓Aa,hneg,w2];refine Ac (fun (k:Nat) σ=>k≤n∧∃m,SegP l m a b∧Hp ltI m a 0 k∧Suf m a k n∧σ=⟨aT .undef 56 [(0,.sl r st [] s0 0 l.length),(6,I a),(7,I 0),(10,I ((k:Int)-1))],dh H r st ss m,lp⟩) (fun k=>k) ?_ n ?_
   ·rintro k σ ⟨hkn,m,hm,hp,hsf,rfl⟩ N2 Q2 hQ2 hN2;have hml:=hm.len;by_cases hk:0<k
    ·have e1:((k:Int)-1)=((k-1:Nat):Int):=by omega
     have w3:IntKind.i64.wrap (((k-1:Nat):Int)-1)=((k-1:Nat):Int)-1:=by rw [Ak]<;>omega
     have w4:IntKind.i64.wrap ((a:Int)+((k-1:Nat):Int))=((a+(k-1):Nat):Int):=by rw [Ak]<;>omega
     have b1:a<m.length:=by omega
     have b2:a+(k-1)<m.length:=by omega
     rw [←hml,e1];simp only [go_sem,↓reduceIte,↓Aa,Int.natCast_nonneg,Int.ofNat_lt,w3,w4,b1,b2,AB hr];refine ⟨by simpa using b2,?_⟩;have hsw:=@sw_get Int _ m a (a+(k-1));refine siftI_ok (l:=sw m a (a+(k-1))) (lo:=0) (hi:=k-1) (f:=a) (by rw [sw_len];omega) (by rw [sw_len];omega) (by omega) (fun p c h1 h2 h3=>?_) sw_len hr (fun m' hm' hp'=>?_)
     ·rw [hsw b1 b2,hsw b1 b2,if_neg (by omega),if_neg (by omega),if_neg (by omega),if_neg (by omega)];exact hp p c (by omega) h2 (by omega)
     ·simp only [go_sem,↓reduceIte,↓Aa,w3];refine hN2 (k-1) _ (by omega) ⟨by omega,m',hm.tr ((sw_seg b1 b2 (Nat.le_refl _) (by omega) (by omega) (by omega)).tr (hm'.wide (Nat.le_refl _) (by omega))),hp',Suf.step (by omega) (by omega) (by rw [show k-1+1=k by omega];exact hsf) (by rw [show k-1+1=k by omega];exact hp) hm',?_⟩;simp only [go_sem,↓reduceIte,↓Aa,hml]
    ·have hk0:k=0:=by omega
     subst hk0 hQ2;have hneg:¬(0:Int)≤((0:Nat):Int)-1:=by omega
     simp only [go_sem,↓reduceIte,↓Aa,hneg];refine hK m hm (fun i j h1 h2 h3=>?_);have:=hsf (i-a) (j-a) (by omega) (by omega) (by omega);rwa [show a+(j-a)=j by omega,show a+(i-a)=i by omega] at this
   ·refine ⟨Nat.le_refl _,m,hm,hp,fun p q h1 h2 h3=>by omega,?_⟩;simp only [go_sem,↓reduceIte,↓Aa];rw [show ((n-1:Nat):Int)=(n:Int)-1 by omega]
 ·refine ⟨by omega,l,SegP.refl,fun p c h1 h2 h3=>by omega,?_⟩;simp only [go_sem,↓reduceIte,↓Aa];rw [show (((n-1) / 2:Nat):Int)=(((n-1) / 2+1:Nat):Int)-1 by omega]
structure PInv (l m:List Int)(a b i j:Nat):Prop where
 seg:SegP l m a b
 ai:a+1≤i
 ij:i≤j+1
 jb:j<b
 aj:a≤j
 lo:∀k,a+1≤k→k<i→ltI m[k]! m[a]! = true
 hi:∀k,j<k→k<b→ltI m[k]! m[a]! = false
structure PPost (l m:List Int)(a b j:Nat):Prop where
 seg:SegP l m a b
 aj:a≤j
 jb:j<b
 lo:∀k,a≤k→k<j→ltI m[k]! m[j]! = true
 hi:∀k,j<k→k<b→ltI m[k]! m[j]! = false
theorem PInv.up {l m:List Int}{a b i j:Nat}(h:PInv l m a b i j)(hij:i≤j)(hlt:m[i]! < m[a]!):PInv l m a b (i+1) j :=
 ⟨h.seg,by have:=h.ai;omega,by omega,h.jb,h.aj,fun k h1 h2=>by
  by_cases e:k=i
  ·rw [e];unfold ltI;rw [decide_eq_true_eq];exact hlt
  ·exact h.lo k h1 (by omega),h.hi⟩
theorem PInv.down {l m:List Int}{a b i j:Nat}(h:PInv l m a b i j)(hij:i≤j)(hge:¬m[j]! < m[a]!):PInv l m a b i (j-1) :=
 ⟨h.seg,h.ai,by omega,by have:=h.jb;omega,by have:=h.ai;omega,h.lo,fun k h1 h2=>by
  by_cases e:k=j
  ·rw [e];unfold ltI;rw [decide_eq_false_iff_not];exact hge
  ·exact h.hi k (by omega) h2⟩
theorem PInv.swap {l m:List Int}{a b i j:Nat}(hbl:b≤l.length)(h:PInv l m a b i j)(hij:i≤j)(hge:¬m[i]! < m[a]!)(hlt:m[j]! < m[a]!):PInv l (sw m i j) a b (i+1) (j-1):=by
 have hml:=h.seg.len;have h1:=h.ai;have h2:=h.jb;have hne:i≠j:=fun e=>hge (by rw [e];exact hlt);have hi':i<m.length:=by omega
 have hj':j<m.length:=by omega
 have hg:=@sw_get Int _ m i j;refine ⟨h.seg.tr (sw_seg hi' hj' (by omega) (by omega) (by omega) (by omega)),by omega,by omega,by omega,by omega,fun k h3 h4=>?_,fun k h3 h4=>?_⟩
 ·rw [hg hi' hj',hg hi' hj',if_neg (show ¬k=j by omega),if_neg (show ¬a=j by omega),if_neg (show ¬a=i by omega)];by_cases e:k=i
  ·rw [if_pos e];unfold ltI;rw [decide_eq_true_eq];exact hlt
  ·rw [if_neg e];exact h.lo k h3 (by omega)
 ·rw [hg hi' hj',hg hi' hj',if_neg (show ¬a=j by omega),if_neg (show ¬a=i by omega)];by_cases e:k=j
  ·rw [if_pos e];unfold ltI;rw [decide_eq_false_iff_not];exact hge
  ·rw [if_neg e,if_neg (by omega)];exact h.hi k (by omega) h4
theorem PInv.fin {l m:List Int}{a b i j:Nat}(hbl:b≤l.length)(h:PInv l m a b i j)(hij:¬i≤j):PPost l (sw m j a) a b j:=by
 have hml:=h.seg.len;have h1:=h.ai;have h2:=h.jb;have h3:=h.aj;have h4:=h.ij;have ha':a<m.length:=by omega
 have hj':j<m.length:=by omega
 have hg:=@sw_get Int _ m j a;refine ⟨h.seg.tr (sw_seg hj' ha' (by omega) (by omega) (by omega) (by omega)),h3,h2,fun k h5 h6=>?_,fun k h5 h6=>?_⟩
 ·rw [hg hj' ha',hg hj' ha',if_neg (show ¬j=a by omega),if_pos rfl];by_cases e:k=a
  ·rw [if_pos e];exact h.lo j (by omega) (by omega)
  ·rw [if_neg e,if_neg (by omega)];exact h.lo k (by omega) (by omega)
 ·rw [hg hj' ha',hg hj' ha',if_neg (show ¬k=a by omega),if_neg (show ¬k=j by omega)];by_cases e:j=a
  ·rw [if_pos e,e];exact h.hi k h5 h6
  ·rw [if_neg e,if_pos rfl];exact h.hi k h5 h6
theorem PInv.start {l:List Int}{a b p:Nat}(hbl:b≤l.length)(h1:a≤p)(h2:p<b):PInv l (sw l a p) a b (a+1) (b-1) :=
 ⟨sw_seg (by omega) (by omega) (Nat.le_refl _) (by omega) h1 h2,Nat.le_refl _,by omega,by omega,by omega,fun k h3 h4=>by omega,fun k h3 h4=>by omega⟩
theorem Aga {l m:List Int}{a b i j L:Nat}(hL:l.length=L)(hb:b≤l.length)(hl:l.length≤1000000){r st ss s0:Nat}{H:List Ob}{lp:List Lp}(hr:r<H.length)(hp:PInv l m a b i j){z:Nat}(hz:z=i){d:AV}{A:List (Nat×AV)}(hA:(AA d 0 A = .sl r st [] s0 0 L∧AA d 1 A=I a∧AA d 10 A=I i∧AA d 11 A=I j)){B:Nat} :
 Wp G B8 B ⟨aT d 168 A,dh H r st ss m,lp⟩ (fun e σ=>e = .ext 0∧∃(i:Nat) (A:List (Nat×AV)),z≤i∧PInv l m a b i j∧(i≤j→¬m[i]! < m[a]!)∧(AA .undef 0 A = .sl r st [] s0 0 L∧AA .undef 1 A=I a∧AA .undef 10 A=I i∧AA .undef 11 A=I j)∧σ=⟨aT .undef 168 A,dh H r st ss m,lp⟩):=by
 subst hL;obtain ⟨h0,h1,h2,h3⟩:=hA;have hle:z≤i:=by omega
 refine Ac (fun (i:Nat) σ=>z≤i∧PInv l m a b i j∧σ=⟨aT .undef 168 [(0,.sl r st [] s0 0 l.length),(1,I a),(10,I i),(11,I j)],dh H r st ss m,lp⟩) (fun i=>j+1-i) ?_ i ?_
 ·rintro i σ ⟨hzx,hp,rfl⟩ N Q hQ hN;have b0:=hp.ai;have b1:=hp.ij;have b2:=hp.jb;have b3:=hp.aj;have hml:=hp.seg.len;have b4:a<l.length:=by omega
  have b4':a<m.length:=by omega
  by_cases hij:i≤j
  ·have b5:i<l.length:=by omega
   have b5':i<m.length:=by omega
   have w1:IntKind.i64.wrap ((i:Int)+1)=((i+1:Nat):Int):=by rw [Ak]<;>omega
   by_cases hlt:m[i]! < m[a]!
   ·simp only [go_sem,↓reduceIte,↓Aa,Int.ofNat_le,Int.ofNat_lt,hij,b4,b4',b5,b5',AB hr,hlt,w1];refine hN (i+1) _ (by omega) ⟨by omega,hp.up hij hlt,?_⟩;simp only [go_sem,↓reduceIte,↓Aa]
   ·subst hQ;simp only [go_sem,↓reduceIte,↓Aa,Int.ofNat_le,Int.ofNat_lt,hij,b4,b4',b5,b5',AB hr,hlt];exact ⟨i,_,hzx,hp,fun _=>hlt,by simp only [go_sem,↓reduceIte,↓Aa],rfl⟩
  ·subst hQ;simp only [go_sem,↓reduceIte,↓Aa,Int.ofNat_le,hij];exact ⟨i,_,hzx,hp,fun h=>absurd h hij,by simp only [go_sem,↓reduceIte,↓Aa],rfl⟩
 ·refine ⟨hle,hp,?_⟩;simp only [go_sem,↓reduceIte,↓Aa,h0,h1,h2,h3]
theorem Afy {l m:List Int}{a b i j L:Nat}(hL:l.length=L)(hb:b≤l.length)(hl:l.length≤1000000){r st ss s0:Nat}{H:List Ob}{lp:List Lp}(hr:r<H.length)(hp:PInv l m a b i j){z:Nat}(hz:z=i){d:AV}{A:List (Nat×AV)}(hA:(AA d 0 A = .sl r st [] s0 0 L∧AA d 1 A=I a∧AA d 10 A=I i∧AA d 11 A=I j)){B:Nat} :
 Wp G B6 B ⟨aT d 168 A,dh H r st ss m,lp⟩ (fun e σ=>e = .ext 6∧∃(i:Nat) (A:List (Nat×AV)),z≤i∧PInv l m a b i j∧(i≤j→¬m[i]! < m[a]!)∧(AA .undef 0 A = .sl r st [] s0 0 L∧AA .undef 1 A=I a∧AA .undef 10 A=I i∧AA .undef 11 A=I j)∧σ=⟨aT .undef 168 A,dh H r st ss m,lp⟩):=by
 subst hL;obtain ⟨h0,h1,h2,h3⟩:=hA;have hle:z≤i:=by omega
 refine Ac (fun (i:Nat) σ=>z≤i∧PInv l m a b i j∧σ=⟨aT .undef 168 [(0,.sl r st [] s0 0 l.length),(1,I a),(10,I i),(11,I j)],dh H r st ss m,lp⟩) (fun i=>j+1-i) ?_ i ?_
 ·rintro i σ ⟨hzx,hp,rfl⟩ N Q hQ hN;have b0:=hp.ai;have b1:=hp.ij;have b2:=hp.jb;have b3:=hp.aj;have hml:=hp.seg.len;have b4:a<l.length:=by omega
  have b4':a<m.length:=by omega
  by_cases hij:i≤j
  ·have b5:i<l.length:=by omega
   have b5':i<m.length:=by omega
   have w1:IntKind.i64.wrap ((i:Int)+1)=((i+1:Nat):Int):=by rw [Ak]<;>omega
   by_cases hlt:m[i]! < m[a]!
   ·simp only [go_sem,↓reduceIte,↓Aa,Int.ofNat_le,Int.ofNat_lt,hij,b4,b4',b5,b5',AB hr,hlt,w1];refine hN (i+1) _ (by omega) ⟨by omega,hp.up hij hlt,?_⟩;simp only [go_sem,↓reduceIte,↓Aa]
   ·subst hQ;simp only [go_sem,↓reduceIte,↓Aa,Int.ofNat_le,Int.ofNat_lt,hij,b4,b4',b5,b5',AB hr,hlt];exact ⟨i,_,hzx,hp,fun _=>hlt,by simp only [go_sem,↓reduceIte,↓Aa],rfl⟩
  ·subst hQ;simp only [go_sem,↓reduceIte,↓Aa,Int.ofNat_le,hij];exact ⟨i,_,hzx,hp,fun h=>absurd h hij,by simp only [go_sem,↓reduceIte,↓Aa],rfl⟩
 ·refine ⟨hle,hp,?_⟩;simp only [go_sem,↓reduceIte,↓Aa,h0,h1,h2,h3]
theorem Afu {l m:List Int}{a b i j L:Nat}(hL:l.length=L)(hb:b≤l.length)(hl:l.length≤1000000){r st ss s0:Nat}{H:List Ob}{lp:List Lp}(hr:r<H.length)(hp:PInv l m a b i j){z:Nat}(hz:z=j){d:AV}{A:List (Nat×AV)}(hA:(AA d 0 A = .sl r st [] s0 0 L∧AA d 1 A=I a∧AA d 10 A=I i∧AA d 11 A=I j)){B:Nat} :
 Wp G B7 B ⟨aT d 168 A,dh H r st ss m,lp⟩ (fun e σ=>e = .ext 2∧∃(j:Nat) (A:List (Nat×AV)),j≤z∧PInv l m a b i j∧(i≤j→m[j]! < m[a]!)∧(AA .undef 0 A = .sl r st [] s0 0 L∧AA .undef 1 A=I a∧AA .undef 10 A=I i∧AA .undef 11 A=I j)∧σ=⟨aT .undef 168 A,dh H r st ss m,lp⟩):=by
 subst hL;obtain ⟨h0,h1,h2,h3⟩:=hA;have hle:j≤z:=by omega
 refine Ac (fun (j:Nat) σ=>j≤z∧PInv l m a b i j∧σ=⟨aT .undef 168 [(0,.sl r st [] s0 0 l.length),(1,I a),(10,I i),(11,I j)],dh H r st ss m,lp⟩) (fun j=>j+1-i) ?_ j ?_
 ·rintro j σ ⟨hzx,hp,rfl⟩ N Q hQ hN;have b0:=hp.ai;have b1:=hp.ij;have b2:=hp.jb;have b3:=hp.aj;have hml:=hp.seg.len;have b4:a<l.length:=by omega
  have b4':a<m.length:=by omega
  by_cases hij:i≤j
  ·have b5:j<l.length:=by omega
   have b5':j<m.length:=by omega
   have w1:IntKind.i64.wrap ((j:Int)-1)=((j-1:Nat):Int):=by rw [Ak]<;>omega
   by_cases hlt:m[j]! < m[a]!
   ·subst hQ;simp only [go_sem,↓reduceIte,↓Aa,Int.ofNat_le,Int.ofNat_lt,hij,b4,b4',b5,b5',AB hr,hlt];exact ⟨j,_,hzx,hp,fun _=>hlt,by simp only [go_sem,↓reduceIte,↓Aa],rfl⟩
   ·simp only [go_sem,↓reduceIte,↓Aa,Int.ofNat_le,Int.ofNat_lt,hij,b4,b4',b5,b5',AB hr,hlt,w1];refine hN (j-1) _ (by omega) ⟨by omega,hp.down hij hlt,?_⟩;simp only [go_sem,↓reduceIte,↓Aa]
  ·subst hQ;simp only [go_sem,↓reduceIte,↓Aa,Int.ofNat_le,hij];exact ⟨j,_,hzx,hp,fun h=>absurd h hij,by simp only [go_sem,↓reduceIte,↓Aa],rfl⟩
 ·refine ⟨hle,hp,?_⟩;simp only [go_sem,↓reduceIte,↓Aa,h0,h1,h2,h3]
theorem Agw {l m:List Int}{a b i j L:Nat}(hL:l.length=L)(hb:b≤l.length)(hl:l.length≤1000000){r st ss s0:Nat}{H:List Ob}{lp:List Lp}(hr:r<H.length)(hp:PInv l m a b i j){z:Nat}(hz:z=j){d:AV}{A:List (Nat×AV)}(hA:(AA d 0 A = .sl r st [] s0 0 L∧AA d 1 A=I a∧AA d 10 A=I i∧AA d 11 A=I j)){B:Nat} :
 Wp G B5 B ⟨aT d 168 A,dh H r st ss m,lp⟩ (fun e σ=>e = .ext 8∧∃(j:Nat) (A:List (Nat×AV)),j≤z∧PInv l m a b i j∧(i≤j→m[j]! < m[a]!)∧(AA .undef 0 A = .sl r st [] s0 0 L∧AA .undef 1 A=I a∧AA .undef 10 A=I i∧AA .undef 11 A=I j)∧σ=⟨aT .undef 168 A,dh H r st ss m,lp⟩):=by
 subst hL;obtain ⟨h0,h1,h2,h3⟩:=hA;have hle:j≤z:=by omega
 refine Ac (fun (j:Nat) σ=>j≤z∧PInv l m a b i j∧σ=⟨aT .undef 168 [(0,.sl r st [] s0 0 l.length),(1,I a),(10,I i),(11,I j)],dh H r st ss m,lp⟩) (fun j=>j+1-i) ?_ j ?_
 ·rintro j σ ⟨hzx,hp,rfl⟩ N Q hQ hN;have b0:=hp.ai;have b1:=hp.ij;have b2:=hp.jb;have b3:=hp.aj;have hml:=hp.seg.len;have b4:a<l.length:=by omega
  have b4':a<m.length:=by omega
  by_cases hij:i≤j
  ·have b5:j<l.length:=by omega
   have b5':j<m.length:=by omega
   have w1:IntKind.i64.wrap ((j:Int)-1)=((j-1:Nat):Int):=by rw [Ak]<;>omega
   by_cases hlt:m[j]! < m[a]!
   ·subst hQ;simp only [go_sem,↓reduceIte,↓Aa,Int.ofNat_le,Int.ofNat_lt,hij,b4,b4',b5,b5',AB hr,hlt];exact ⟨j,_,hzx,hp,fun _=>hlt,by simp only [go_sem,↓reduceIte,↓Aa],rfl⟩
   ·simp only [go_sem,↓reduceIte,↓Aa,Int.ofNat_le,Int.ofNat_lt,hij,b4,b4',b5,b5',AB hr,hlt,w1];refine hN (j-1) _ (by omega) ⟨by omega,hp.down hij hlt,?_⟩;simp only [go_sem,↓reduceIte,↓Aa]
  ·subst hQ;simp only [go_sem,↓reduceIte,↓Aa,Int.ofNat_le,hij];exact ⟨j,_,hzx,hp,fun h=>absurd h hij,by simp only [go_sem,↓reduceIte,↓Aa],rfl⟩
 ·refine ⟨hle,hp,?_⟩;simp only [go_sem,↓reduceIte,↓Aa,h0,h1,h2,h3]
theorem Agc {l m:List Int}{a b i j L:Nat}(hL:l.length=L)(hb:b≤l.length)(hl:l.length≤1000000){r st ss s0:Nat}{H:List Ob}{lp:List Lp}(hr:r<H.length)(hp:PInv l m a b i j){d:AV}{A:List (Nat×AV)}(hA:(AA d 0 A = .sl r st [] s0 0 L∧AA d 1 A=I a∧AA d 10 A=I i∧AA d 11 A=I j)){B:Nat} :
 Wp G B4 B ⟨aT d 168 A,dh H r st ss m,lp⟩ (fun e σ=>e = .ext 4∧∃(m:List Int) (i j:Nat) (A:List (Nat×AV)),PInv l m a b i j∧¬i≤j∧(AA .undef 0 A = .sl r st [] s0 0 L∧AA .undef 1 A=I a∧AA .undef 10 A=I i∧AA .undef 11 A=I j)∧σ=⟨aT .undef 168 A,dh H r st ss m,lp⟩):=by
 subst hL;obtain ⟨h0,h1,h2,h3⟩:=hA;refine Ac (fun (g:Nat×Nat×List Int) σ=>PInv l g.2.2 a b g.1 g.2.1∧σ=⟨aT .undef 168 [(0,.sl r st [] s0 0 l.length),(1,I a),(10,I g.1),(11,I g.2.1)],dh H r st ss g.2.2,lp⟩) (fun g=>g.2.1+1-g.1) ?_ (i,j,m) ?_
 ·rintro ⟨i,j,m⟩ σ ⟨hp,rfl⟩ N Q hQ hN;simp only at hp ⊢;simp only [go_sem,↓reduceIte,↓Aa];refine (Afy (s0:=s0) rfl hb hl hr hp rfl (by simp only [go_sem,↓reduceIte,↓Aa])).mono ?_;rintro e σ ⟨rfl,i',A,hzi,hp,hex,⟨h0,h1,h2,h3⟩,rfl⟩;simp only [go_sem,↓reduceIte,↓Aa];refine (Agw rfl hb hl hr hp rfl ⟨h0,h1,h2,h3⟩).mono ?_;rintro e σ ⟨rfl,j',A,hzj,hp,hex2,⟨h0,h1,h2,h3⟩,rfl⟩;have b0:=hp.ai;have b1:=hp.ij;have b2:=hp.jb;have b3:=hp.aj;have hml:=hp.seg.len;by_cases hij:i'≤j'
  ·have hgt:¬j'<i':=by omega
   have b5:i'<l.length:=by omega
   have b5':i'<m.length:=by omega
   have b6:j'<l.length:=by omega
   have b6':j'<m.length:=by omega
   have w2:IntKind.i64.wrap ((i':Int)+1)=((i'+1:Nat):Int):=by rw [Ak]<;>omega
   have w3:IntKind.i64.wrap ((j':Int)-1)=((j'-1:Nat):Int):=by rw [Ak]<;>omega
   simp only [go_sem,↓reduceIte,↓Aa,h0,h1,h2,h3,Int.ofNat_lt,hgt,b5,b5',b6,b6',AB hr,w2,w3];refine ⟨by simpa using b6',hN (i'+1,j'-1,sw m i' j') _ (by simp only;omega) ⟨hp.swap hb hij (hex (by omega)) (hex2 hij),?_⟩⟩;simp only [go_sem,↓reduceIte,↓Aa,h0,h1,sw]
  ·have hgt:j'<i':=by omega
   subst hQ;simp only [go_sem,↓reduceIte,↓Aa,h0,h1,h2,h3,Int.ofNat_lt,hgt];exact ⟨m,i',j',_,hp,hij,by simp only [go_sem,↓reduceIte,↓Aa,h0,h1,h2,h3],rfl⟩
 ·refine ⟨hp,?_⟩;simp only [go_sem,↓reduceIte,↓Aa,h0,h1,h2,h3]
theorem AbK {l:List Int}{a b p:Nat}(hap:a≤p)(hpb:p<b)(hb:b≤l.length)(hl:l.length≤1000000){t:List AV}{lp:List Lp}{H:List Ob}{r st ss s0 bs:Nat}{K:AV→St→Prop}{L:Nat}(hL:l.length=L)(hr:r<H.length)
 (hK:∀l' j v,PPost l l' a b j→K (.tup [I (j:Nat),Bo v]) ⟨t,dh H r st ss l',lp⟩):AM G AJ [.sl r st [] s0 0 L,I a,I b,I p] bs [] ⟨t,dh H r st ss l,lp⟩ K:=by
 subst hL;refine A5 EQ rfl ?_;rw [AI (by simp)];have wa:IntKind.i64.wrap ((a:Int)+1)=((a+1:Nat):Int):=by rw [Ak]<;>omega
 have wb:IntKind.i64.wrap ((b:Int)-1)=((b-1:Nat):Int):=by rw [Ak]<;>omega
 have a1:a<l.length:=by omega
 have p1:p<l.length:=by omega
 simp only [go_sem,↓reduceIte,↓Aa,Ci,wa,wb,a1,p1,AB hr,Int.ofNat_lt];refine ⟨by simpa using p1,?_⟩;have hst:=PInv.start (l:=l) hb hap hpb;have hsw:(l.set a l[p]!).set p l[a]! = sw l a p:=rfl;rw [hsw];refine (Aga (s0:=s0) rfl hb hl hr hst rfl (by simp only [go_sem,↓reduceIte,↓Aa])).mono ?_;rintro e σ ⟨rfl,i',A,hzi,hp,hex,⟨h0,h1,h2,h3⟩,rfl⟩;simp only [go_sem,↓reduceIte,↓Aa];refine (Afu rfl hb hl hr hp rfl ⟨h0,h1,h2,h3⟩).mono ?_;rintro e σ ⟨rfl,j',A,hzj,hp,hex2,⟨h0,h1,h2,h3⟩,rfl⟩;have b0:=hp.ai;have b1:=hp.ij;have b2:=hp.jb;have b3:=hp.aj;generalize sw l a p=m at *;have hml:=hp.seg.len;have b4:a<l.length:=by omega
 have b4':a<m.length:=by omega
 have b6:j'<l.length:=by omega
 have b6':j'<m.length:=by omega
 by_cases hij:i'≤j'
 ·have hgt:¬j'<i':=by omega
  have b5:i'<l.length:=by omega
  have b5':i'<m.length:=by omega
  have w2:IntKind.i64.wrap ((i':Int)+1)=((i'+1:Nat):Int):=by rw [Ak]<;>omega
  have w3:IntKind.i64.wrap ((j':Int)-1)=((j'-1:Nat):Int):=by rw [Ak]<;>omega
  have hps:=hp.swap hb hij (hex (by omega)) (hex2 hij);simp only [go_sem,↓reduceIte,↓Aa,h0,h1,h2,h3,Int.ofNat_lt,hgt,b5,b5',b6,b6',AB hr,w2,w3];refine ⟨by simpa using b6',?_⟩;have hsw2:(m.set i' m[j']!).set j' m[i']! = sw m i' j':=rfl;rw [hsw2];refine (Agc (s0:=s0) rfl hb hl hr hps (by simp only [go_sem,↓reduceIte,↓Aa,h0,h1])).mono ?_;rintro e σ ⟨rfl,n,i2,j2,A,hp,hij2,⟨h0,h1,h2,h3⟩,rfl⟩;have b0:=hp.ai;have b1:=hp.ij;have b2:=hp.jb;have b3:=hp.aj;have hnl:=hp.seg.len;have c4':a<n.length:=by omega
  have c6:j2<l.length:=by omega
  have c6':j2<n.length:=by omega
  simp only [go_sem,↓reduceIte,↓Aa,h0,h1,h2,h3,Int.ofNat_lt,b4,c4',c6,c6',AB hr];refine ⟨by simpa using c4',?_⟩;exact hK _ j2 false (hp.fin hb hij2)
 ·have hgt:j'<i':=by omega
  simp only [go_sem,↓reduceIte,↓Aa,h0,h1,h2,h3,Int.ofNat_lt,hgt,b4,b4',b6,b6',AB hr];refine ⟨by simpa using b4',?_⟩;exact hK _ j' true (hp.fin hb hij)
structure EInv (l m:List Int)(a b:Nat)(v:Int)(i j:Nat):Prop where
 seg:SegP l m a b
 ai:a+1≤i
 ij:i≤j+1
 jb:j<b
 aj:a≤j
 pv:m[a]! = v
 lo:∀k,a+1≤k→k<i→¬v<m[k]!
 hi:∀k,j<k→k<b→v<m[k]!
structure EPost (l m:List Int)(a b:Nat)(v:Int)(i:Nat):Prop where
 seg:SegP l m a b
 ai:a<i
 ib:i≤b
 lo:∀k,a≤k→k<i→¬v<m[k]!
 hi:∀k,i≤k→k<b→v<m[k]!
theorem EInv.up {l m:List Int}{a b i j:Nat}{v:Int}(h:EInv l m a b v i j)(hij:i≤j)(hlt:¬m[a]! < m[i]!):EInv l m a b v (i+1) j :=
 ⟨h.seg,by have:=h.ai;omega,by omega,h.jb,h.aj,h.pv,fun k h1 h2=>by
  by_cases e:k=i
  ·rw [e,←h.pv];exact hlt
  ·exact h.lo k h1 (by omega),h.hi⟩
theorem EInv.down {l m:List Int}{a b i j:Nat}{v:Int}(h:EInv l m a b v i j)(hij:i≤j)(hge:m[a]! < m[j]!):EInv l m a b v i (j-1) :=
 ⟨h.seg,h.ai,by omega,by have:=h.jb;omega,by have:=h.ai;omega,h.pv,h.lo,fun k h1 h2=>by
  by_cases e:k=j
  ·rw [e,←h.pv];exact hge
  ·exact h.hi k (by omega) h2⟩
theorem EInv.swap {l m:List Int}{a b i j:Nat}{v:Int}(hbl:b≤l.length)(h:EInv l m a b v i j)(hij:i≤j)(hge:m[a]! < m[i]!)(hlt:¬m[a]! < m[j]!):EInv l (sw m i j) a b v (i+1) (j-1):=by
 have hml:=h.seg.len;have h1:=h.ai;have h2:=h.jb;have hpv:=h.pv;have hne:i≠j:=fun e=>hlt (by rw [←e];exact hge);have hi':i<m.length:=by omega
 have hj':j<m.length:=by omega
 have hg:=@sw_get Int _ m i j;refine ⟨h.seg.tr (sw_seg hi' hj' (by omega) (by omega) (by omega) (by omega)),by omega,by omega,by omega,by omega,?_,fun k h3 h4=>?_,fun k h3 h4=>?_⟩
 ·rw [hg hi' hj',if_neg (show ¬a=j by omega),if_neg (show ¬a=i by omega)];exact hpv
 ·rw [hg hi' hj',if_neg (show ¬k=j by omega)];by_cases e:k=i
  ·rw [if_pos e,←hpv];exact hlt
  ·rw [if_neg e];exact h.lo k h3 (by omega)
 ·rw [hg hi' hj'];by_cases e:k=j
  ·rw [if_pos e,←hpv];exact hge
  ·rw [if_neg e,if_neg (by omega)];exact h.hi k (by omega) h4
theorem EInv.fin {l m:List Int}{a b i j:Nat}{v:Int}(h:EInv l m a b v i j)(hij:¬i≤j):EPost l m a b v i:=by
 have h1:=h.ai;have h2:=h.jb;have h3:=h.ij;refine ⟨h.seg,by omega,by omega,fun k h5 h6=>?_,fun k h5 h6=>h.hi k (by omega) h6⟩;by_cases e:k=a
 ·rw [e,h.pv];omega
 ·exact h.lo k (by omega) h6
theorem EInv.start {l:List Int}{a b p:Nat}(hbl:b≤l.length)(h1:a≤p)(h2:p<b):EInv l (sw l a p) a b l[p]! (a+1) (b-1):=by
 refine ⟨sw_seg (by omega) (by omega) (Nat.le_refl _) (by omega) h1 h2,Nat.le_refl _,by omega,by omega,by omega,?_,fun k h3 h4=>by omega,fun k h3 h4=>by omega⟩;rw [sw_get (by omega) (by omega)];by_cases e:a=p
 ·rw [if_pos e,e]
 ·rw [if_neg e,if_pos rfl]
theorem Ahi {l m:List Int}{a b i j L:Nat}{v:Int}(hL:l.length=L)(hb:b≤l.length)(hl:l.length≤1000000){r st ss s0:Nat}{H:List Ob}{lp:List Lp}(hr:r<H.length)(hp:EInv l m a b v i j){z:Nat}(hz:z=i){d:AV}{A:List (Nat×AV)}(hA:(AA d 0 A = .sl r st [] s0 0 L∧AA d 1 A=I a∧AA d 9 A=I i∧AA d 10 A=I j)){B:Nat} :
 Wp G Bt B ⟨aT d 84 A,dh H r st ss m,lp⟩ (fun e σ=>e = .ext 2∧∃(i:Nat) (A:List (Nat×AV)),z≤i∧EInv l m a b v i j∧(i≤j→m[a]! < m[i]!)∧(AA .undef 0 A = .sl r st [] s0 0 L∧AA .undef 1 A=I a∧AA .undef 9 A=I i∧AA .undef 10 A=I j)∧σ=⟨aT .undef 84 A,dh H r st ss m,lp⟩):=by
 subst hL;obtain ⟨h0,h1,h2,h3⟩:=hA;have hle:z≤i:=by omega
 refine Ac (fun (i:Nat) σ=>z≤i∧EInv l m a b v i j∧σ=⟨aT .undef 84 [(0,.sl r st [] s0 0 l.length),(1,I a),(9,I i),(10,I j)],dh H r st ss m,lp⟩) (fun i=>j+1-i) ?_ i ?_
 ·rintro i σ ⟨hzx,hp,rfl⟩ N Q hQ hN;have b0:=hp.ai;have b1:=hp.ij;have b2:=hp.jb;have b3:=hp.aj;have hml:=hp.seg.len;have b4:a<l.length:=by omega
  have b4':a<m.length:=by omega
  by_cases hij:i≤j
  ·have b5:i<l.length:=by omega
   have b5':i<m.length:=by omega
   have w1:IntKind.i64.wrap ((i:Int)+1)=((i+1:Nat):Int):=by rw [Ak]<;>omega
   by_cases hlt:m[a]! < m[i]!
   ·subst hQ;simp only [go_sem,↓reduceIte,↓Aa,Int.ofNat_le,Int.ofNat_lt,hij,b4,b4',b5,b5',AB hr,hlt];exact ⟨i,_,hzx,hp,fun _=>hlt,by simp only [go_sem,↓reduceIte,↓Aa],rfl⟩
   ·simp only [go_sem,↓reduceIte,↓Aa,Int.ofNat_le,Int.ofNat_lt,hij,b4,b4',b5,b5',AB hr,hlt,w1];refine hN (i+1) _ (by omega) ⟨by omega,hp.up hij hlt,?_⟩;simp only [go_sem,↓reduceIte,↓Aa]
  ·subst hQ;simp only [go_sem,↓reduceIte,↓Aa,Int.ofNat_le,hij];exact ⟨i,_,hzx,hp,fun h=>absurd h hij,by simp only [go_sem,↓reduceIte,↓Aa],rfl⟩
 ·refine ⟨hle,hp,?_⟩;simp only [go_sem,↓reduceIte,↓Aa,h0,h1,h2,h3]
theorem Ahc {l m:List Int}{a b i j L:Nat}{v:Int}(hL:l.length=L)(hb:b≤l.length)(hl:l.length≤1000000){r st ss s0:Nat}{H:List Ob}{lp:List Lp}(hr:r<H.length)(hp:EInv l m a b v i j){z:Nat}(hz:z=j){d:AV}{A:List (Nat×AV)}(hA:(AA d 0 A = .sl r st [] s0 0 L∧AA d 1 A=I a∧AA d 9 A=I i∧AA d 10 A=I j)){B:Nat} :
 Wp G Bu B ⟨aT d 84 A,dh H r st ss m,lp⟩ (fun e σ=>e = .ext 4∧∃(j:Nat) (A:List (Nat×AV)),j≤z∧EInv l m a b v i j∧(i≤j→¬m[a]! < m[j]!)∧(AA .undef 0 A = .sl r st [] s0 0 L∧AA .undef 1 A=I a∧AA .undef 9 A=I i∧AA .undef 10 A=I j)∧σ=⟨aT .undef 84 A,dh H r st ss m,lp⟩):=by
 subst hL;obtain ⟨h0,h1,h2,h3⟩:=hA;have hle:j≤z:=by omega
 refine Ac (fun (j:Nat) σ=>j≤z∧EInv l m a b v i j∧σ=⟨aT .undef 84 [(0,.sl r st [] s0 0 l.length),(1,I a),(9,I i),(10,I j)],dh H r st ss m,lp⟩) (fun j=>j+1-i) ?_ j ?_
 ·rintro j σ ⟨hzx,hp,rfl⟩ N Q hQ hN;have b0:=hp.ai;have b1:=hp.ij;have b2:=hp.jb;have b3:=hp.aj;have hml:=hp.seg.len;have b4:a<l.length:=by omega
  have b4':a<m.length:=by omega
  by_cases hij:i≤j
  ·have b5:j<l.length:=by omega
   have b5':j<m.length:=by omega
   have w1:IntKind.i64.wrap ((j:Int)-1)=((j-1:Nat):Int):=by rw [Ak]<;>omega
   by_cases hlt:m[a]! < m[j]!
   ·simp only [go_sem,↓reduceIte,↓Aa,Int.ofNat_le,Int.ofNat_lt,hij,b4,b4',b5,b5',AB hr,hlt,w1];refine hN (j-1) _ (by omega) ⟨by omega,hp.down hij hlt,?_⟩;simp only [go_sem,↓reduceIte,↓Aa]
   ·subst hQ;simp only [go_sem,↓reduceIte,↓Aa,Int.ofNat_le,Int.ofNat_lt,hij,b4,b4',b5,b5',AB hr,hlt];exact ⟨j,_,hzx,hp,fun _=>hlt,by simp only [go_sem,↓reduceIte,↓Aa],rfl⟩
  ·subst hQ;simp only [go_sem,↓reduceIte,↓Aa,Int.ofNat_le,hij];exact ⟨j,_,hzx,hp,fun h=>absurd h hij,by simp only [go_sem,↓reduceIte,↓Aa],rfl⟩
 ·refine ⟨hle,hp,?_⟩;simp only [go_sem,↓reduceIte,↓Aa,h0,h1,h2,h3]
theorem Ahe {l m:List Int}{a b i j L:Nat}{v:Int}(hL:l.length=L)(hb:b≤l.length)(hl:l.length≤1000000){r st ss s0:Nat}{H:List Ob}{lp:List Lp}(hr:r<H.length)(hp:EInv l m a b v i j){d:AV}{A:List (Nat×AV)}(hA:(AA d 0 A = .sl r st [] s0 0 L∧AA d 1 A=I a∧AA d 9 A=I i∧AA d 10 A=I j)){B:Nat} :
 Wp G Bv B ⟨aT d 84 A,dh H r st ss m,lp⟩ (fun e σ=>e = .ext 0∧∃(m:List Int) (i j:Nat) (A:List (Nat×AV)),EInv l m a b v i j∧¬i≤j∧(AA .undef 0 A = .sl r st [] s0 0 L∧AA .undef 1 A=I a∧AA .undef 9 A=I i∧AA .undef 10 A=I j)∧σ=⟨aT .undef 84 A,dh H r st ss m,lp⟩):=by
 subst hL;obtain ⟨h0,h1,h2,h3⟩:=hA;refine Ac (fun (g:Nat×Nat×List Int) σ=>EInv l g.2.2 a b v g.1 g.2.1∧σ=⟨aT .undef 84 [(0,.sl r st [] s0 0 l.length),(1,I a),(9,I g.1),(10,I g.2.1)],dh H r st ss g.2.2,lp⟩) (fun g=>g.2.1+1-g.1) ?_ (i,j,m) ?_
 ·rintro ⟨i,j,m⟩ σ ⟨hp,rfl⟩ N Q hQ hN;simp only at hp ⊢;simp only [go_sem,↓reduceIte,↓Aa];refine (Ahi (s0:=s0) rfl hb hl hr hp rfl (by simp only [go_sem,↓reduceIte,↓Aa])).mono ?_;rintro e σ ⟨rfl,i',A,hzi,hp,hex,⟨h0,h1,h2,h3⟩,rfl⟩;simp only [go_sem,↓reduceIte,↓Aa];refine (Ahc rfl hb hl hr hp rfl ⟨h0,h1,h2,h3⟩).mono ?_;rintro e σ ⟨rfl,j',A,hzj,hp,hex2,⟨h0,h1,h2,h3⟩,rfl⟩;have b0:=hp.ai;have b1:=hp.ij;have b2:=hp.jb;have b3:=hp.aj;have hml:=hp.seg.len;by_cases hij:i'≤j'
  ·have hgt:¬j'<i':=by omega
   have b5:i'<l.length:=by omega
   have b5':i'<m.length:=by omega
   have b6:j'<l.length:=by omega
   have b6':j'<m.length:=by omega
   have w2:IntKind.i64.wrap ((i':Int)+1)=((i'+1:Nat):Int):=by rw [Ak]<;>omega
   have w3:IntKind.i64.wrap ((j':Int)-1)=((j'-1:Nat):Int):=by rw [Ak]<;>omega
   simp only [go_sem,↓reduceIte,↓Aa,h0,h1,h2,h3,Int.ofNat_lt,hgt,b5,b5',b6,b6',AB hr,w2,w3];refine ⟨by simpa using b6',hN (i'+1,j'-1,sw m i' j') _ (by simp only;omega) ⟨hp.swap hb hij (hex (by omega)) (hex2 hij),?_⟩⟩;simp only [go_sem,↓reduceIte,↓Aa,h0,h1,sw]
  ·have hgt:j'<i':=by omega
   subst hQ;simp only [go_sem,↓reduceIte,↓Aa,h0,h1,h2,h3,Int.ofNat_lt,hgt];exact ⟨m,i',j',_,hp,hij,by simp only [go_sem,↓reduceIte,↓Aa,h0,h1,h2,h3],rfl⟩
 ·refine ⟨hp,?_⟩;simp only [go_sem,↓reduceIte,↓Aa,h0,h1,h2,h3]
theorem AgC {l:List Int}{a b p:Nat}(hap:a≤p)(hpb:p<b)(hb:b≤l.length)(hl:l.length≤1000000){t:List AV}{lp:List Lp}{H:List Ob}{r st ss s0 bs:Nat}{K:AV→St→Prop}{L:Nat}(hL:l.length=L)(hr:r<H.length)
 (hK:∀l' i,EPost l l' a b l[p]! i→K (I (i:Nat)) ⟨t,dh H r st ss l',lp⟩):AM G As [.sl r st [] s0 0 L,I a,I b,I p] bs [] ⟨t,dh H r st ss l,lp⟩ K:=by
 subst hL;refine A5 Dp rfl ?_;rw [AI (by simp)];have wa:IntKind.i64.wrap ((a:Int)+1)=((a+1:Nat):Int):=by rw [Ak]<;>omega
 have wb:IntKind.i64.wrap ((b:Int)-1)=((b-1:Nat):Int):=by rw [Ak]<;>omega
 have a1:a<l.length:=by omega
 have p1:p<l.length:=by omega
 simp only [go_sem,↓reduceIte,↓Aa,BG,wa,wb,a1,p1,AB hr,Int.ofNat_lt];refine ⟨by simpa using p1,?_⟩;have hst:=EInv.start (l:=l) hb hap hpb;have hsw:(l.set a l[p]!).set p l[a]! = sw l a p:=rfl;rw [hsw];refine (Ahe (s0:=s0) rfl hb hl hr hst (by simp only [go_sem,↓reduceIte,↓Aa])).mono ?_;rintro e σ ⟨rfl,n,i2,j2,A,hp,hij2,⟨h0,h1,h2,h3⟩,rfl⟩;simp only [go_sem,↓reduceIte,↓Aa,h0,h1,h2,h3];exact hK _ i2 (hp.fin hij2)
theorem Ae1 {l:List Int}{a b:Nat}(hab:a<b)(hb:b≤l.length)(hl:l.length≤1000000){t:List AV}{lp:List Lp}{H:List Ob}{r st ss s0 bs:Nat}{K:AV→St→Prop}{L:Nat}(hL:l.length=L)(hr:r<H.length)
 (hK:∀l',SegP l l' a b→K (.tup []) ⟨t,dh H r st ss l',lp⟩):AM G Az [.sl r st [] s0 0 L,I a,I b] bs [] ⟨t,dh H r st ss l,lp⟩ K:=by
 subst hL;refine A5 Eb rfl ?_;rw [AI (by simp)];have wb:IntKind.i64.wrap ((b:Int)-1)=((b-1:Nat):Int):=by rw [Ak]<;>omega
 simp only [go_sem,↓reduceIte,↓Aa,BX,wb];refine Ac (fun (g:Nat×Nat×List Int) σ=>SegP l g.2.2 a b∧a≤g.1∧g.2.1<b∧g.1≤b∧σ=⟨aT .undef 32 [(0,.sl r st [] s0 0 l.length),(6,I g.1),(7,I g.2.1)],dh H r st ss g.2.2,lp⟩) (fun g=>g.2.1+1-g.1) ?_ (a,b-1,l) ?_
 ·rintro ⟨i,j,m⟩ σ ⟨hp,h1,h2,h3,rfl⟩ N Q hQ hN;simp only at hp h1 h2 h3 ⊢;have hml:=hp.len;by_cases hij:i<j
  ·have b5:i<l.length:=by omega
   have b5':i<m.length:=by omega
   have b6:j<l.length:=by omega
   have b6':j<m.length:=by omega
   have w2:IntKind.i64.wrap ((i:Int)+1)=((i+1:Nat):Int):=by rw [Ak]<;>omega
   have w3:IntKind.i64.wrap ((j:Int)-1)=((j-1:Nat):Int):=by rw [Ak]<;>omega
   simp only [go_sem,↓reduceIte,↓Aa,Int.ofNat_lt,hij,b5,b5',b6,b6',AB hr,w2,w3];refine ⟨by simpa using b6',hN (i+1,j-1,sw m i j) _ (by simp only;omega) ⟨hp.tr (sw_seg b5' b6' h1 (by omega) (by omega) h2),by simp only;omega,by simp only;omega,by simp only;omega,?_⟩⟩;simp only [go_sem,↓reduceIte,↓Aa,sw]
  ·subst hQ;simp only [go_sem,↓reduceIte,↓Aa,Int.ofNat_lt,hij];exact hK m hp
 ·refine ⟨SegP.refl,Nat.le_refl _,by simp only;omega,by simp only;omega,?_⟩;simp only [go_sem,↓reduceIte,↓Aa]
def Low (l:List Int)(a b:Nat):Prop:=a=0∨∀i,a≤i→i<b→¬l[i]! < l[a-1]!
theorem Low.seg {l m:List Int}{a b:Nat}(h:Low l a b)(hs:SegP l m a b):Low m a b:=by
 rcases h with h|h
 ·exact .inl h
 ·by_cases h0:a=0
  ·exact .inl h0
  refine .inr (fun i h1 h2=>?_);rw [hs.out (a-1) (by omega)];exact hs.all (fun x=>¬x<l[a-1]!) h i h1 h2
theorem Srt.swR {m:List Int}{a i j:Nat}(h:Srt ltI m a i)(hj:i<j)(hl:j<m.length):Srt ltI (sw m j (j-1)) a i:=by
 intro p q h1 h2 h3;rw [sw_get (by omega) (by omega),sw_get (by omega) (by omega),if_neg (by omega),if_neg (by omega),if_neg (by omega),if_neg (by omega)];exact h p q h1 h2 h3
theorem Srt.snoc {m:List Int}{a i:Nat}(h:Srt ltI m a i)(ha:a<i)(hl:¬m[i]! < m[i-1]!):Srt ltI m a (i+1):=by
 have:=(Hole.start h).fin to_ltI (by omega) (Nat.le_refl _) (.inr (by unfold ltI;rw [decide_eq_false_iff_not];exact hl));exact this
theorem Srt.sub {m:List Int}{a i c d:Nat}(h:Srt ltI m a i)(h1:a≤c)(h2:d≤i):Srt ltI m c d:=fun p q g1 g2 g3=>h p q (by omega) g2 (by omega)
theorem Srt.swL {m:List Int}{a i:Nat}(h:Srt ltI m a i)(hi:i<m.length):Srt ltI (sw m i (i-1)) a (i-1):=by
 intro p q h1 h2 h3;rw [sw_get (by omega) (by omega),sw_get (by omega) (by omega),if_neg (by omega),if_neg (by omega),if_neg (by omega),if_neg (by omega)];exact h p q h1 h2 (by omega)
def PL (d:AV)(A:List (Nat×AV))(r st s0 L a b i c:Nat):Prop:=AA d 0 A = .sl r st [] s0 0 L∧AA d 1 A=I a∧AA d 2 A=I b∧AA d 7 A=I i∧AA d 8 A=I c
theorem Ahf {m:List Int}{a b i c L:Nat}(hL:m.length=L)(hb:b≤m.length)(hl:m.length≤1000000){r st ss s0:Nat}{H:List Ob}{lp:List Lp}(hr:r<H.length)(hai:a+1≤i)(hib:i≤b)(hs:Srt ltI m a i){d:AV}{A:List (Nat×AV)}(hA:PL d A r st s0 L a b i c){B:Nat} :
 Wp G A4 B ⟨aT d 133 A,dh H r st ss m,lp⟩ (fun e σ=>e = .ext 2∧∃(i:Nat) (A:List (Nat×AV)),a+1≤i∧i≤b∧Srt ltI m a i∧(i<b→m[i]! < m[i-1]!)∧PL .undef A r st s0 L a b i c∧σ=⟨aT .undef 133 A,dh H r st ss m,lp⟩):=by
 subst hL;obtain ⟨h0,h1,h2,h3,h4⟩:=hA;refine Ac (fun (i:Nat) σ=>a+1≤i∧i≤b∧Srt ltI m a i∧σ=⟨aT .undef 133 [(0,.sl r st [] s0 0 m.length),(1,I a),(2,I b),(7,I i),(8,I c)],dh H r st ss m,lp⟩) (fun i=>b-i) ?_ i ?_
 ·rintro i σ ⟨g1,g2,g3,rfl⟩ N Q hQ hN;by_cases hij:i<b
  ·have b5:i<m.length:=by omega
   have b6:i-1<m.length:=by omega
   have w1:IntKind.i64.wrap ((i:Int)+1)=((i+1:Nat):Int):=by rw [Ak]<;>omega
   have w2:IntKind.i64.wrap ((i:Int)-1)=((i-1:Nat):Int):=by rw [Ak]<;>omega
   by_cases hlt:m[i]! < m[i-1]!
   ·subst hQ;simp only [go_sem,↓reduceIte,↓Aa,Int.ofNat_lt,hij,b5,b6,AB hr,hlt,w2];exact ⟨i,_,g1,g2,g3,fun _=>hlt,by unfold PL;simp only [go_sem,↓reduceIte,↓Aa],rfl⟩
   ·simp only [go_sem,↓reduceIte,↓Aa,Int.ofNat_lt,hij,b5,b6,AB hr,hlt,w1,w2];refine hN (i+1) _ (by omega) ⟨by omega,by omega,g3.snoc (by omega) hlt,?_⟩;simp only [go_sem,↓reduceIte,↓Aa]
  ·subst hQ;simp only [go_sem,↓reduceIte,↓Aa,Int.ofNat_lt,hij];exact ⟨i,_,g1,g2,g3,fun h=>absurd h hij,by unfold PL;simp only [go_sem,↓reduceIte,↓Aa],rfl⟩
 ·refine ⟨hai,hib,hs,?_⟩;simp only [go_sem,↓reduceIte,↓Aa,h0,h1,h2,h3,h4]
theorem Ahg {l m:List Int}{a b i c L:Nat}(hL:l.length=L)(hb:b≤l.length)(hl:l.length≤1000000){r st ss s0:Nat}{H:List Ob}{lp:List Lp}(hr:r<H.length)(hai:a+2≤i)(hib:i<b)(hlow:Low l a b)(hseg:SegP l m a b)(hs:Srt ltI m a (i-1)){d:AV}{A:List (Nat×AV)}(hA:PL d A r st s0 L a b i c)(h5:AA d 9 A=I (i-1:Nat)){B:Nat} :
 Wp G AZ B ⟨aT d 133 A,dh H r st ss m,lp⟩ (fun e σ=>e = .ext 4∧∃(m:List Int) (A:List (Nat×AV)),SegP l m a b∧Srt ltI m a i∧PL .undef A r st s0 L a b i c∧σ=⟨aT .undef 133 A,dh H r st ss m,lp⟩):=by
 subst hL;obtain ⟨h0,h1,h2,h3,h4⟩:=hA;refine Ac (fun (g:Nat×List Int) σ=>(a≤g.1∧g.1≤i-1)∧SegP l g.2 a b∧Hole ltI g.2 a (i-1) g.1∧σ=⟨aT .undef 133 [(0,.sl r st [] s0 0 l.length),(1,I a),(2,I b),(7,I i),(8,I c),(9,I g.1)],dh H r st ss g.2,lp⟩) (fun g=>g.1) ?_ (i-1,m) ?_
 ·rintro ⟨j,n⟩ σ ⟨⟨hj1,hj2⟩,hn,hh,rfl⟩ N Q hQ hN;simp only at hj1 hj2 hn hh ⊢;have hnl:=hn.len;have hi1:i-1+1=i:=by omega
  by_cases hj:1≤j
  ·have hj':(1:Int)≤(j:Int):=by omega
   have hj0:j<n.length:=by omega
   have hj3:j-1<n.length:=by omega
   have w1:IntKind.i64.wrap ((j:Int)-1)=((j-1:Nat):Int):=by rw [Ak]<;>omega
   have hjl:j<l.length:=by omega
   have hjl1:j-1<l.length:=by omega
   by_cases hlt:n[j]! < n[j-1]!
   ·have haj:a<j:=by
     rcases hlow.seg hn with h|h
     ·omega
     ·refine Nat.lt_of_le_of_ne hj1 (fun e=>?_);subst e;exact h _ (Nat.le_refl _) (by omega) hlt
    simp only [go_sem,↓reduceIte,↓Aa,hj',Int.ofNat_lt,hjl,hjl1,hj0,hj3,w1,AB hr,hlt];refine ⟨by simpa using hj3,hN (j-1,sw n j (j-1)) _ (by simp only;omega) ⟨⟨by simp only;omega,by simp only;omega⟩,hn.tr (sw_seg hj0 hj3 (by omega) (by omega) (by omega) (by omega)),hh.step to_ltI haj hj2 (by omega) (by unfold ltI;rw [decide_eq_true_eq];exact hlt),?_⟩⟩;simp only [go_sem,↓reduceIte,↓Aa,sw]
   ·subst hQ;simp only [go_sem,↓reduceIte,↓Aa,hj',Int.ofNat_lt,hjl,hjl1,hj0,hj3,w1,AB hr,hlt];refine ⟨n,_,hn,?_,by unfold PL;simp only [go_sem,↓reduceIte,↓Aa],rfl⟩;have:=hh.fin to_ltI hj1 hj2 (.inr (by unfold ltI;rw [decide_eq_false_iff_not];exact hlt));rw [hi1] at this;exact this
  ·subst hQ;have hj':¬(1:Int)≤(j:Int):=by omega
   simp only [go_sem,↓reduceIte,↓Aa,hj'];refine ⟨n,_,hn,?_,by unfold PL;simp only [go_sem,↓reduceIte,↓Aa],rfl⟩;have:=hh.fin to_ltI hj1 hj2 (.inl (by omega));rw [hi1] at this;exact this
 ·refine ⟨⟨by simp only;omega,Nat.le_refl _⟩,hseg,Hole.start hs,?_⟩;simp only [go_sem,↓reduceIte,↓Aa,h0,h1,h2,h3,h4,h5]
theorem AgX {l m:List Int}{a b i c L:Nat}(hL:l.length=L)(hb:b≤l.length)(hl:l.length≤1000000){r st ss s0:Nat}{H:List Ob}{lp:List Lp}(hr:r<H.length)(hai:a+1≤i)(hib:i+1≤b)(hseg:SegP l m a b)(hs:Srt ltI m a i){d:AV}{A:List (Nat×AV)}(hA:PL d A r st s0 L a b i c)(h5:AA d 10 A=I (i+1:Nat)){B:Nat} :
 Wp G A3 B ⟨aT d 133 A,dh H r st ss m,lp⟩ (fun e σ=>e = .ext 6∧∃(m:List Int) (A:List (Nat×AV)),SegP l m a b∧Srt ltI m a i∧PL .undef A r st s0 L a b i c∧σ=⟨aT .undef 133 A,dh H r st ss m,lp⟩):=by
 subst hL;obtain ⟨h0,h1,h2,h3,h4⟩:=hA;refine Ac (fun (g:Nat×List Int) σ=>(i+1≤g.1∧g.1≤b)∧SegP l g.2 a b∧Srt ltI g.2 a i∧σ=⟨aT .undef 133 [(0,.sl r st [] s0 0 l.length),(1,I a),(2,I b),(7,I i),(8,I c),(10,I g.1)],dh H r st ss g.2,lp⟩) (fun g=>b-g.1) ?_ (i+1,m) ?_
 ·rintro ⟨j,n⟩ σ ⟨⟨hj1,hj2⟩,hn,hh,rfl⟩ N Q hQ hN;simp only at hj1 hj2 hn hh ⊢;have hnl:=hn.len;by_cases hj:j<b
  ·have hj0:j<n.length:=by omega
   have hj3:j-1<n.length:=by omega
   have w1:IntKind.i64.wrap ((j:Int)-1)=((j-1:Nat):Int):=by rw [Ak]<;>omega
   have w2:IntKind.i64.wrap ((j:Int)+1)=((j+1:Nat):Int):=by rw [Ak]<;>omega
   have hjl:j<l.length:=by omega
   have hjl1:j-1<l.length:=by omega
   by_cases hlt:n[j]! < n[j-1]!
   ·simp only [go_sem,↓reduceIte,↓Aa,hj,Int.ofNat_lt,hjl,hjl1,hj0,hj3,w1,w2,AB hr,hlt];refine ⟨by simpa using hj3,hN (j+1,sw n j (j-1)) _ (by simp only;omega) ⟨⟨by simp only;omega,by simp only;omega⟩,hn.tr (sw_seg hj0 hj3 (by omega) (by omega) (by omega) (by omega)),hh.swR (by omega) hj0,?_⟩⟩;simp only [go_sem,↓reduceIte,↓Aa,sw]
   ·subst hQ;simp only [go_sem,↓reduceIte,↓Aa,hj,Int.ofNat_lt,hjl,hjl1,hj0,hj3,w1,w2,AB hr,hlt];exact ⟨n,_,hn,hh,by unfold PL;simp only [go_sem,↓reduceIte,↓Aa],rfl⟩
  ·subst hQ;simp only [go_sem,↓reduceIte,↓Aa,hj,Int.ofNat_lt];exact ⟨n,_,hn,hh,by unfold PL;simp only [go_sem,↓reduceIte,↓Aa],rfl⟩
 ·refine ⟨⟨Nat.le_refl _,hib⟩,hseg,hs,?_⟩;simp only [go_sem,↓reduceIte,↓Aa,h0,h1,h2,h3,h4,h5]
theorem Agy {l:List Int}{a b:Nat}(hab:a<b)(hb:b≤l.length)(hl:l.length≤1000000)(hlow:Low l a b){t:List AV}{lp:List Lp}{H:List Ob}{r st ss s0 bs:Nat}{K:AV→St→Prop}{L:Nat}(hL:l.length=L)(hr:r<H.length)
 (hK:∀l' q,SegP l l' a b→(q=true→Srt ltI l' a b)→K (Bo q) ⟨t,dh H r st ss l',lp⟩):AM G Al [.sl r st [] s0 0 L,I a,I b] bs [] ⟨t,dh H r st ss l,lp⟩ K:=by
 subst hL;refine A5 CA rfl ?_;rw [AI (by simp)];have wa:IntKind.i64.wrap ((a:Int)+1)=((a+1:Nat):Int):=by rw [Ak]<;>omega
 have wba:IntKind.i64.wrap ((b:Int)-(a:Int))=((b-a:Nat):Int):=by rw [Ak]<;>omega
 simp only [go_sem,↓reduceIte,↓Aa,Bc,wa];refine Ac (fun (g:Nat×Nat×List Int) σ=>(g.1≤5∧a+1≤g.2.1∧g.2.1≤b)∧SegP l g.2.2 a b∧Srt ltI g.2.2 a g.2.1∧σ=⟨aT .undef 133 [(0,.sl r st [] s0 0 l.length),(1,I a),(2,I b),(7,I g.2.1),(8,I g.1)],dh H r st ss g.2.2,lp⟩) (fun g=>5-g.1) ?_ (0,a+1,l) ?_
 ·rintro ⟨c,i,m⟩ σ ⟨⟨hc,hi1,hi2⟩,hm,hs,rfl⟩ N Q hQ hN;simp only at hc hi1 hi2 hm hs ⊢;have hml:=hm.len;have wc:IntKind.i64.wrap ((c:Int)+1)=((c+1:Nat):Int):=by rw [Ak]<;>omega
  by_cases hc5:c<5
  ·have hc5':(c:Int)<5:=by omega
   simp only [go_sem,↓reduceIte,↓Aa,hc5'];refine (Ahf (s0:=s0) (c:=c) hml (by omega) (by omega) hr hi1 hi2 hs (by unfold PL;simp only [go_sem,↓reduceIte,↓Aa])).mono ?_;rintro e σ ⟨rfl,i,A,hi1,hi2,hs,hx,⟨h0,h1,h2,h3,h4⟩,rfl⟩;by_cases hib:i=b
   ·subst hib;subst hQ;simp only [go_sem,↓reduceIte,↓Aa,h0,h1,h2,h3,h4];exact hK m true hm (fun _=>hs)
   ·have hib':((i:Int)==(b:Int))=false:=by rw [beq_eq_false_iff_ne];omega
    by_cases h50:b-a<50
    ·have h50':((b-a:Nat):Int)<50:=by omega
     subst hQ;simp only [go_sem,↓reduceIte,↓Aa,h0,h1,h2,h3,h4,hib',wba,h50'];exact hK m false hm (fun h=>by cases h)
    ·have h50':¬((b-a:Nat):Int)<50:=by omega
     have b5:i<l.length:=by omega
     have b6:i-1<l.length:=by omega
     have b5':i<m.length:=by omega
     have b6':i-1<m.length:=by omega
     have w2:IntKind.i64.wrap ((i:Int)-1)=((i-1:Nat):Int):=by rw [Ak]<;>omega
     have w3:IntKind.i64.wrap ((i:Int)-(a:Int))=((i-a:Nat):Int):=by rw [Ak]<;>omega
     have w4:IntKind.i64.wrap ((b:Int)-(i:Int))=((b-i:Nat):Int):=by rw [Ak]<;>omega
     have w5:IntKind.i64.wrap ((i:Int)+1)=((i+1:Nat):Int):=by rw [Ak]<;>omega
     have hsw:(m.set i m[i-1]!).set (i-1) m[i]! = sw m i (i-1):=rfl;have hm2:SegP l (sw m i (i-1)) a b:=hm.tr (sw_seg b5' b6' (by omega) (by omega) (by omega) (by omega));by_cases hi2':i-a<2
     ·have h2':¬(2:Int)≤((i-a:Nat):Int):=by omega
      have hs2:Srt ltI (sw m i (i-1)) a i:=Srt.one (by omega);by_cases hbi:b-i<2
      ·have h3':¬(2:Int)≤((b-i:Nat):Int):=by omega
       simp only [go_sem,↓reduceIte,↓Aa,h0,h1,h2,h3,h4,hib',wba,h50',Int.ofNat_lt,b5,b6,b5',b6',w2,w3,w4,AB hr,h2',h3',wc,hsw];refine ⟨by simpa using b6',hN (c+1,i,sw m i (i-1)) _ (by simp only;omega) ⟨⟨by simp only;omega,hi1,hi2⟩,hm2,hs2,?_⟩⟩;simp only [go_sem,↓reduceIte,↓Aa,h0,h1,h2,h3]
      ·have h3':(2:Int)≤((b-i:Nat):Int):=by omega
       simp only [go_sem,↓reduceIte,↓Aa,h0,h1,h2,h3,h4,hib',wba,h50',Int.ofNat_lt,b5,b6,b5',b6',w2,w3,w4,w5,AB hr,h2',h3',wc,hsw];refine ⟨by simpa using b6',?_⟩;refine (AgX (s0:=s0) (c:=c) rfl hb hl hr hi1 (by omega) hm2 hs2 (by unfold PL;simp only [go_sem,↓reduceIte,↓Aa,h0,h1,h2,h3,h4]) (by simp only [go_sem,↓reduceIte,↓Aa])).mono ?_;rintro e σ ⟨rfl,n,A,hn,hsn,⟨h0,h1,h2,h3,h4⟩,rfl⟩;simp only [go_sem,↓reduceIte,↓Aa,h0,h1,h2,h3,h4,wc];refine hN (c+1,i,n) _ (by simp only;omega) ⟨⟨by simp only;omega,hi1,hi2⟩,hn,hsn,?_⟩;simp only [go_sem,↓reduceIte,↓Aa,h0,h1,h2,h3]
     ·have h2':(2:Int)≤((i-a:Nat):Int):=by omega
      have hs2:Srt ltI (sw m i (i-1)) a (i-1):=hs.swL b5';simp only [go_sem,↓reduceIte,↓Aa,h0,h1,h2,h3,h4,hib',wba,h50',Int.ofNat_lt,b5,b6,b5',b6',w2,w3,AB hr,h2',hsw];refine ⟨by simpa using b6',?_⟩;refine (Ahg (s0:=s0) (c:=c) rfl hb hl hr (by omega) (by omega) hlow hm2 hs2 (by unfold PL;simp only [go_sem,↓reduceIte,↓Aa,h0,h1,h2,h3,h4]) (by simp only [go_sem,↓reduceIte,↓Aa])).mono ?_;rintro e σ ⟨rfl,n,A,hn,hsn,⟨h0,h1,h2,h3,h4⟩,rfl⟩;by_cases hbi:b-i<2
      ·have h3':¬(2:Int)≤((b-i:Nat):Int):=by omega
       simp only [go_sem,↓reduceIte,↓Aa,h0,h1,h2,h3,h4,w4,h3',wc];refine hN (c+1,i,n) _ (by simp only;omega) ⟨⟨by simp only;omega,hi1,hi2⟩,hn,hsn,?_⟩;simp only [go_sem,↓reduceIte,↓Aa,h0,h1,h2,h3]
      ·have h3':(2:Int)≤((b-i:Nat):Int):=by omega
       simp only [go_sem,↓reduceIte,↓Aa,h0,h1,h2,h3,h4,w4,w5,h3',wc];refine (AgX (s0:=s0) (c:=c) rfl hb hl hr hi1 (by omega) hn hsn (by unfold PL;simp only [go_sem,↓reduceIte,↓Aa,h0,h1,h2,h3,h4]) (by simp only [go_sem,↓reduceIte,↓Aa])).mono ?_;rintro e σ ⟨rfl,n,A,hn,hsn,⟨h0,h1,h2,h3,h4⟩,rfl⟩;simp only [go_sem,↓reduceIte,↓Aa,h0,h1,h2,h3,h4,wc];refine hN (c+1,i,n) _ (by simp only;omega) ⟨⟨by simp only;omega,hi1,hi2⟩,hn,hsn,?_⟩;simp only [go_sem,↓reduceIte,↓Aa,h0,h1,h2,h3]
  ·have hc5':¬(c:Int)<5:=by omega
   subst hQ;simp only [go_sem,↓reduceIte,↓Aa,hc5'];exact hK m false hm (fun h=>by cases h)
 ·refine ⟨⟨by simp only;omega,Nat.le_refl _,hab⟩,SegP.refl,Srt.one (by simp only;omega),?_⟩;simp only [go_sem,↓reduceIte,↓Aa]
def JN:List UInt8:=[0,1,2,2,3,3,3,3,4,4,4,4,4,4,4,4,5,5,5,5,5,5,5,5,5,5,5,5,5,5,5,5,6,6,6,6,6,6,6,6,6,6,6,6,6,6,6,6,6,6,6,6,6,6,6,6,6,6,6,6,6,6,6,6,7,7,7,7,7,7,7,7,7,7,7,7,7,7,7,7,7,7,7,7,7,7,7,7,7,7,7,7,7,7,7,7,7,7,7,7,7,7,7,7,7,7,7,7,7,7,7,7,7,7,7,7,7,7,7,7,7,7,7,7,7,7,7,7,8,8,8,8,8,8,8,8,8,8,8,8,8,8,8,8,8,8,8,8,8,8,8,8,8,8,8,8,8,8,8,8,8,8,8,8,8,8,8,8,8,8,8,8,8,8,8,8,8,8,8,8,8,8,8,8,8,8,8,8,8,8,8,8,8,8,8,8,8,8,8,8,8,8,8,8,8,8,8,8,8,8,8,8,8,8,8,8,8,8,8,8,8,8,8,8,8,8,8,8,8,8,8,8,8,8,8,8,8,8,8,8,8,8,8,8,8,8,8,8,8,8,8,8,8,8,8,8]
theorem Ll:∀n<256,JN[n]!.toNat≤8∧(0<n→2 ^ JN[n]!.toNat≤2*n):=by decide +kernel
theorem Y8 {n k:Nat}(hk:k≤64):Abv .u64 (n:Int) (k:Int)=((n / 2 ^ k:Nat):Int):=by
 unfold Abv;rw [Int.toNat_natCast,Nat.min_eq_left (show k≤IntKind.u64.bits from hk),Int.fdiv_eq_ediv_of_nonneg _ (by exact_mod_cast Nat.zero_le _)]
 norm_cast
theorem UX {n:Nat}(h:n<256):IntKind.u8.wrap (n:Int)=(n:Int):=by
 have h1:∀n:Nat,n<256→IntKind.u8.wrap (n:Int)=(n:Int):=by decide +kernel
 exact h1 _ h
theorem HG {p m:Nat}(hp:p≤16)(hm:m<256):AV.int .i64 (IntKind.i64.wrap ((p:Int)+IntKind.i64.wrap ((JN[m]!.toNat:Nat):Int)))=I ((p+JN[m]!.toNat:Nat):Int):=by
 obtain ⟨g1,g2⟩:=Ll m hm;have e:IntKind.i64.wrap ((JN[m]!.toNat:Nat):Int)=((JN[m]!.toNat:Nat):Int):=by rw [Ak]<;>omega
 have e2:IntKind.i64.wrap ((p:Int)+((JN[m]!.toNat:Nat):Int))=((p+JN[m]!.toNat:Nat):Int):=by rw [Ak]<;>omega
 rw [e,e2]
theorem Ac6 (n:Nat)(hn:n≤1000000):∃v:Nat,v≤24∧(0<n→2 ^ v≤2*n)∧FnT G BD [.int .u64 n] (I v):=by
 have h1:¬(4294967296:Int)≤(n:Int):=by omega
 have e16:Abv .u64 (n:Int) 16=((n / 2 ^ 16:Nat):Int):=Y8 (n:=n) (k:=16) (by omega);have e8:Abv .u64 (n:Int) 8=((n / 2 ^ 8:Nat):Int):=Y8 (n:=n) (k:=8) (by omega);have w16:IntKind.i64.wrap 16=16:=by decide
 have w8:IntKind.i64.wrap 8=8:=by decide
 have w8':IntKind.i64.wrap (0+8)=8:=by decide
 by_cases hA:65536≤n
 ·have h2:(65536:Int)≤(n:Int):=by omega
  obtain ⟨g1,g2⟩:=Ll (n / 2 ^ 16) (by omega);have h3:¬(256:Int)≤((n / 2 ^ 16:Nat):Int):=by omega
  refine ⟨16+JN[n / 2 ^ 16]!.toNat,by omega,fun h0=>?_,FnP.mk' EE rfl rfl ?_⟩
  ·have:=g2 (by omega);rw [Nat.pow_add];omega
  ·simp only [go_sem,↓reduceIte,↓Aa,C2,h1,h2,e16,h3,UX (show n / 2 ^ 16<256 by omega)];exact ⟨by simp;omega,by first|exact HG (p:=16) (by omega) (by omega)|(rw [w16];exact HG (p:=16) (by omega) (by omega))⟩
 ·have h2:¬(65536:Int)≤(n:Int):=by omega
  by_cases hB:256≤n
  ·have h3:(256:Int)≤(n:Int):=by omega
   obtain ⟨g1,g2⟩:=Ll (n / 2 ^ 8) (by omega);refine ⟨8+JN[n / 2 ^ 8]!.toNat,by omega,fun h0=>?_,FnP.mk' EE rfl rfl ?_⟩
   ·have:=g2 (by omega);rw [Nat.pow_add];omega
   ·simp only [go_sem,↓reduceIte,↓Aa,C2,h1,h2,e8,h3,UX (show n / 2 ^ 8<256 by omega)];exact ⟨by simp;omega,by first|exact HG (p:=8) (by omega) (by omega)|(rw [w8];exact HG (p:=8) (by omega) (by omega))|(rw [w8'];exact HG (p:=8) (by omega) (by omega))⟩
  ·have h3:¬(256:Int)≤(n:Int):=by omega
   obtain ⟨g1,g2⟩:=Ll n (by omega);refine ⟨0+JN[n]!.toNat,by omega,fun h0=>?_,FnP.mk' EE rfl rfl ?_⟩
   ·have:=g2 (by omega);rw [Nat.zero_add];exact this
   ·simp only [go_sem,↓reduceIte,↓Aa,C2,h1,h2,h3,UX (show n<256 by omega)];have key:=HG (p:=0) (m:=n) (by omega) (by omega);rw [Nat.zero_add] at key;exact ⟨by omega,key⟩
theorem Vu (n:Nat)(hn:n≤1000000):∃v:Nat,v≤24∧(0<n→2 ^ v≤2*n)∧FnT G A0 [.int .u64 n] (I v):=by
 obtain ⟨v,h1,h2,h3⟩:=Ac6 n hn;have hr:∀ {fr:Bool}{roots:List Nat}{b:Nat}{ss:List Nat}{σ:St}{k:AV→St→Prop},callT G BD [.int .u64 n] fr roots b ss σ k=k (I v) σ:=h3.rule;refine ⟨v,h1,h2,FnP.mk' Oe rfl rfl ?_⟩;simp only [go_sem,↓reduceIte,↓Aa,JO,hr]
theorem Ny {n:Nat}(h:n≤1000000):IntKind.u64.wrap (n:Int)=(n:Int):=by
 exact IntWalk.u64_in _ ⟨by omega,by omega⟩
theorem AeJ (n:Nat)(h0:0<n)(hn:n≤1000000):∃v:Nat,v≤24∧2 ^ v≤2*n∧FnT G AG [I n] (.int .u64 ((2 ^ v:Nat):Int)):=by
 obtain ⟨v,h1,h2,h3⟩:=Vu n hn;have hr:∀ {fr:Bool}{roots:List Nat}{b:Nat}{ss:List Nat}{σ:St}{k:AV→St→Prop},callT G A0 [.int .u64 n] fr roots b ss σ k=k (I v) σ:=h3.rule;have hs:Afp .u64 1 (v:Int)=((2 ^ v:Nat):Int):=by
  have:∀v≤24,Afp .u64 1 ((v:Nat):Int)=((2 ^ v:Nat):Int):=by decide
  exact this v h1
 refine ⟨v,h1,h2 h0,FnP.mk' Ja rfl rfl ?_⟩;simp only [go_sem,↓reduceIte,↓Aa,Ec,Ny hn,hr,Int.natCast_nonneg,hs]
end Go.Mw
