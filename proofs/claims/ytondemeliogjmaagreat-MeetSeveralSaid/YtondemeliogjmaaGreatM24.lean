/- Sorting rows of numbers: parting. -/
import Derived.Test.YtondemeliogjmaaGreatM23
set_option linter.unusedVariables false
set_option linter.unusedSimpArgs false
namespace Go.Mw
set_option maxRecDepth 100000
structure PInv (l m:List Int)(a b i j:Nat):Prop where
 seg:SegP l m a b
 ai:a+1≤i
 ij:i≤j+1
 jb:j<b
 aj:a≤j
 lo:∀k,a+1≤k→k<i→ltI m[k]! m[a]! = true
 hi:∀k,j<k→k<b→ltI m[k]! m[a]! = false
structure PPost (l m:List Int)(a b j:Nat):Prop where
 seg:SegP l m a b
 aj:a≤j
 jb:j<b
 lo:∀k,a≤k→k<j→ltI m[k]! m[j]! = true
 hi:∀k,j<k→k<b→ltI m[k]! m[j]! = false
theorem PInv.up {l m:List Int}{a b i j:Nat}(h:PInv l m a b i j)(hij:i≤j)(hlt:m[i]! < m[a]!):PInv l m a b (i+1) j :=
 ⟨h.seg,by have:=h.ai;omega,by omega,h.jb,h.aj,fun k h1 h2=>by
  by_cases e:k=i
  ·rw [e];unfold ltI;rw [decide_eq_true_eq];exact hlt
  ·exact h.lo k h1 (by omega),h.hi⟩
theorem PInv.down {l m:List Int}{a b i j:Nat}(h:PInv l m a b i j)(hij:i≤j)(hge:¬m[j]! < m[a]!):PInv l m a b i (j-1) :=
 ⟨h.seg,h.ai,by omega,by have:=h.jb;omega,by have:=h.ai;omega,h.lo,fun k h1 h2=>by
  by_cases e:k=j
  ·rw [e];unfold ltI;rw [decide_eq_false_iff_not];exact hge
  ·exact h.hi k (by omega) h2⟩
theorem PInv.swap {l m:List Int}{a b i j:Nat}(hbl:b≤l.length)(h:PInv l m a b i j)(hij:i≤j)(hge:¬m[i]! < m[a]!)(hlt:m[j]! < m[a]!):PInv l (sw m i j) a b (i+1) (j-1):=by
 have hml:=h.seg.len;have h1:=h.ai;have h2:=h.jb;have hne:i≠j:=fun e=>hge (by rw [e];exact hlt);have hi':i<m.length:=by omega
 have hj':j<m.length:=by omega
 have hg:=@sw_get Int _ m i j;refine ⟨h.seg.tr (sw_seg hi' hj' (by omega) (by omega) (by omega) (by omega)),by omega,by omega,by omega,by omega,fun k h3 h4=>?_,fun k h3 h4=>?_⟩
 ·rw [hg hi' hj',hg hi' hj',if_neg (show ¬k=j by omega),if_neg (show ¬a=j by omega),if_neg (show ¬a=i by omega)];by_cases e:k=i
  ·rw [if_pos e];unfold ltI;rw [decide_eq_true_eq];exact hlt
  ·rw [if_neg e];exact h.lo k h3 (by omega)
 ·rw [hg hi' hj',hg hi' hj',if_neg (show ¬a=j by omega),if_neg (show ¬a=i by omega)];by_cases e:k=j
  ·rw [if_pos e];unfold ltI;rw [decide_eq_false_iff_not];exact hge
  ·rw [if_neg e,if_neg (by omega)];exact h.hi k (by omega) h4
theorem PInv.fin {l m:List Int}{a b i j:Nat}(hbl:b≤l.length)(h:PInv l m a b i j)(hij:¬i≤j):PPost l (sw m j a) a b j:=by
 have hml:=h.seg.len;have h1:=h.ai;have h2:=h.jb;have h3:=h.aj;have h4:=h.ij;have ha':a<m.length:=by omega
 have hj':j<m.length:=by omega
 have hg:=@sw_get Int _ m j a;refine ⟨h.seg.tr (sw_seg hj' ha' (by omega) (by omega) (by omega) (by omega)),h3,h2,fun k h5 h6=>?_,fun k h5 h6=>?_⟩
 ·rw [hg hj' ha',hg hj' ha',if_neg (show ¬j=a by omega),if_pos rfl];by_cases e:k=a
  ·rw [if_pos e];exact h.lo j (by omega) (by omega)
  ·rw [if_neg e,if_neg (by omega)];exact h.lo k (by omega) (by omega)
 ·rw [hg hj' ha',hg hj' ha',if_neg (show ¬k=a by omega),if_neg (show ¬k=j by omega)];by_cases e:j=a
  ·rw [if_pos e,e];exact h.hi k h5 h6
  ·rw [if_neg e,if_pos rfl];exact h.hi k h5 h6
theorem PInv.start {l:List Int}{a b p:Nat}(hbl:b≤l.length)(h1:a≤p)(h2:p<b):PInv l (sw l a p) a b (a+1) (b-1) :=
 ⟨sw_seg (by omega) (by omega) (Nat.le_refl _) (by omega) h1 h2,Nat.le_refl _,by omega,by omega,by omega,fun k h3 h4=>by omega,fun k h3 h4=>by omega⟩
theorem AhE {l m:List Int}{a b i j L:Nat}(hL:l.length=L)(hb:b≤l.length)(hl:l.length≤1000000){r st ss s0:Nat}{H:List Ob}{lp:List Lp}(hr:r<H.length)(hp:PInv l m a b i j){z:Nat}(hz:z=i){d:AV}{A:List (Nat×AV)}(hA:(AX d 0 A = .sl r st [] s0 0 L∧AX d 1 A=I a∧AX d 10 A=I i∧AX d 11 A=I j)){B:Nat} :
 Wp G Cr B ⟨aT d 168 A,dh H r st ss m,lp⟩ (fun e σ=>e = .ext 0∧∃(i:Nat) (A:List (Nat×AV)),z≤i∧PInv l m a b i j∧(i≤j→¬m[i]! < m[a]!)∧(AX .undef 0 A = .sl r st [] s0 0 L∧AX .undef 1 A=I a∧AX .undef 10 A=I i∧AX .undef 11 A=I j)∧σ=⟨aT .undef 168 A,dh H r st ss m,lp⟩):=by
 subst hL;obtain ⟨h0,h1,h2,h3⟩:=hA;have hle:z≤i:=by omega
 refine Ac (fun (i:Nat) σ=>z≤i∧PInv l m a b i j∧σ=⟨aT .undef 168 [(0,.sl r st [] s0 0 l.length),(1,I a),(10,I i),(11,I j)],dh H r st ss m,lp⟩) (fun i=>j+1-i) ?_ i ?_
 ·rintro i σ ⟨hzx,hp,rfl⟩ N Q hQ hN;have b0:=hp.ai;have b1:=hp.ij;have b2:=hp.jb;have b3:=hp.aj;have hml:=hp.seg.len;have b4:a<l.length:=by omega
  have b4':a<m.length:=by omega
  by_cases hij:i≤j
  ·have b5:i<l.length:=by omega
   have b5':i<m.length:=by omega
   have w1:IntKind.i64.wrap ((i:Int)+1)=((i+1:Nat):Int):=by rw [As]<;>omega
   by_cases hlt:m[i]! < m[a]!
   ·simp only [go_sem,↓reduceIte,↓Aa,Int.ofNat_le,Int.ofNat_lt,hij,b4,b4',b5,b5',AW hr,hlt,w1];refine hN (i+1) _ (by omega) ⟨by omega,hp.up hij hlt,?_⟩;simp only [go_sem,↓reduceIte,↓Aa]
   ·subst hQ;simp only [go_sem,↓reduceIte,↓Aa,Int.ofNat_le,Int.ofNat_lt,hij,b4,b4',b5,b5',AW hr,hlt];exact ⟨i,_,hzx,hp,fun _=>hlt,by simp only [go_sem,↓reduceIte,↓Aa],rfl⟩
  ·subst hQ;simp only [go_sem,↓reduceIte,↓Aa,Int.ofNat_le,hij];exact ⟨i,_,hzx,hp,fun h=>absurd h hij,by simp only [go_sem,↓reduceIte,↓Aa],rfl⟩
 ·refine ⟨hle,hp,?_⟩;simp only [go_sem,↓reduceIte,↓Aa,h0,h1,h2,h3]
theorem Aiy {l m:List Int}{a b i j L:Nat}(hL:l.length=L)(hb:b≤l.length)(hl:l.length≤1000000){r st ss s0:Nat}{H:List Ob}{lp:List Lp}(hr:r<H.length)(hp:PInv l m a b i j){z:Nat}(hz:z=i){d:AV}{A:List (Nat×AV)}(hA:(AX d 0 A = .sl r st [] s0 0 L∧AX d 1 A=I a∧AX d 10 A=I i∧AX d 11 A=I j)){B:Nat} :
 Wp G Cs B ⟨aT d 168 A,dh H r st ss m,lp⟩ (fun e σ=>e = .ext 6∧∃(i:Nat) (A:List (Nat×AV)),z≤i∧PInv l m a b i j∧(i≤j→¬m[i]! < m[a]!)∧(AX .undef 0 A = .sl r st [] s0 0 L∧AX .undef 1 A=I a∧AX .undef 10 A=I i∧AX .undef 11 A=I j)∧σ=⟨aT .undef 168 A,dh H r st ss m,lp⟩):=by
 subst hL;obtain ⟨h0,h1,h2,h3⟩:=hA;have hle:z≤i:=by omega
 refine Ac (fun (i:Nat) σ=>z≤i∧PInv l m a b i j∧σ=⟨aT .undef 168 [(0,.sl r st [] s0 0 l.length),(1,I a),(10,I i),(11,I j)],dh H r st ss m,lp⟩) (fun i=>j+1-i) ?_ i ?_
 ·rintro i σ ⟨hzx,hp,rfl⟩ N Q hQ hN;have b0:=hp.ai;have b1:=hp.ij;have b2:=hp.jb;have b3:=hp.aj;have hml:=hp.seg.len;have b4:a<l.length:=by omega
  have b4':a<m.length:=by omega
  by_cases hij:i≤j
  ·have b5:i<l.length:=by omega
   have b5':i<m.length:=by omega
   have w1:IntKind.i64.wrap ((i:Int)+1)=((i+1:Nat):Int):=by rw [As]<;>omega
   by_cases hlt:m[i]! < m[a]!
   ·simp only [go_sem,↓reduceIte,↓Aa,Int.ofNat_le,Int.ofNat_lt,hij,b4,b4',b5,b5',AW hr,hlt,w1];refine hN (i+1) _ (by omega) ⟨by omega,hp.up hij hlt,?_⟩;simp only [go_sem,↓reduceIte,↓Aa]
   ·subst hQ;simp only [go_sem,↓reduceIte,↓Aa,Int.ofNat_le,Int.ofNat_lt,hij,b4,b4',b5,b5',AW hr,hlt];exact ⟨i,_,hzx,hp,fun _=>hlt,by simp only [go_sem,↓reduceIte,↓Aa],rfl⟩
  ·subst hQ;simp only [go_sem,↓reduceIte,↓Aa,Int.ofNat_le,hij];exact ⟨i,_,hzx,hp,fun h=>absurd h hij,by simp only [go_sem,↓reduceIte,↓Aa],rfl⟩
 ·refine ⟨hle,hp,?_⟩;simp only [go_sem,↓reduceIte,↓Aa,h0,h1,h2,h3]
theorem AhD {l m:List Int}{a b i j L:Nat}(hL:l.length=L)(hb:b≤l.length)(hl:l.length≤1000000){r st ss s0:Nat}{H:List Ob}{lp:List Lp}(hr:r<H.length)(hp:PInv l m a b i j){z:Nat}(hz:z=j){d:AV}{A:List (Nat×AV)}(hA:(AX d 0 A = .sl r st [] s0 0 L∧AX d 1 A=I a∧AX d 10 A=I i∧AX d 11 A=I j)){B:Nat} :
 Wp G Cu B ⟨aT d 168 A,dh H r st ss m,lp⟩ (fun e σ=>e = .ext 2∧∃(j:Nat) (A:List (Nat×AV)),j≤z∧PInv l m a b i j∧(i≤j→m[j]! < m[a]!)∧(AX .undef 0 A = .sl r st [] s0 0 L∧AX .undef 1 A=I a∧AX .undef 10 A=I i∧AX .undef 11 A=I j)∧σ=⟨aT .undef 168 A,dh H r st ss m,lp⟩):=by
 subst hL;obtain ⟨h0,h1,h2,h3⟩:=hA;have hle:j≤z:=by omega
 refine Ac (fun (j:Nat) σ=>j≤z∧PInv l m a b i j∧σ=⟨aT .undef 168 [(0,.sl r st [] s0 0 l.length),(1,I a),(10,I i),(11,I j)],dh H r st ss m,lp⟩) (fun j=>j+1-i) ?_ j ?_
 ·rintro j σ ⟨hzx,hp,rfl⟩ N Q hQ hN;have b0:=hp.ai;have b1:=hp.ij;have b2:=hp.jb;have b3:=hp.aj;have hml:=hp.seg.len;have b4:a<l.length:=by omega
  have b4':a<m.length:=by omega
  by_cases hij:i≤j
  ·have b5:j<l.length:=by omega
   have b5':j<m.length:=by omega
   have w1:IntKind.i64.wrap ((j:Int)-1)=((j-1:Nat):Int):=by rw [As]<;>omega
   by_cases hlt:m[j]! < m[a]!
   ·subst hQ;simp only [go_sem,↓reduceIte,↓Aa,Int.ofNat_le,Int.ofNat_lt,hij,b4,b4',b5,b5',AW hr,hlt];exact ⟨j,_,hzx,hp,fun _=>hlt,by simp only [go_sem,↓reduceIte,↓Aa],rfl⟩
   ·simp only [go_sem,↓reduceIte,↓Aa,Int.ofNat_le,Int.ofNat_lt,hij,b4,b4',b5,b5',AW hr,hlt,w1];refine hN (j-1) _ (by omega) ⟨by omega,hp.down hij hlt,?_⟩;simp only [go_sem,↓reduceIte,↓Aa]
  ·subst hQ;simp only [go_sem,↓reduceIte,↓Aa,Int.ofNat_le,hij];exact ⟨j,_,hzx,hp,fun h=>absurd h hij,by simp only [go_sem,↓reduceIte,↓Aa],rfl⟩
 ·refine ⟨hle,hp,?_⟩;simp only [go_sem,↓reduceIte,↓Aa,h0,h1,h2,h3]
theorem AiE {l m:List Int}{a b i j L:Nat}(hL:l.length=L)(hb:b≤l.length)(hl:l.length≤1000000){r st ss s0:Nat}{H:List Ob}{lp:List Lp}(hr:r<H.length)(hp:PInv l m a b i j){z:Nat}(hz:z=j){d:AV}{A:List (Nat×AV)}(hA:(AX d 0 A = .sl r st [] s0 0 L∧AX d 1 A=I a∧AX d 10 A=I i∧AX d 11 A=I j)){B:Nat} :
 Wp G Cv B ⟨aT d 168 A,dh H r st ss m,lp⟩ (fun e σ=>e = .ext 8∧∃(j:Nat) (A:List (Nat×AV)),j≤z∧PInv l m a b i j∧(i≤j→m[j]! < m[a]!)∧(AX .undef 0 A = .sl r st [] s0 0 L∧AX .undef 1 A=I a∧AX .undef 10 A=I i∧AX .undef 11 A=I j)∧σ=⟨aT .undef 168 A,dh H r st ss m,lp⟩):=by
 subst hL;obtain ⟨h0,h1,h2,h3⟩:=hA;have hle:j≤z:=by omega
 refine Ac (fun (j:Nat) σ=>j≤z∧PInv l m a b i j∧σ=⟨aT .undef 168 [(0,.sl r st [] s0 0 l.length),(1,I a),(10,I i),(11,I j)],dh H r st ss m,lp⟩) (fun j=>j+1-i) ?_ j ?_
 ·rintro j σ ⟨hzx,hp,rfl⟩ N Q hQ hN;have b0:=hp.ai;have b1:=hp.ij;have b2:=hp.jb;have b3:=hp.aj;have hml:=hp.seg.len;have b4:a<l.length:=by omega
  have b4':a<m.length:=by omega
  by_cases hij:i≤j
  ·have b5:j<l.length:=by omega
   have b5':j<m.length:=by omega
   have w1:IntKind.i64.wrap ((j:Int)-1)=((j-1:Nat):Int):=by rw [As]<;>omega
   by_cases hlt:m[j]! < m[a]!
   ·subst hQ;simp only [go_sem,↓reduceIte,↓Aa,Int.ofNat_le,Int.ofNat_lt,hij,b4,b4',b5,b5',AW hr,hlt];exact ⟨j,_,hzx,hp,fun _=>hlt,by simp only [go_sem,↓reduceIte,↓Aa],rfl⟩
   ·simp only [go_sem,↓reduceIte,↓Aa,Int.ofNat_le,Int.ofNat_lt,hij,b4,b4',b5,b5',AW hr,hlt,w1];refine hN (j-1) _ (by omega) ⟨by omega,hp.down hij hlt,?_⟩;simp only [go_sem,↓reduceIte,↓Aa]
  ·subst hQ;simp only [go_sem,↓reduceIte,↓Aa,Int.ofNat_le,hij];exact ⟨j,_,hzx,hp,fun h=>absurd h hij,by simp only [go_sem,↓reduceIte,↓Aa],rfl⟩
 ·refine ⟨hle,hp,?_⟩;simp only [go_sem,↓reduceIte,↓Aa,h0,h1,h2,h3]
theorem Ail {l m:List Int}{a b i j L:Nat}(hL:l.length=L)(hb:b≤l.length)(hl:l.length≤1000000){r st ss s0:Nat}{H:List Ob}{lp:List Lp}(hr:r<H.length)(hp:PInv l m a b i j){d:AV}{A:List (Nat×AV)}(hA:(AX d 0 A = .sl r st [] s0 0 L∧AX d 1 A=I a∧AX d 10 A=I i∧AX d 11 A=I j)){B:Nat} :
 Wp G Ct B ⟨aT d 168 A,dh H r st ss m,lp⟩ (fun e σ=>e = .ext 4∧∃(m:List Int) (i j:Nat) (A:List (Nat×AV)),PInv l m a b i j∧¬i≤j∧(AX .undef 0 A = .sl r st [] s0 0 L∧AX .undef 1 A=I a∧AX .undef 10 A=I i∧AX .undef 11 A=I j)∧σ=⟨aT .undef 168 A,dh H r st ss m,lp⟩):=by
 subst hL;obtain ⟨h0,h1,h2,h3⟩:=hA;refine Ac (fun (g:Nat×Nat×List Int) σ=>PInv l g.2.2 a b g.1 g.2.1∧σ=⟨aT .undef 168 [(0,.sl r st [] s0 0 l.length),(1,I a),(10,I g.1),(11,I g.2.1)],dh H r st ss g.2.2,lp⟩) (fun g=>g.2.1+1-g.1) ?_ (i,j,m) ?_
 ·rintro ⟨i,j,m⟩ σ ⟨hp,rfl⟩ N Q hQ hN;simp only at hp ⊢;simp only [go_sem,↓reduceIte,↓Aa];refine (Aiy (s0:=s0) rfl hb hl hr hp rfl (by simp only [go_sem,↓reduceIte,↓Aa])).mono ?_;rintro e σ ⟨rfl,i',A,hzi,hp,hex,⟨h0,h1,h2,h3⟩,rfl⟩;simp only [go_sem,↓reduceIte,↓Aa];refine (AiE rfl hb hl hr hp rfl ⟨h0,h1,h2,h3⟩).mono ?_;rintro e σ ⟨rfl,j',A,hzj,hp,hex2,⟨h0,h1,h2,h3⟩,rfl⟩;have b0:=hp.ai;have b1:=hp.ij;have b2:=hp.jb;have b3:=hp.aj;have hml:=hp.seg.len;by_cases hij:i'≤j'
  ·have hgt:¬j'<i':=by omega
   have b5:i'<l.length:=by omega
   have b5':i'<m.length:=by omega
   have b6:j'<l.length:=by omega
   have b6':j'<m.length:=by omega
   have w2:IntKind.i64.wrap ((i':Int)+1)=((i'+1:Nat):Int):=by rw [As]<;>omega
   have w3:IntKind.i64.wrap ((j':Int)-1)=((j'-1:Nat):Int):=by rw [As]<;>omega
   simp only [go_sem,↓reduceIte,↓Aa,h0,h1,h2,h3,Int.ofNat_lt,hgt,b5,b5',b6,b6',AW hr,w2,w3];refine ⟨by simpa using b6',hN (i'+1,j'-1,sw m i' j') _ (by simp only;omega) ⟨hp.swap hb hij (hex (by omega)) (hex2 hij),?_⟩⟩;simp only [go_sem,↓reduceIte,↓Aa,h0,h1,sw]
  ·have hgt:j'<i':=by omega
   subst hQ;simp only [go_sem,↓reduceIte,↓Aa,h0,h1,h2,h3,Int.ofNat_lt,hgt];exact ⟨m,i',j',_,hp,hij,by simp only [go_sem,↓reduceIte,↓Aa,h0,h1,h2,h3],rfl⟩
 ·refine ⟨hp,?_⟩;simp only [go_sem,↓reduceIte,↓Aa,h0,h1,h2,h3]
theorem Aet {l:List Int}{a b p:Nat}(hap:a≤p)(hpb:p<b)(hb:b≤l.length)(hl:l.length≤1000000){t:List AV}{lp:List Lp}{H:List Ob}{r st ss s0 bs:Nat}{K:AV→St→Prop}{L:Nat}(hL:l.length=L)(hr:r<H.length)
 (hK:∀l' j v,PPost l l' a b j→K (.tup [I (j:Nat),Bo v]) ⟨t,dh H r st ss l',lp⟩):Bc G A7 [.sl r st [] s0 0 L,I a,I b,I p] bs [] ⟨t,dh H r st ss l,lp⟩ K:=by
 subst hL;refine Bs FP rfl ?_;rw [A6 (by simp)];have wa:IntKind.i64.wrap ((a:Int)+1)=((a+1:Nat):Int):=by rw [As]<;>omega
 have wb:IntKind.i64.wrap ((b:Int)-1)=((b-1:Nat):Int):=by rw [As]<;>omega
 have a1:a<l.length:=by omega
 have p1:p<l.length:=by omega
 simp only [go_sem,↓reduceIte,↓Aa,CV,wa,wb,a1,p1,AW hr,Int.ofNat_lt];refine ⟨by simpa using p1,?_⟩;have hst:=PInv.start (l:=l) hb hap hpb;have hsw:(l.set a l[p]!).set p l[a]! = sw l a p:=rfl;rw [hsw];refine (AhE (s0:=s0) rfl hb hl hr hst rfl (by simp only [go_sem,↓reduceIte,↓Aa])).mono ?_;rintro e σ ⟨rfl,i',A,hzi,hp,hex,⟨h0,h1,h2,h3⟩,rfl⟩;simp only [go_sem,↓reduceIte,↓Aa];refine (AhD rfl hb hl hr hp rfl ⟨h0,h1,h2,h3⟩).mono ?_;rintro e σ ⟨rfl,j',A,hzj,hp,hex2,⟨h0,h1,h2,h3⟩,rfl⟩;have b0:=hp.ai;have b1:=hp.ij;have b2:=hp.jb;have b3:=hp.aj;generalize sw l a p=m at *;have hml:=hp.seg.len;have b4:a<l.length:=by omega
 have b4':a<m.length:=by omega
 have b6:j'<l.length:=by omega
 have b6':j'<m.length:=by omega
 by_cases hij:i'≤j'
 ·have hgt:¬j'<i':=by omega
  have b5:i'<l.length:=by omega
  have b5':i'<m.length:=by omega
  have w2:IntKind.i64.wrap ((i':Int)+1)=((i'+1:Nat):Int):=by rw [As]<;>omega
  have w3:IntKind.i64.wrap ((j':Int)-1)=((j'-1:Nat):Int):=by rw [As]<;>omega
  have hps:=hp.swap hb hij (hex (by omega)) (hex2 hij);simp only [go_sem,↓reduceIte,↓Aa,h0,h1,h2,h3,Int.ofNat_lt,hgt,b5,b5',b6,b6',AW hr,w2,w3];refine ⟨by simpa using b6',?_⟩;have hsw2:(m.set i' m[j']!).set j' m[i']! = sw m i' j':=rfl;rw [hsw2];refine (Ail (s0:=s0) rfl hb hl hr hps (by simp only [go_sem,↓reduceIte,↓Aa,h0,h1])).mono ?_;rintro e σ ⟨rfl,n,i2,j2,A,hp,hij2,⟨h0,h1,h2,h3⟩,rfl⟩;have b0:=hp.ai;have b1:=hp.ij;have b2:=hp.jb;have b3:=hp.aj;have hnl:=hp.seg.len;have c4':a<n.length:=by omega
  have c6:j2<l.length:=by omega
  have c6':j2<n.length:=by omega
  simp only [go_sem,↓reduceIte,↓Aa,h0,h1,h2,h3,Int.ofNat_lt,b4,c4',c6,c6',AW hr];refine ⟨by simpa using c4',?_⟩;exact hK _ j2 false (hp.fin hb hij2)
 ·have hgt:j'<i':=by omega
  simp only [go_sem,↓reduceIte,↓Aa,h0,h1,h2,h3,Int.ofNat_lt,hgt,b4,b4',b6,b6',AW hr];refine ⟨by simpa using b4',?_⟩;exact hK _ j' true (hp.fin hb hij)
structure EInv (l m:List Int)(a b:Nat)(v:Int)(i j:Nat):Prop where
 seg:SegP l m a b
 ai:a+1≤i
 ij:i≤j+1
 jb:j<b
 aj:a≤j
 pv:m[a]! = v
 lo:∀k,a+1≤k→k<i→¬v<m[k]!
 hi:∀k,j<k→k<b→v<m[k]!
structure EPost (l m:List Int)(a b:Nat)(v:Int)(i:Nat):Prop where
 seg:SegP l m a b
 ai:a<i
 ib:i≤b
 lo:∀k,a≤k→k<i→¬v<m[k]!
 hi:∀k,i≤k→k<b→v<m[k]!
theorem EInv.up {l m:List Int}{a b i j:Nat}{v:Int}(h:EInv l m a b v i j)(hij:i≤j)(hlt:¬m[a]! < m[i]!):EInv l m a b v (i+1) j :=
 ⟨h.seg,by have:=h.ai;omega,by omega,h.jb,h.aj,h.pv,fun k h1 h2=>by
  by_cases e:k=i
  ·rw [e,←h.pv];exact hlt
  ·exact h.lo k h1 (by omega),h.hi⟩
theorem EInv.down {l m:List Int}{a b i j:Nat}{v:Int}(h:EInv l m a b v i j)(hij:i≤j)(hge:m[a]! < m[j]!):EInv l m a b v i (j-1) :=
 ⟨h.seg,h.ai,by omega,by have:=h.jb;omega,by have:=h.ai;omega,h.pv,h.lo,fun k h1 h2=>by
  by_cases e:k=j
  ·rw [e,←h.pv];exact hge
  ·exact h.hi k (by omega) h2⟩
theorem EInv.swap {l m:List Int}{a b i j:Nat}{v:Int}(hbl:b≤l.length)(h:EInv l m a b v i j)(hij:i≤j)(hge:m[a]! < m[i]!)(hlt:¬m[a]! < m[j]!):EInv l (sw m i j) a b v (i+1) (j-1):=by
 have hml:=h.seg.len;have h1:=h.ai;have h2:=h.jb;have hpv:=h.pv;have hne:i≠j:=fun e=>hlt (by rw [←e];exact hge);have hi':i<m.length:=by omega
 have hj':j<m.length:=by omega
 have hg:=@sw_get Int _ m i j;refine ⟨h.seg.tr (sw_seg hi' hj' (by omega) (by omega) (by omega) (by omega)),by omega,by omega,by omega,by omega,?_,fun k h3 h4=>?_,fun k h3 h4=>?_⟩
 ·rw [hg hi' hj',if_neg (show ¬a=j by omega),if_neg (show ¬a=i by omega)];exact hpv
 ·rw [hg hi' hj',if_neg (show ¬k=j by omega)];by_cases e:k=i
  ·rw [if_pos e,←hpv];exact hlt
  ·rw [if_neg e];exact h.lo k h3 (by omega)
 ·rw [hg hi' hj'];by_cases e:k=j
  ·rw [if_pos e,←hpv];exact hge
  ·rw [if_neg e,if_neg (by omega)];exact h.hi k (by omega) h4
theorem EInv.fin {l m:List Int}{a b i j:Nat}{v:Int}(h:EInv l m a b v i j)(hij:¬i≤j):EPost l m a b v i:=by
 have h1:=h.ai;have h2:=h.jb;have h3:=h.ij;refine ⟨h.seg,by omega,by omega,fun k h5 h6=>?_,fun k h5 h6=>h.hi k (by omega) h6⟩;by_cases e:k=a
 ·rw [e,h.pv];omega
 ·exact h.lo k (by omega) h6
theorem EInv.start {l:List Int}{a b p:Nat}(hbl:b≤l.length)(h1:a≤p)(h2:p<b):EInv l (sw l a p) a b l[p]! (a+1) (b-1):=by
 refine ⟨sw_seg (by omega) (by omega) (Nat.le_refl _) (by omega) h1 h2,Nat.le_refl _,by omega,by omega,by omega,?_,fun k h3 h4=>by omega,fun k h3 h4=>by omega⟩;rw [sw_get (by omega) (by omega)];by_cases e:a=p
 ·rw [if_pos e,e]
 ·rw [if_neg e,if_pos rfl]
theorem Ajs {l m:List Int}{a b i j L:Nat}{v:Int}(hL:l.length=L)(hb:b≤l.length)(hl:l.length≤1000000){r st ss s0:Nat}{H:List Ob}{lp:List Lp}(hr:r<H.length)(hp:EInv l m a b v i j){z:Nat}(hz:z=i){d:AV}{A:List (Nat×AV)}(hA:(AX d 0 A = .sl r st [] s0 0 L∧AX d 1 A=I a∧AX d 9 A=I i∧AX d 10 A=I j)){B:Nat} :
 Wp G BO B ⟨aT d 84 A,dh H r st ss m,lp⟩ (fun e σ=>e = .ext 2∧∃(i:Nat) (A:List (Nat×AV)),z≤i∧EInv l m a b v i j∧(i≤j→m[a]! < m[i]!)∧(AX .undef 0 A = .sl r st [] s0 0 L∧AX .undef 1 A=I a∧AX .undef 9 A=I i∧AX .undef 10 A=I j)∧σ=⟨aT .undef 84 A,dh H r st ss m,lp⟩):=by
 subst hL;obtain ⟨h0,h1,h2,h3⟩:=hA;have hle:z≤i:=by omega
 refine Ac (fun (i:Nat) σ=>z≤i∧EInv l m a b v i j∧σ=⟨aT .undef 84 [(0,.sl r st [] s0 0 l.length),(1,I a),(9,I i),(10,I j)],dh H r st ss m,lp⟩) (fun i=>j+1-i) ?_ i ?_
 ·rintro i σ ⟨hzx,hp,rfl⟩ N Q hQ hN;have b0:=hp.ai;have b1:=hp.ij;have b2:=hp.jb;have b3:=hp.aj;have hml:=hp.seg.len;have b4:a<l.length:=by omega
  have b4':a<m.length:=by omega
  by_cases hij:i≤j
  ·have b5:i<l.length:=by omega
   have b5':i<m.length:=by omega
   have w1:IntKind.i64.wrap ((i:Int)+1)=((i+1:Nat):Int):=by rw [As]<;>omega
   by_cases hlt:m[a]! < m[i]!
   ·subst hQ;simp only [go_sem,↓reduceIte,↓Aa,Int.ofNat_le,Int.ofNat_lt,hij,b4,b4',b5,b5',AW hr,hlt];exact ⟨i,_,hzx,hp,fun _=>hlt,by simp only [go_sem,↓reduceIte,↓Aa],rfl⟩
   ·simp only [go_sem,↓reduceIte,↓Aa,Int.ofNat_le,Int.ofNat_lt,hij,b4,b4',b5,b5',AW hr,hlt,w1];refine hN (i+1) _ (by omega) ⟨by omega,hp.up hij hlt,?_⟩;simp only [go_sem,↓reduceIte,↓Aa]
  ·subst hQ;simp only [go_sem,↓reduceIte,↓Aa,Int.ofNat_le,hij];exact ⟨i,_,hzx,hp,fun h=>absurd h hij,by simp only [go_sem,↓reduceIte,↓Aa],rfl⟩
 ·refine ⟨hle,hp,?_⟩;simp only [go_sem,↓reduceIte,↓Aa,h0,h1,h2,h3]
theorem Ajq {l m:List Int}{a b i j L:Nat}{v:Int}(hL:l.length=L)(hb:b≤l.length)(hl:l.length≤1000000){r st ss s0:Nat}{H:List Ob}{lp:List Lp}(hr:r<H.length)(hp:EInv l m a b v i j){z:Nat}(hz:z=j){d:AV}{A:List (Nat×AV)}(hA:(AX d 0 A = .sl r st [] s0 0 L∧AX d 1 A=I a∧AX d 9 A=I i∧AX d 10 A=I j)){B:Nat} :
 Wp G BN B ⟨aT d 84 A,dh H r st ss m,lp⟩ (fun e σ=>e = .ext 4∧∃(j:Nat) (A:List (Nat×AV)),j≤z∧EInv l m a b v i j∧(i≤j→¬m[a]! < m[j]!)∧(AX .undef 0 A = .sl r st [] s0 0 L∧AX .undef 1 A=I a∧AX .undef 9 A=I i∧AX .undef 10 A=I j)∧σ=⟨aT .undef 84 A,dh H r st ss m,lp⟩):=by
 subst hL;obtain ⟨h0,h1,h2,h3⟩:=hA;have hle:j≤z:=by omega
 refine Ac (fun (j:Nat) σ=>j≤z∧EInv l m a b v i j∧σ=⟨aT .undef 84 [(0,.sl r st [] s0 0 l.length),(1,I a),(9,I i),(10,I j)],dh H r st ss m,lp⟩) (fun j=>j+1-i) ?_ j ?_
 ·rintro j σ ⟨hzx,hp,rfl⟩ N Q hQ hN;have b0:=hp.ai;have b1:=hp.ij;have b2:=hp.jb;have b3:=hp.aj;have hml:=hp.seg.len;have b4:a<l.length:=by omega
  have b4':a<m.length:=by omega
  by_cases hij:i≤j
  ·have b5:j<l.length:=by omega
   have b5':j<m.length:=by omega
   have w1:IntKind.i64.wrap ((j:Int)-1)=((j-1:Nat):Int):=by rw [As]<;>omega
   by_cases hlt:m[a]! < m[j]!
   ·simp only [go_sem,↓reduceIte,↓Aa,Int.ofNat_le,Int.ofNat_lt,hij,b4,b4',b5,b5',AW hr,hlt,w1];refine hN (j-1) _ (by omega) ⟨by omega,hp.down hij hlt,?_⟩;simp only [go_sem,↓reduceIte,↓Aa]
   ·subst hQ;simp only [go_sem,↓reduceIte,↓Aa,Int.ofNat_le,Int.ofNat_lt,hij,b4,b4',b5,b5',AW hr,hlt];exact ⟨j,_,hzx,hp,fun _=>hlt,by simp only [go_sem,↓reduceIte,↓Aa],rfl⟩
  ·subst hQ;simp only [go_sem,↓reduceIte,↓Aa,Int.ofNat_le,hij];exact ⟨j,_,hzx,hp,fun h=>absurd h hij,by simp only [go_sem,↓reduceIte,↓Aa],rfl⟩
 ·refine ⟨hle,hp,?_⟩;simp only [go_sem,↓reduceIte,↓Aa,h0,h1,h2,h3]
theorem Ajr {l m:List Int}{a b i j L:Nat}{v:Int}(hL:l.length=L)(hb:b≤l.length)(hl:l.length≤1000000){r st ss s0:Nat}{H:List Ob}{lp:List Lp}(hr:r<H.length)(hp:EInv l m a b v i j){d:AV}{A:List (Nat×AV)}(hA:(AX d 0 A = .sl r st [] s0 0 L∧AX d 1 A=I a∧AX d 9 A=I i∧AX d 10 A=I j)){B:Nat} :
 Wp G BM B ⟨aT d 84 A,dh H r st ss m,lp⟩ (fun e σ=>e = .ext 0∧∃(m:List Int) (i j:Nat) (A:List (Nat×AV)),EInv l m a b v i j∧¬i≤j∧(AX .undef 0 A = .sl r st [] s0 0 L∧AX .undef 1 A=I a∧AX .undef 9 A=I i∧AX .undef 10 A=I j)∧σ=⟨aT .undef 84 A,dh H r st ss m,lp⟩):=by
 subst hL;obtain ⟨h0,h1,h2,h3⟩:=hA;refine Ac (fun (g:Nat×Nat×List Int) σ=>EInv l g.2.2 a b v g.1 g.2.1∧σ=⟨aT .undef 84 [(0,.sl r st [] s0 0 l.length),(1,I a),(9,I g.1),(10,I g.2.1)],dh H r st ss g.2.2,lp⟩) (fun g=>g.2.1+1-g.1) ?_ (i,j,m) ?_
 ·rintro ⟨i,j,m⟩ σ ⟨hp,rfl⟩ N Q hQ hN;simp only at hp ⊢;simp only [go_sem,↓reduceIte,↓Aa];refine (Ajs (s0:=s0) rfl hb hl hr hp rfl (by simp only [go_sem,↓reduceIte,↓Aa])).mono ?_;rintro e σ ⟨rfl,i',A,hzi,hp,hex,⟨h0,h1,h2,h3⟩,rfl⟩;simp only [go_sem,↓reduceIte,↓Aa];refine (Ajq rfl hb hl hr hp rfl ⟨h0,h1,h2,h3⟩).mono ?_;rintro e σ ⟨rfl,j',A,hzj,hp,hex2,⟨h0,h1,h2,h3⟩,rfl⟩;have b0:=hp.ai;have b1:=hp.ij;have b2:=hp.jb;have b3:=hp.aj;have hml:=hp.seg.len;by_cases hij:i'≤j'
  ·have hgt:¬j'<i':=by omega
   have b5:i'<l.length:=by omega
   have b5':i'<m.length:=by omega
   have b6:j'<l.length:=by omega
   have b6':j'<m.length:=by omega
   have w2:IntKind.i64.wrap ((i':Int)+1)=((i'+1:Nat):Int):=by rw [As]<;>omega
   have w3:IntKind.i64.wrap ((j':Int)-1)=((j'-1:Nat):Int):=by rw [As]<;>omega
   simp only [go_sem,↓reduceIte,↓Aa,h0,h1,h2,h3,Int.ofNat_lt,hgt,b5,b5',b6,b6',AW hr,w2,w3];refine ⟨by simpa using b6',hN (i'+1,j'-1,sw m i' j') _ (by simp only;omega) ⟨hp.swap hb hij (hex (by omega)) (hex2 hij),?_⟩⟩;simp only [go_sem,↓reduceIte,↓Aa,h0,h1,sw]
  ·have hgt:j'<i':=by omega
   subst hQ;simp only [go_sem,↓reduceIte,↓Aa,h0,h1,h2,h3,Int.ofNat_lt,hgt];exact ⟨m,i',j',_,hp,hij,by simp only [go_sem,↓reduceIte,↓Aa,h0,h1,h2,h3],rfl⟩
 ·refine ⟨hp,?_⟩;simp only [go_sem,↓reduceIte,↓Aa,h0,h1,h2,h3]
theorem AhF {l:List Int}{a b p:Nat}(hap:a≤p)(hpb:p<b)(hb:b≤l.length)(hl:l.length≤1000000){t:List AV}{lp:List Lp}{H:List Ob}{r st ss s0 bs:Nat}{K:AV→St→Prop}{L:Nat}(hL:l.length=L)(hr:r<H.length)
 (hK:∀l' i,EPost l l' a b l[p]! i→K (I (i:Nat)) ⟨t,dh H r st ss l',lp⟩):Bc G AH [.sl r st [] s0 0 L,I a,I b,I p] bs [] ⟨t,dh H r st ss l,lp⟩ K:=by
 subst hL;refine Bs D6 rfl ?_;rw [A6 (by simp)];have wa:IntKind.i64.wrap ((a:Int)+1)=((a+1:Nat):Int):=by rw [As]<;>omega
 have wb:IntKind.i64.wrap ((b:Int)-1)=((b-1:Nat):Int):=by rw [As]<;>omega
 have a1:a<l.length:=by omega
 have p1:p<l.length:=by omega
 simp only [go_sem,↓reduceIte,↓Aa,B6,wa,wb,a1,p1,AW hr,Int.ofNat_lt];refine ⟨by simpa using p1,?_⟩;have hst:=EInv.start (l:=l) hb hap hpb;have hsw:(l.set a l[p]!).set p l[a]! = sw l a p:=rfl;rw [hsw];refine (Ajr (s0:=s0) rfl hb hl hr hst (by simp only [go_sem,↓reduceIte,↓Aa])).mono ?_;rintro e σ ⟨rfl,n,i2,j2,A,hp,hij2,⟨h0,h1,h2,h3⟩,rfl⟩;simp only [go_sem,↓reduceIte,↓Aa,h0,h1,h2,h3];exact hK _ i2 (hp.fin hij2)
theorem Ag6 {l:List Int}{a b:Nat}(hab:a<b)(hb:b≤l.length)(hl:l.length≤1000000){t:List AV}{lp:List Lp}{H:List Ob}{r st ss s0 bs:Nat}{K:AV→St→Prop}{L:Nat}(hL:l.length=L)(hr:r<H.length)
 (hK:∀l',SegP l l' a b→K (.tup []) ⟨t,dh H r st ss l',lp⟩):Bc G AT [.sl r st [] s0 0 L,I a,I b] bs [] ⟨t,dh H r st ss l,lp⟩ K:=by
 subst hL;refine Bs EZ rfl ?_;rw [A6 (by simp)];have wb:IntKind.i64.wrap ((b:Int)-1)=((b-1:Nat):Int):=by rw [As]<;>omega
 simp only [go_sem,↓reduceIte,↓Aa,Cl,wb];refine Ac (fun (g:Nat×Nat×List Int) σ=>SegP l g.2.2 a b∧a≤g.1∧g.2.1<b∧g.1≤b∧σ=⟨aT .undef 32 [(0,.sl r st [] s0 0 l.length),(6,I g.1),(7,I g.2.1)],dh H r st ss g.2.2,lp⟩) (fun g=>g.2.1+1-g.1) ?_ (a,b-1,l) ?_
 ·rintro ⟨i,j,m⟩ σ ⟨hp,h1,h2,h3,rfl⟩ N Q hQ hN;simp only at hp h1 h2 h3 ⊢;have hml:=hp.len;by_cases hij:i<j
  ·have b5:i<l.length:=by omega
   have b5':i<m.length:=by omega
   have b6:j<l.length:=by omega
   have b6':j<m.length:=by omega
   have w2:IntKind.i64.wrap ((i:Int)+1)=((i+1:Nat):Int):=by rw [As]<;>omega
   have w3:IntKind.i64.wrap ((j:Int)-1)=((j-1:Nat):Int):=by rw [As]<;>omega
   simp only [go_sem,↓reduceIte,↓Aa,Int.ofNat_lt,hij,b5,b5',b6,b6',AW hr,w2,w3];refine ⟨by simpa using b6',hN (i+1,j-1,sw m i j) _ (by simp only;omega) ⟨hp.tr (sw_seg b5' b6' h1 (by omega) (by omega) h2),by simp only;omega,by simp only;omega,by simp only;omega,?_⟩⟩;simp only [go_sem,↓reduceIte,↓Aa,sw]
  ·subst hQ;simp only [go_sem,↓reduceIte,↓Aa,Int.ofNat_lt,hij];exact hK m hp
 ·refine ⟨SegP.refl,Nat.le_refl _,by simp only;omega,by simp only;omega,?_⟩;simp only [go_sem,↓reduceIte,↓Aa]
def Low (l:List Int)(a b:Nat):Prop:=a=0∨∀i,a≤i→i<b→¬l[i]! < l[a-1]!
theorem Low.seg {l m:List Int}{a b:Nat}(h:Low l a b)(hs:SegP l m a b):Low m a b:=by
 rcases h with h|h
 ·exact .inl h
 ·by_cases h0:a=0
  ·exact .inl h0
  refine .inr (fun i h1 h2=>?_);rw [hs.out (a-1) (by omega)];exact hs.all (fun x=>¬x<l[a-1]!) h i h1 h2
theorem Srt.swR {m:List Int}{a i j:Nat}(h:Srt ltI m a i)(hj:i<j)(hl:j<m.length):Srt ltI (sw m j (j-1)) a i:=by
 intro p q h1 h2 h3;rw [sw_get (by omega) (by omega),sw_get (by omega) (by omega),if_neg (by omega),if_neg (by omega),if_neg (by omega),if_neg (by omega)];exact h p q h1 h2 h3
theorem Srt.snoc {m:List Int}{a i:Nat}(h:Srt ltI m a i)(ha:a<i)(hl:¬m[i]! < m[i-1]!):Srt ltI m a (i+1):=by
 have:=(Hole.start h).fin to_ltI (by omega) (Nat.le_refl _) (.inr (by unfold ltI;rw [decide_eq_false_iff_not];exact hl));exact this
theorem Srt.sub {m:List Int}{a i c d:Nat}(h:Srt ltI m a i)(h1:a≤c)(h2:d≤i):Srt ltI m c d:=fun p q g1 g2 g3=>h p q (by omega) g2 (by omega)
theorem Srt.swL {m:List Int}{a i:Nat}(h:Srt ltI m a i)(hi:i<m.length):Srt ltI (sw m i (i-1)) a (i-1):=by
 intro p q h1 h2 h3;rw [sw_get (by omega) (by omega),sw_get (by omega) (by omega),if_neg (by omega),if_neg (by omega),if_neg (by omega),if_neg (by omega)];exact h p q h1 h2 (by omega)
def PL (d:AV)(A:List (Nat×AV))(r st s0 L a b i c:Nat):Prop:=AX d 0 A = .sl r st [] s0 0 L∧AX d 1 A=I a∧AX d 2 A=I b∧AX d 7 A=I i∧AX d 8 A=I c
theorem Ajo {m:List Int}{a b i c L:Nat}(hL:m.length=L)(hb:b≤m.length)(hl:m.length≤1000000){r st ss s0:Nat}{H:List Ob}{lp:List Lp}(hr:r<H.length)(hai:a+1≤i)(hib:i≤b)(hs:Srt ltI m a i){d:AV}{A:List (Nat×AV)}(hA:PL d A r st s0 L a b i c){B:Nat} :
 Wp G Br B ⟨aT d 133 A,dh H r st ss m,lp⟩ (fun e σ=>e = .ext 2∧∃(i:Nat) (A:List (Nat×AV)),a+1≤i∧i≤b∧Srt ltI m a i∧(i<b→m[i]! < m[i-1]!)∧PL .undef A r st s0 L a b i c∧σ=⟨aT .undef 133 A,dh H r st ss m,lp⟩):=by
 subst hL;obtain ⟨h0,h1,h2,h3,h4⟩:=hA;refine Ac (fun (i:Nat) σ=>a+1≤i∧i≤b∧Srt ltI m a i∧σ=⟨aT .undef 133 [(0,.sl r st [] s0 0 m.length),(1,I a),(2,I b),(7,I i),(8,I c)],dh H r st ss m,lp⟩) (fun i=>b-i) ?_ i ?_
 ·rintro i σ ⟨g1,g2,g3,rfl⟩ N Q hQ hN;by_cases hij:i<b
  ·have b5:i<m.length:=by omega
   have b6:i-1<m.length:=by omega
   have w1:IntKind.i64.wrap ((i:Int)+1)=((i+1:Nat):Int):=by rw [As]<;>omega
   have w2:IntKind.i64.wrap ((i:Int)-1)=((i-1:Nat):Int):=by rw [As]<;>omega
   by_cases hlt:m[i]! < m[i-1]!
   ·subst hQ;simp only [go_sem,↓reduceIte,↓Aa,Int.ofNat_lt,hij,b5,b6,AW hr,hlt,w2];exact ⟨i,_,g1,g2,g3,fun _=>hlt,by unfold PL;simp only [go_sem,↓reduceIte,↓Aa],rfl⟩
   ·simp only [go_sem,↓reduceIte,↓Aa,Int.ofNat_lt,hij,b5,b6,AW hr,hlt,w1,w2];refine hN (i+1) _ (by omega) ⟨by omega,by omega,g3.snoc (by omega) hlt,?_⟩;simp only [go_sem,↓reduceIte,↓Aa]
  ·subst hQ;simp only [go_sem,↓reduceIte,↓Aa,Int.ofNat_lt,hij];exact ⟨i,_,g1,g2,g3,fun h=>absurd h hij,by unfold PL;simp only [go_sem,↓reduceIte,↓Aa],rfl⟩
 ·refine ⟨hai,hib,hs,?_⟩;simp only [go_sem,↓reduceIte,↓Aa,h0,h1,h2,h3,h4]
theorem Ajn {l m:List Int}{a b i c L:Nat}(hL:l.length=L)(hb:b≤l.length)(hl:l.length≤1000000){r st ss s0:Nat}{H:List Ob}{lp:List Lp}(hr:r<H.length)(hai:a+2≤i)(hib:i<b)(hlow:Low l a b)(hseg:SegP l m a b)(hs:Srt ltI m a (i-1)){d:AV}{A:List (Nat×AV)}(hA:PL d A r st s0 L a b i c)(h5:AX d 9 A=I (i-1:Nat)){B:Nat} :
 Wp G Bp B ⟨aT d 133 A,dh H r st ss m,lp⟩ (fun e σ=>e = .ext 4∧∃(m:List Int) (A:List (Nat×AV)),SegP l m a b∧Srt ltI m a i∧PL .undef A r st s0 L a b i c∧σ=⟨aT .undef 133 A,dh H r st ss m,lp⟩):=by
 subst hL;obtain ⟨h0,h1,h2,h3,h4⟩:=hA;refine Ac (fun (g:Nat×List Int) σ=>(a≤g.1∧g.1≤i-1)∧SegP l g.2 a b∧Hole ltI g.2 a (i-1) g.1∧σ=⟨aT .undef 133 [(0,.sl r st [] s0 0 l.length),(1,I a),(2,I b),(7,I i),(8,I c),(9,I g.1)],dh H r st ss g.2,lp⟩) (fun g=>g.1) ?_ (i-1,m) ?_
 ·rintro ⟨j,n⟩ σ ⟨⟨hj1,hj2⟩,hn,hh,rfl⟩ N Q hQ hN;simp only at hj1 hj2 hn hh ⊢;have hnl:=hn.len;have hi1:i-1+1=i:=by omega
  by_cases hj:1≤j
  ·have hj':(1:Int)≤(j:Int):=by omega
   have hj0:j<n.length:=by omega
   have hj3:j-1<n.length:=by omega
   have w1:IntKind.i64.wrap ((j:Int)-1)=((j-1:Nat):Int):=by rw [As]<;>omega
   have hjl:j<l.length:=by omega
   have hjl1:j-1<l.length:=by omega
   by_cases hlt:n[j]! < n[j-1]!
   ·have haj:a<j:=by
     rcases hlow.seg hn with h|h
     ·omega
     ·refine Nat.lt_of_le_of_ne hj1 (fun e=>?_);subst e;exact h _ (Nat.le_refl _) (by omega) hlt
    simp only [go_sem,↓reduceIte,↓Aa,hj',Int.ofNat_lt,hjl,hjl1,hj0,hj3,w1,AW hr,hlt];refine ⟨by simpa using hj3,hN (j-1,sw n j (j-1)) _ (by simp only;omega) ⟨⟨by simp only;omega,by simp only;omega⟩,hn.tr (sw_seg hj0 hj3 (by omega) (by omega) (by omega) (by omega)),hh.step to_ltI haj hj2 (by omega) (by unfold ltI;rw [decide_eq_true_eq];exact hlt),?_⟩⟩;simp only [go_sem,↓reduceIte,↓Aa,sw]
   ·subst hQ;simp only [go_sem,↓reduceIte,↓Aa,hj',Int.ofNat_lt,hjl,hjl1,hj0,hj3,w1,AW hr,hlt];refine ⟨n,_,hn,?_,by unfold PL;simp only [go_sem,↓reduceIte,↓Aa],rfl⟩;have:=hh.fin to_ltI hj1 hj2 (.inr (by unfold ltI;rw [decide_eq_false_iff_not];exact hlt));rw [hi1] at this;exact this
  ·subst hQ;have hj':¬(1:Int)≤(j:Int):=by omega
   simp only [go_sem,↓reduceIte,↓Aa,hj'];refine ⟨n,_,hn,?_,by unfold PL;simp only [go_sem,↓reduceIte,↓Aa],rfl⟩;have:=hh.fin to_ltI hj1 hj2 (.inl (by omega));rw [hi1] at this;exact this
 ·refine ⟨⟨by simp only;omega,Nat.le_refl _⟩,hseg,Hole.start hs,?_⟩;simp only [go_sem,↓reduceIte,↓Aa,h0,h1,h2,h3,h4,h5]
theorem Ajk {l m:List Int}{a b i c L:Nat}(hL:l.length=L)(hb:b≤l.length)(hl:l.length≤1000000){r st ss s0:Nat}{H:List Ob}{lp:List Lp}(hr:r<H.length)(hai:a+1≤i)(hib:i+1≤b)(hseg:SegP l m a b)(hs:Srt ltI m a i){d:AV}{A:List (Nat×AV)}(hA:PL d A r st s0 L a b i c)(h5:AX d 10 A=I (i+1:Nat)){B:Nat} :
 Wp G Bm B ⟨aT d 133 A,dh H r st ss m,lp⟩ (fun e σ=>e = .ext 6∧∃(m:List Int) (A:List (Nat×AV)),SegP l m a b∧Srt ltI m a i∧PL .undef A r st s0 L a b i c∧σ=⟨aT .undef 133 A,dh H r st ss m,lp⟩):=by
 subst hL;obtain ⟨h0,h1,h2,h3,h4⟩:=hA;refine Ac (fun (g:Nat×List Int) σ=>(i+1≤g.1∧g.1≤b)∧SegP l g.2 a b∧Srt ltI g.2 a i∧σ=⟨aT .undef 133 [(0,.sl r st [] s0 0 l.length),(1,I a),(2,I b),(7,I i),(8,I c),(10,I g.1)],dh H r st ss g.2,lp⟩) (fun g=>b-g.1) ?_ (i+1,m) ?_
 ·rintro ⟨j,n⟩ σ ⟨⟨hj1,hj2⟩,hn,hh,rfl⟩ N Q hQ hN;simp only at hj1 hj2 hn hh ⊢;have hnl:=hn.len;by_cases hj:j<b
  ·have hj0:j<n.length:=by omega
   have hj3:j-1<n.length:=by omega
   have w1:IntKind.i64.wrap ((j:Int)-1)=((j-1:Nat):Int):=by rw [As]<;>omega
   have w2:IntKind.i64.wrap ((j:Int)+1)=((j+1:Nat):Int):=by rw [As]<;>omega
   have hjl:j<l.length:=by omega
   have hjl1:j-1<l.length:=by omega
   by_cases hlt:n[j]! < n[j-1]!
   ·simp only [go_sem,↓reduceIte,↓Aa,hj,Int.ofNat_lt,hjl,hjl1,hj0,hj3,w1,w2,AW hr,hlt];refine ⟨by simpa using hj3,hN (j+1,sw n j (j-1)) _ (by simp only;omega) ⟨⟨by simp only;omega,by simp only;omega⟩,hn.tr (sw_seg hj0 hj3 (by omega) (by omega) (by omega) (by omega)),hh.swR (by omega) hj0,?_⟩⟩;simp only [go_sem,↓reduceIte,↓Aa,sw]
   ·subst hQ;simp only [go_sem,↓reduceIte,↓Aa,hj,Int.ofNat_lt,hjl,hjl1,hj0,hj3,w1,w2,AW hr,hlt];exact ⟨n,_,hn,hh,by unfold PL;simp only [go_sem,↓reduceIte,↓Aa],rfl⟩
  ·subst hQ;simp only [go_sem,↓reduceIte,↓Aa,hj,Int.ofNat_lt];exact ⟨n,_,hn,hh,by unfold PL;simp only [go_sem,↓reduceIte,↓Aa],rfl⟩
 ·refine ⟨⟨Nat.le_refl _,hib⟩,hseg,hs,?_⟩;simp only [go_sem,↓reduceIte,↓Aa,h0,h1,h2,h3,h4,h5]
theorem AiF {l:List Int}{a b:Nat}(hab:a<b)(hb:b≤l.length)(hl:l.length≤1000000)(hlow:Low l a b){t:List AV}{lp:List Lp}{H:List Ob}{r st ss s0 bs:Nat}{K:AV→St→Prop}{L:Nat}(hL:l.length=L)(hr:r<H.length)
 (hK:∀l' q,SegP l l' a b→(q=true→Srt ltI l' a b)→K (Bo q) ⟨t,dh H r st ss l',lp⟩):Bc G At [.sl r st [] s0 0 L,I a,I b] bs [] ⟨t,dh H r st ss l,lp⟩ K:=by
 subst hL;refine Bs C9 rfl ?_;rw [A6 (by simp)];have wa:IntKind.i64.wrap ((a:Int)+1)=((a+1:Nat):Int):=by rw [As]<;>omega
 have wba:IntKind.i64.wrap ((b:Int)-(a:Int))=((b-a:Nat):Int):=by rw [As]<;>omega
 simp only [go_sem,↓reduceIte,↓Aa,Bx,wa];refine Ac (fun (g:Nat×Nat×List Int) σ=>(g.1≤5∧a+1≤g.2.1∧g.2.1≤b)∧SegP l g.2.2 a b∧Srt ltI g.2.2 a g.2.1∧σ=⟨aT .undef 133 [(0,.sl r st [] s0 0 l.length),(1,I a),(2,I b),(7,I g.2.1),(8,I g.1)],dh H r st ss g.2.2,lp⟩) (fun g=>5-g.1) ?_ (0,a+1,l) ?_
 ·rintro ⟨c,i,m⟩ σ ⟨⟨hc,hi1,hi2⟩,hm,hs,rfl⟩ N Q hQ hN;simp only at hc hi1 hi2 hm hs ⊢;have hml:=hm.len;have wc:IntKind.i64.wrap ((c:Int)+1)=((c+1:Nat):Int):=by rw [As]<;>omega
  by_cases hc5:c<5
  ·have hc5':(c:Int)<5:=by omega
   simp only [go_sem,↓reduceIte,↓Aa,hc5'];refine (Ajo (s0:=s0) (c:=c) hml (by omega) (by omega) hr hi1 hi2 hs (by unfold PL;simp only [go_sem,↓reduceIte,↓Aa])).mono ?_;rintro e σ ⟨rfl,i,A,hi1,hi2,hs,hx,⟨h0,h1,h2,h3,h4⟩,rfl⟩;by_cases hib:i=b
   ·subst hib;subst hQ;simp only [go_sem,↓reduceIte,↓Aa,h0,h1,h2,h3,h4];exact hK m true hm (fun _=>hs)
   ·have hib':((i:Int)==(b:Int))=false:=by rw [beq_eq_false_iff_ne];omega
    by_cases h50:b-a<50
    ·have h50':((b-a:Nat):Int)<50:=by omega
     subst hQ;simp only [go_sem,↓reduceIte,↓Aa,h0,h1,h2,h3,h4,hib',wba,h50'];exact hK m false hm (fun h=>by cases h)
    ·have h50':¬((b-a:Nat):Int)<50:=by omega
     have b5:i<l.length:=by omega
     have b6:i-1<l.length:=by omega
     have b5':i<m.length:=by omega
     have b6':i-1<m.length:=by omega
     have w2:IntKind.i64.wrap ((i:Int)-1)=((i-1:Nat):Int):=by rw [As]<;>omega
     have w3:IntKind.i64.wrap ((i:Int)-(a:Int))=((i-a:Nat):Int):=by rw [As]<;>omega
     have w4:IntKind.i64.wrap ((b:Int)-(i:Int))=((b-i:Nat):Int):=by rw [As]<;>omega
     have w5:IntKind.i64.wrap ((i:Int)+1)=((i+1:Nat):Int):=by rw [As]<;>omega
     have hsw:(m.set i m[i-1]!).set (i-1) m[i]! = sw m i (i-1):=rfl;have hm2:SegP l (sw m i (i-1)) a b:=hm.tr (sw_seg b5' b6' (by omega) (by omega) (by omega) (by omega));by_cases hi2':i-a<2
     ·have h2':¬(2:Int)≤((i-a:Nat):Int):=by omega
      have hs2:Srt ltI (sw m i (i-1)) a i:=Srt.one (by omega);by_cases hbi:b-i<2
      ·have h3':¬(2:Int)≤((b-i:Nat):Int):=by omega
       simp only [go_sem,↓reduceIte,↓Aa,h0,h1,h2,h3,h4,hib',wba,h50',Int.ofNat_lt,b5,b6,b5',b6',w2,w3,w4,AW hr,h2',h3',wc,hsw];refine ⟨by simpa using b6',hN (c+1,i,sw m i (i-1)) _ (by simp only;omega) ⟨⟨by simp only;omega,hi1,hi2⟩,hm2,hs2,?_⟩⟩;simp only [go_sem,↓reduceIte,↓Aa,h0,h1,h2,h3]
      ·have h3':(2:Int)≤((b-i:Nat):Int):=by omega
       simp only [go_sem,↓reduceIte,↓Aa,h0,h1,h2,h3,h4,hib',wba,h50',Int.ofNat_lt,b5,b6,b5',b6',w2,w3,w4,w5,AW hr,h2',h3',wc,hsw];refine ⟨by simpa using b6',?_⟩;refine (Ajk (s0:=s0) (c:=c) rfl hb hl hr hi1 (by omega) hm2 hs2 (by unfold PL;simp only [go_sem,↓reduceIte,↓Aa,h0,h1,h2,h3,h4]) (by simp only [go_sem,↓reduceIte,↓Aa])).mono ?_;rintro e σ ⟨rfl,n,A,hn,hsn,⟨h0,h1,h2,h3,h4⟩,rfl⟩;simp only [go_sem,↓reduceIte,↓Aa,h0,h1,h2,h3,h4,wc];refine hN (c+1,i,n) _ (by simp only;omega) ⟨⟨by simp only;omega,hi1,hi2⟩,hn,hsn,?_⟩;simp only [go_sem,↓reduceIte,↓Aa,h0,h1,h2,h3]
     ·have h2':(2:Int)≤((i-a:Nat):Int):=by omega
      have hs2:Srt ltI (sw m i (i-1)) a (i-1):=hs.swL b5';simp only [go_sem,↓reduceIte,↓Aa,h0,h1,h2,h3,h4,hib',wba,h50',Int.ofNat_lt,b5,b6,b5',b6',w2,w3,AW hr,h2',hsw];refine ⟨by simpa using b6',?_⟩;refine (Ajn (s0:=s0) (c:=c) rfl hb hl hr (by omega) (by omega) hlow hm2 hs2 (by unfold PL;simp only [go_sem,↓reduceIte,↓Aa,h0,h1,h2,h3,h4]) (by simp only [go_sem,↓reduceIte,↓Aa])).mono ?_;rintro e σ ⟨rfl,n,A,hn,hsn,⟨h0,h1,h2,h3,h4⟩,rfl⟩;by_cases hbi:b-i<2
      ·have h3':¬(2:Int)≤((b-i:Nat):Int):=by omega
       simp only [go_sem,↓reduceIte,↓Aa,h0,h1,h2,h3,h4,w4,h3',wc];refine hN (c+1,i,n) _ (by simp only;omega) ⟨⟨by simp only;omega,hi1,hi2⟩,hn,hsn,?_⟩;simp only [go_sem,↓reduceIte,↓Aa,h0,h1,h2,h3]
      ·have h3':(2:Int)≤((b-i:Nat):Int):=by omega
       simp only [go_sem,↓reduceIte,↓Aa,h0,h1,h2,h3,h4,w4,w5,h3',wc];refine (Ajk (s0:=s0) (c:=c) rfl hb hl hr hi1 (by omega) hn hsn (by unfold PL;simp only [go_sem,↓reduceIte,↓Aa,h0,h1,h2,h3,h4]) (by simp only [go_sem,↓reduceIte,↓Aa])).mono ?_;rintro e σ ⟨rfl,n,A,hn,hsn,⟨h0,h1,h2,h3,h4⟩,rfl⟩;simp only [go_sem,↓reduceIte,↓Aa,h0,h1,h2,h3,h4,wc];refine hN (c+1,i,n) _ (by simp only;omega) ⟨⟨by simp only;omega,hi1,hi2⟩,hn,hsn,?_⟩;simp only [go_sem,↓reduceIte,↓Aa,h0,h1,h2,h3]
  ·have hc5':¬(c:Int)<5:=by omega
   subst hQ;simp only [go_sem,↓reduceIte,↓Aa,hc5'];exact hK m false hm (fun h=>by cases h)
 ·refine ⟨⟨by simp only;omega,Nat.le_refl _,hab⟩,SegP.refl,Srt.one (by simp only;omega),?_⟩;simp only [go_sem,↓reduceIte,↓Aa]
def KN:List UInt8:=[0,1,2,2,3,3,3,3,4,4,4,4,4,4,4,4,5,5,5,5,5,5,5,5,5,5,5,5,5,5,5,5,6,6,6,6,6,6,6,6,6,6,6,6,6,6,6,6,6,6,6,6,6,6,6,6,6,6,6,6,6,6,6,6,7,7,7,7,7,7,7,7,7,7,7,7,7,7,7,7,7,7,7,7,7,7,7,7,7,7,7,7,7,7,7,7,7,7,7,7,7,7,7,7,7,7,7,7,7,7,7,7,7,7,7,7,7,7,7,7,7,7,7,7,7,7,7,7,8,8,8,8,8,8,8,8,8,8,8,8,8,8,8,8,8,8,8,8,8,8,8,8,8,8,8,8,8,8,8,8,8,8,8,8,8,8,8,8,8,8,8,8,8,8,8,8,8,8,8,8,8,8,8,8,8,8,8,8,8,8,8,8,8,8,8,8,8,8,8,8,8,8,8,8,8,8,8,8,8,8,8,8,8,8,8,8,8,8,8,8,8,8,8,8,8,8,8,8,8,8,8,8,8,8,8,8,8,8,8,8,8,8,8,8,8,8,8,8,8,8,8,8,8,8,8,8]
theorem MS:∀n<256,KN[n]!.toNat≤8∧(0<n→2 ^ KN[n]!.toNat≤2*n):=by decide +kernel
theorem Acs {n k:Nat}(hk:k≤64):Adp .u64 (n:Int) (k:Int)=((n / 2 ^ k:Nat):Int):=by
 unfold Adp;rw [Int.toNat_natCast,Nat.min_eq_left (show k≤IntKind.u64.bits from hk),Int.fdiv_eq_ediv_of_nonneg _ (by exact_mod_cast Nat.zero_le _)]
 norm_cast
theorem VU {n:Nat}(h:n<256):IntKind.u8.wrap (n:Int)=(n:Int):=by
 have h1:∀n:Nat,n<256→IntKind.u8.wrap (n:Int)=(n:Int):=by decide +kernel
 exact h1 _ h
theorem JR {p m:Nat}(hp:p≤16)(hm:m<256):AV.int .i64 (IntKind.i64.wrap ((p:Int)+IntKind.i64.wrap ((KN[m]!.toNat:Nat):Int)))=I ((p+KN[m]!.toNat:Nat):Int):=by
 obtain ⟨g1,g2⟩:=MS m hm;have e:IntKind.i64.wrap ((KN[m]!.toNat:Nat):Int)=((KN[m]!.toNat:Nat):Int):=by rw [As]<;>omega
 have e2:IntKind.i64.wrap ((p:Int)+((KN[m]!.toNat:Nat):Int))=((p+KN[m]!.toNat:Nat):Int):=by rw [As]<;>omega
 rw [e,e2]
theorem Aea (n:Nat)(hn:n≤1000000):∃v:Nat,v≤24∧(0<n→2 ^ v≤2*n)∧FnT G B1 [.int .u64 n] (I v):=by
 have h1:¬(4294967296:Int)≤(n:Int):=by omega
 have e16:Adp .u64 (n:Int) 16=((n / 2 ^ 16:Nat):Int):=Acs (n:=n) (k:=16) (by omega);have e8:Adp .u64 (n:Int) 8=((n / 2 ^ 8:Nat):Int):=Acs (n:=n) (k:=8) (by omega);have w16:IntKind.i64.wrap 16=16:=by decide
 have w8:IntKind.i64.wrap 8=8:=by decide
 have w8':IntKind.i64.wrap (0+8)=8:=by decide
 by_cases hA:65536≤n
 ·have h2:(65536:Int)≤(n:Int):=by omega
  obtain ⟨g1,g2⟩:=MS (n / 2 ^ 16) (by omega);have h3:¬(256:Int)≤((n / 2 ^ 16:Nat):Int):=by omega
  refine ⟨16+KN[n / 2 ^ 16]!.toNat,by omega,fun h0=>?_,FnP.mk' Fq rfl rfl ?_⟩
  ·have:=g2 (by omega);rw [Nat.pow_add];omega
  ·simp only [go_sem,↓reduceIte,↓Aa,DB,h1,h2,e16,h3,VU (show n / 2 ^ 16<256 by omega)];exact ⟨by simp;omega,by first|exact JR (p:=16) (by omega) (by omega)|(rw [w16];exact JR (p:=16) (by omega) (by omega))⟩
 ·have h2:¬(65536:Int)≤(n:Int):=by omega
  by_cases hB:256≤n
  ·have h3:(256:Int)≤(n:Int):=by omega
   obtain ⟨g1,g2⟩:=MS (n / 2 ^ 8) (by omega);refine ⟨8+KN[n / 2 ^ 8]!.toNat,by omega,fun h0=>?_,FnP.mk' Fq rfl rfl ?_⟩
   ·have:=g2 (by omega);rw [Nat.pow_add];omega
   ·simp only [go_sem,↓reduceIte,↓Aa,DB,h1,h2,e8,h3,VU (show n / 2 ^ 8<256 by omega)];exact ⟨by simp;omega,by first|exact JR (p:=8) (by omega) (by omega)|(rw [w8];exact JR (p:=8) (by omega) (by omega))|(rw [w8'];exact JR (p:=8) (by omega) (by omega))⟩
  ·have h3:¬(256:Int)≤(n:Int):=by omega
   obtain ⟨g1,g2⟩:=MS n (by omega);refine ⟨0+KN[n]!.toNat,by omega,fun h0=>?_,FnP.mk' Fq rfl rfl ?_⟩
   ·have:=g2 (by omega);rw [Nat.zero_add];exact this
   ·simp only [go_sem,↓reduceIte,↓Aa,DB,h1,h2,h3,VU (show n<256 by omega)];have key:=JR (p:=0) (m:=n) (by omega) (by omega);rw [Nat.zero_add] at key;exact ⟨by omega,key⟩
theorem Xr (n:Nat)(hn:n≤1000000):∃v:Nat,v≤24∧(0<n→2 ^ v≤2*n)∧FnT G Bq [.int .u64 n] (I v):=by
 obtain ⟨v,h1,h2,h3⟩:=Aea n hn;have hr:∀ {fr:Bool}{roots:List Nat}{b:Nat}{ss:List Nat}{σ:St}{k:AV→St→Prop},callT G B1 [.int .u64 n] fr roots b ss σ k=k (I v) σ:=h3.rule;refine ⟨v,h1,h2,FnP.mk' PM rfl rfl ?_⟩;simp only [go_sem,↓reduceIte,↓Aa,KS,hr]
theorem OB {n:Nat}(h:n≤1000000):IntKind.u64.wrap (n:Int)=(n:Int):=by
 exact IntWalk.u64_in _ ⟨by omega,by omega⟩
theorem Ahn (n:Nat)(h0:0<n)(hn:n≤1000000):∃v:Nat,v≤24∧2 ^ v≤2*n∧FnT G A5 [I n] (.int .u64 ((2 ^ v:Nat):Int)):=by
 obtain ⟨v,h1,h2,h3⟩:=Xr n hn;have hr:∀ {fr:Bool}{roots:List Nat}{b:Nat}{ss:List Nat}{σ:St}{k:AV→St→Prop},callT G Bq [.int .u64 n] fr roots b ss σ k=k (I v) σ:=h3.rule;have hs:Ahv .u64 1 (v:Int)=((2 ^ v:Nat):Int):=by
  have:∀v≤24,Ahv .u64 1 ((v:Nat):Int)=((2 ^ v:Nat):Int):=by decide
  exact this v h1
 refine ⟨v,h1,h2 h0,FnP.mk' Kk rfl rfl ?_⟩;simp only [go_sem,↓reduceIte,↓Aa,E0,OB hn,hr,Int.natCast_nonneg,hs]
def dc (H:List Ob)(r st ss:Nat)(n:Int):List Ob:=H.set r ⟨st,ss,.own 1 [.int .u64 n]⟩
theorem Aft {H:List Ob}{r st ss:Nat}{n:Int}(hr:r<H.length):(dc H r st ss n)[r]? = some ⟨st,ss,.own 1 [.int .u64 n]⟩:=by unfold dc;rw [List.getElem?_set_self hr]
theorem dc_set {H:List Ob}{r st ss st' ss':Nat}{n m:Int}:(dc H r st ss n).set r ⟨st',ss',.own 1 [.int .u64 m]⟩=dc H r st' ss' m:=by unfold dc;rw [List.set_set]
theorem dc_len {H:List Ob}{r st ss:Nat}{n:Int}:(dc H r st ss n).length=H.length:=by unfold dc;rw [List.length_set]
theorem dc_take {H:List Ob}{r st ss:Nat}{n:Int}:(dc H r st ss n).take H.length=dc H r st ss n:=List.take_of_length_le (by rw [dc_len];exact Nat.le_refl _)
attribute [go_sem] dc_set dc_len dc_take
theorem next_ok {n:Int}{t:List AV}{lp:List Lp}{H:List Ob}{r st ss s0 bs:Nat}{K:AV→St→Prop}(hr:r<H.length)
 (hK:∀n',K (.int .u64 n') ⟨t,dc H r st ss n',lp⟩):Bc G Ba [.ptr r st [] s0 0 0] bs [] ⟨t,dc H r st ss n,lp⟩ K:=by
 refine Bs JH rfl ?_;rw [A6 (by simp)];simp only [go_sem,↓reduceIte,↓Aa,DW,Aft hr];exact hK _
theorem AgV {H:List Ob}{r st ss st' ss':Nat}{n m:Int}:(dh H r st ss [n]).set r ⟨st',ss',.own 1 [.int .i64 m]⟩=dh H r st' ss' [m]:=by unfold dh;rw [List.set_set];rfl
theorem VZ {l:List Int}{x y:Nat}(hx:x<l.length)(hy:y<l.length){n:Int}{t:List AV}{lp:List Lp}{H:List Ob}{r st ss s0 bs:Nat}{K:AV→St→Prop}(hr:r<H.length)
 (hK:∀n' (z w:Nat),(z=x∧w=y∨z=y∧w=x)→K (.tup [I z,I w]) ⟨t,dh H r st ss [n'],lp⟩):Bc G AC [.lst (l.map I),I x,I y,.ptr r st [] s0 0 0] bs [] ⟨t,dh H r st ss [n],lp⟩ K:=by
 refine Bs H7 rfl ?_;rw [A6 (by simp)];have hxi:(x:Int)<(l.length:Int):=by omega
 have hyi:(y:Int)<(l.length:Int):=by omega
 simp only [go_sem,↓reduceIte,↓Aa,Dh,AW hr,hx,hy,hxi,hyi,AgV];exact ⟨fun _=>hK _ y x (.inr ⟨rfl,rfl⟩),fun _=>hK _ x y (.inl ⟨rfl,rfl⟩)⟩
theorem AcM {l:List Int}{x y z:Nat}(hx:x<l.length)(hy:y<l.length)(hz:z<l.length){n:Int}{t:List AV}{lp:List Lp}{H:List Ob}{r st ss s0 bs:Nat}{K:AV→St→Prop}(hr:r<H.length)
 (hK:∀n' (w:Nat),(w=x∨w=y∨w=z)→K (I w) ⟨t,dh H r st ss [n'],lp⟩):Bc G AZ [.lst (l.map I),I x,I y,I z,.ptr r st [] s0 0 0] bs [] ⟨t,dh H r st ss [n],lp⟩ K:=by
 refine Bs Ja rfl ?_;rw [A6 (by simp)];simp only [go_sem,↓reduceIte,↓Aa,Dx];refine VZ hx hy hr (fun n1 x1 y1 h1=>?_);simp only [go_sem,↓reduceIte,↓Aa];refine VZ (show y1<l.length by omega) hz hr (fun n2 y2 z2 h2=>?_);simp only [go_sem,↓reduceIte,↓Aa];refine VZ (show x1<l.length by omega) (show y2<l.length by omega) hr (fun n3 x3 y3 h3=>?_);simp only [go_sem,↓reduceIte,↓Aa];exact hK _ y3 (by omega)
theorem WP {l:List Int}{x:Nat}(h0:0<x)(hx:x+1<l.length)(hl:l.length≤1000000){n:Int}{t:List AV}{lp:List Lp}{H:List Ob}{r st ss s0 bs:Nat}{K:AV→St→Prop}(hr:r<H.length)
 (hK:∀n' (w:Nat),(x-1≤w∧w≤x+1)→K (I w) ⟨t,dh H r st ss [n'],lp⟩):Bc G Ak [.lst (l.map I),I x,.ptr r st [] s0 0 0] bs [] ⟨t,dh H r st ss [n],lp⟩ K:=by
 refine Bs D5 rfl ?_;rw [A6 (by simp)];have w1:IntKind.i64.wrap ((x:Int)-1)=((x-1:Nat):Int):=by rw [As]<;>omega
 have w2:IntKind.i64.wrap ((x:Int)+1)=((x+1:Nat):Int):=by rw [As]<;>omega
 simp only [go_sem,↓reduceIte,↓Aa,B2,w1,w2];refine AcM (by omega) (by omega) (by omega) hr (fun n1 w h=>?_);simp only [go_sem,↓reduceIte,↓Aa];exact hK _ w (by omega)
theorem FnP.some {f:FuncId}{xs:List AV}{P:AV→Prop}(h:FnP G f xs fun rs h=>P (packV (treeBL 0 h rs))∧rs.all AV.flats=true):∃v,P v∧FnT G f xs v:=by
 obtain ⟨F,n,rs,σ1,h1,h2,h3,h4,h5,h6,h7,h8⟩:=h.ok;exact ⟨_,h7,F,n,rs,σ1,h1,h2,h3,h4,h5,h6,rfl,h8⟩
theorem Ah0 {n:Nat}(h:n≤1000000):IntKind.i64.wrap (((n:Nat):Int).tdiv 4)=((n / 4:Nat):Int):=by
 have:((n:Nat):Int).tdiv 4=((n / 4:Nat):Int):=by
  rw [Int.tdiv_eq_ediv_of_nonneg (by omega)];omega
 rw [this,As]<;>omega
theorem Ahd {l:List Int}{a b:Nat}(hab:a<b)(h8:8≤b-a)(hb:b≤l.length)(hl:l.length≤1000000):∃v,(∃(p:Nat) (h:Int),v = .tup [I p,I h]∧a≤p∧p<b)∧FnT G An [.lst (l.map I),I a,I b] v:=by
 refine FnP.some (FnP.mk' E2 rfl rfl ?_);have h8':(8:Int)≤((b-a:Nat):Int):=by omega
 have w1:IntKind.i64.wrap ((b:Int)-(a:Int))=((b-a:Nat):Int):=by rw [As]<;>omega
 have w2:=Ah0 (n:=b-a) (by omega);have w3:IntKind.i64.wrap ((((b-a) / 4:Nat):Int)*1)=(((b-a) / 4:Nat):Int):=by rw [As]<;>omega
 have w4:IntKind.i64.wrap ((((b-a) / 4:Nat):Int)*2)=(((b-a) / 4*2:Nat):Int):=by rw [As]<;>omega
 have w5:IntKind.i64.wrap ((((b-a) / 4:Nat):Int)*3)=(((b-a) / 4*3:Nat):Int):=by rw [As]<;>omega
 have v3:IntKind.i64.wrap ((a:Int)+(((b-a) / 4:Nat):Int))=((a+(b-a) / 4:Nat):Int):=by rw [As]<;>omega
 have v4:IntKind.i64.wrap ((a:Int)+(((b-a) / 4*2:Nat):Int))=((a+(b-a) / 4*2:Nat):Int):=by rw [As]<;>omega
 have v5:IntKind.i64.wrap ((a:Int)+(((b-a) / 4*3:Nat):Int))=((a+(b-a) / 4*3:Nat):Int):=by rw [As]<;>omega
 have hh:([⟨1,0,.own 1 [.int .i64 0]⟩]:List Ob)=dh [E4] 0 1 0 [0]:=rfl;have hr:0 < [E4].length:=by decide
 have fin:∀(n:Int) (w:Nat),a≤w→w<b→∃(p:Nat) (h:Int),AV.tup [I w,I n] = .tup [I p,I h]∧a≤p∧p<b:=fun n w h1 h2=>⟨w,n,rfl,h1,h2⟩;by_cases h50:50≤b-a
 ·have h50':(50:Int)≤((b-a:Nat):Int):=by omega
  simp only [go_sem,↓reduceIte,↓Aa,Bv,w1,w2,w3,w4,w5,v3,v4,v5,h8',h50',hh];refine WP (n:=0) (by omega) (by omega) hl hr (fun n1 x1 h1=>?_);simp only [go_sem,↓reduceIte,↓Aa];refine WP (by omega) (by omega) hl hr (fun n2 x2 h2=>?_);simp only [go_sem,↓reduceIte,↓Aa];refine WP (by omega) (by omega) hl hr (fun n3 x3 h3=>?_);simp only [go_sem,↓reduceIte,↓Aa];refine AcM (by omega) (by omega) (by omega) hr (fun n4 x4 h4=>?_);have hn:dh [⟨0,0,.gone⟩] 0 1 0 [n4] = [⟨1,0,.own 1 [.int .i64 n4]⟩]:=rfl;simp only [go_sem,↓reduceIte,↓Aa,hn];exact ⟨fun _=>fin _ x4 (by omega) (by omega),fun _=>⟨fun _=>fin _ x4 (by omega) (by omega),fun _=>fin _ x4 (by omega) (by omega)⟩⟩
 ·have h50':¬(50:Int)≤((b-a:Nat):Int):=by omega
  simp only [go_sem,↓reduceIte,↓Aa,Bv,w1,w2,w3,w4,w5,v3,v4,v5,h8',h50',hh];refine AcM (n:=0) (by omega) (by omega) (by omega) hr (fun n4 x4 h4=>?_);have hn:dh [⟨0,0,.gone⟩] 0 1 0 [n4] = [⟨1,0,.own 1 [.int .i64 n4]⟩]:=rfl;simp only [go_sem,↓reduceIte,↓Aa,hn];exact ⟨fun _=>fin _ x4 (by omega) (by omega),fun _=>⟨fun _=>fin _ x4 (by omega) (by omega),fun _=>fin _ x4 (by omega) (by omega)⟩⟩
def dx (H:List Ob)(r st ss:Nat)(l:List Int)(st2:Nat)(n:Int):List Ob:=dc (dh (H++[E4]) r st ss l) H.length st2 0 n
theorem AfJ {H:List Ob}{r st ss st2:Nat}{l:List Int}{n:Int}(hr:r<H.length):(dx H r st ss l st2 n)[r]? = some ⟨st,ss,.own 1 (l.map I)⟩:=by
 unfold dx dc;rw [List.getElem?_set_ne (by omega)];exact AW (by simp;omega)
theorem AfO {H:List Ob}{r st ss st' ss' st2:Nat}{l m:List Int}{n:Int}(hr:r<H.length):(dx H r st ss l st2 n).set r ⟨st',ss',.own 1 (m.map I)⟩=dx H r st' ss' m st2 n:=by
 unfold dx dc;rw [List.set_comm _ _ (by omega),dh_set]
theorem dx_take {H:List Ob}{r st ss st2:Nat}{l:List Int}{n:Int}(hr:r<H.length):(dx H r st ss l st2 n).take H.length=dh H r st ss l:=by
 unfold dx dc dh;rw [List.take_set_of_le (Nat.le_refl _),List.set_append_left _ _ hr,List.take_append_of_le_length (by simp)];exact List.take_of_length_le (by simp)
theorem Ww {x y:Nat}(h:x+y≤1000000000):IntKind.i64.wrap ((x:Int)+(y:Int))=((x+y:Nat):Int):=by rw [As]<;>omega
theorem Aik {x:Int}{m:Nat}(hm:m<2 ^ 64):∃w:Nat,Abu .u64 x (m:Int)=(w:Int)∧w≤m:=by
 unfold Abu;refine ⟨(BitVec.ofInt 64 x&&&BitVec.ofInt 64 (m:Int)).toNat,?_,?_⟩
 ·exact IntWalk.u64_in _ ⟨by omega,by
   have:=(BitVec.ofInt 64 x&&&BitVec.ofInt 64 (m:Int)).isLt;show ((BitVec.ofInt 64 x&&&BitVec.ofInt 64 (m:Int)).toNat:Int)≤_;omega⟩
 ·rw [BitVec.toNat_and];refine Nat.le_trans Nat.and_le_right ?_;rw [BitVec.toNat_ofInt];omega
theorem AhU {l:List Int}{a b:Nat}(hab:a<b)(h8:8≤b-a)(hb:b≤l.length)(hl:l.length≤1000000){t:List AV}{lp:List Lp}{H:List Ob}{r st ss s0 bs:Nat}{K:AV→St→Prop}{L:Nat}(hL:l.length=L)(hr:r<H.length)
 (hK:∀l',SegP l l' a b→K (.tup []) ⟨t,dh H r st ss l',lp⟩):Bc G AN [.sl r st [] s0 0 L,I a,I b] bs [] ⟨t,dh H r st ss l,lp⟩ K:=by
 subst hL;refine Bs ED rfl ?_;rw [A6 (by simp)];have h8':(8:Int)≤((b-a:Nat):Int):=by omega
 have w1:IntKind.i64.wrap ((b:Int)-(a:Int))=((b-a:Nat):Int):=by rw [As]<;>omega
 have w2:=Ah0 (n:=b-a) (by omega);have w4:IntKind.i64.wrap ((((b-a) / 4:Nat):Int)*2)=(((b-a) / 4*2:Nat):Int):=by rw [As]<;>omega
 have v4:IntKind.i64.wrap ((a:Int)+(((b-a) / 4*2:Nat):Int))=((a+(b-a) / 4*2:Nat):Int):=by rw [As]<;>omega
 have v5:IntKind.i64.wrap (((a+(b-a) / 4*2:Nat):Int)-1)=((a+(b-a) / 4*2-1:Nat):Int):=by rw [As]<;>omega
 obtain ⟨v,g1,g2,g3⟩:=Ahn (b-a) (by omega) (by omega);have hnp:∀ {fr:Bool}{roots:List Nat}{b':Nat}{ss:List Nat}{σ:St}{k:AV→St→Prop},callT G A5 [.int .i64 ((b-a:Nat):Int)] fr roots b' ss σ k=k (.int .u64 ((2 ^ v:Nat):Int)) σ:=g3.rule;simp only [go_sem,↓reduceIte,↓Aa,Cc,w1,w2,w4,v4,v5,h8',hnp,OB (show b-a≤1000000 by omega)];have e1:(dh H r st ss l++[(⟨0,0,.gone⟩:Ob)])[H.length]? = some ⟨0,0,.gone⟩:=by
  rw [List.getElem?_append_right (by rw [dh_len];exact Nat.le_refl _),dh_len,Nat.sub_self];rfl
 have e2:∀n,(dh H r st ss l++[(⟨0,0,.gone⟩:Ob)]).set H.length ⟨1,0,.own 1 [.int .u64 n]⟩=dx H r st ss l 1 n:=by
  intro n;unfold dx dc dh;rw [List.set_append_left _ _ hr,E4]
 have e3:∀ {m n},(dx H r st ss m 1 n)[H.length]? = some ⟨1,0,.own 1 [.int .u64 n]⟩:=by
  intro m n;unfold dx;exact Aft (by rw [dh_len];simp)
 have e4:∀ {m n n'},(dx H r st ss m 1 n).set H.length ⟨1,0,.own 1 [.int .u64 n']⟩=dx H r st ss m 1 n':=by
  intro m n n';unfold dx;exact dc_set
 have hpos:0<2 ^ v:=Nat.two_pow_pos v;have hlt64:2 ^ v<2 ^ 64:=Nat.pow_lt_pow_right (by omega) (by omega);have wm:IntKind.u64.wrap (((2 ^ v:Nat):Int)-1)=((2 ^ v-1:Nat):Int):=by
  have e:((2 ^ v:Nat):Int)-1=((2 ^ v-1:Nat):Int):=by omega
  rw [e];exact IntWalk.u64_in _ ⟨by omega,by omega⟩
 have wt:IntKind.i64.wrap (((a+(b-a) / 4*2:Nat):Int)+1)=((a+(b-a) / 4*2+1:Nat):Int):=by rw [As]<;>omega
 simp only [go_sem,↓reduceIte,↓Aa,e1,e2,e3,e4,dh_len,w1,w2,w4,v4,v5,hnp];refine Ac (fun (g:Nat×List Int×Int) σ=>(a+(b-a) / 4*2-1≤g.1∧g.1≤a+(b-a) / 4*2+2)∧SegP l g.2.1 a b∧σ=⟨aT .undef 65 [(0,.sl r st [] s0 0 l.length),(1,I a),(6,I ((b-a:Nat):Int)),(7,.ptr H.length 1 [] 0 0 0),(8,.int .u64 ((2 ^ v:Nat):Int)),(9,I g.1)],dx H r st ss g.2.1 1 g.2.2,lp⟩) (fun g=>a+(b-a) / 4*2+2-g.1) ?_ (a+(b-a) / 4*2-1,l,((b-a:Nat):Int)) ?_
 ·rintro ⟨i,m,n⟩ σ ⟨⟨hi1,hi2⟩,hm,rfl⟩ N Q hQ hN;simp only at hi1 hi2 hm ⊢;have hml:=hm.len;by_cases hi:i≤a+(b-a) / 4*2+1
  ·have hnx:∀ {K:AV→St→Prop}{t:List AV}{bs:Nat},(∀n',K (.int .u64 n') ⟨t,dx H r st ss m 1 n',lp⟩)→Bc G Ba [.ptr H.length 1 [] 0 0 0] bs [] ⟨t,dx H r st ss m 1 n,lp⟩ K:=fun hK=>next_ok (by rw [dh_len];simp) hK;simp only [go_sem,↓reduceIte,↓Aa,w1,w2,w4,v4,wt,Int.ofNat_le,hi];refine hnx (fun n'=>?_);obtain ⟨w,hw,hw2⟩:=Aik (x:=n') (m:=2 ^ v-1) (by omega);have ww:IntKind.i64.wrap (w:Int)=(w:Int):=by rw [As]<;>omega
   have wi:IntKind.i64.wrap ((i:Int)+1)=((i+1:Nat):Int):=by rw [As]<;>omega
   have bi:i<l.length:=by omega
   have bi':i<m.length:=by omega
   have go:∀o:Nat,o<b-a→SegP l (sw m i (a+o)) a b:=fun o ho=>hm.tr (sw_seg bi' (by omega) (by omega) (by omega) (by omega) (by omega));by_cases hge:b-a≤w
   ·have wo:IntKind.i64.wrap ((w:Int)-((b-a:Nat):Int))=((w-(b-a):Nat):Int):=by rw [As]<;>omega
    have ho:w-(b-a)<b-a:=by omega
    have wa2:=Ww (x:=a) (y:=w-(b-a)) (by omega);have bo:a+(w-(b-a))<l.length:=by omega
    have bo':a+(w-(b-a))<m.length:=by omega
    simp only [go_sem,↓reduceIte,↓Aa,wm,hw,ww,Int.ofNat_le,Int.ofNat_lt,hge,wo,wa2,bi,bo,bi',bo',AfJ hr,AfO hr,wi];refine ⟨by simpa using bo',hN (i+1,sw m i (a+(w-(b-a))),n') _ (by simp only;omega) ⟨⟨by simp only;omega,by simp only;omega⟩,go _ ho,?_⟩⟩;simp only [go_sem,↓reduceIte,↓Aa,sw]
   ·have ho:w<b-a:=by omega
    have wa2:=Ww (x:=a) (y:=w) (by omega);have bo:a+w<l.length:=by omega
    have bo':a+w<m.length:=by omega
    simp only [go_sem,↓reduceIte,↓Aa,wm,hw,ww,Int.ofNat_le,Int.ofNat_lt,hge,wa2,bi,bo,bi',bo',AfJ hr,AfO hr,wi];refine ⟨by simpa using bo',hN (i+1,sw m i (a+w),n') _ (by simp only;omega) ⟨⟨by simp only;omega,by simp only;omega⟩,go _ ho,?_⟩⟩;simp only [go_sem,↓reduceIte,↓Aa,sw]
  ·subst hQ;simp only [go_sem,↓reduceIte,↓Aa,w1,w2,w4,v4,wt,Int.ofNat_le,hi,dx_take hr];exact hK m hm
 ·refine ⟨⟨Nat.le_refl _,by simp only;omega⟩,SegP.refl,?_⟩;simp only [go_sem,↓reduceIte,↓Aa]
end Go.Mw
