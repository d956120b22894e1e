/- meet.All, meet.Any and the reference's: the loops. -/
import Derived.Test.YtondemeliogjmaaGreatM28
set_option linter.unusedVariables false
set_option linter.unusedSimpArgs false
namespace Go.Mw
set_option maxRecDepth 100000
section
variable {acts:List ByteArray}{l:List Spc}
def Aee (f:FuncId)(J:Nat→Spc→Prop)(Big:Prop)(l:List Spc):Prop:=∀i<l.length,∀X,J i X→(∃Y,Fn G f [eSp X,eSp l[i]!] (.tup [eSp Y,Bo true])∧J (i+1) Y)∨(Fn G f [eSp X,eSp l[i]!] (.tup [eSp zSpc,Bo false])∧Big)
theorem AgA {J:Nat→Spc→Prop}{Big:Prop}(ha:acts.length≤8)(hl:l.length≤1048576)(hz:∀i<l.length,SpSz l[i]!∧SpI l[i]!)(hE:JL acts l=0)(h0:J 0 (evSpc acts))(hs:Aee f_meet_Met J Big l) :
 ∃X e,Fn G EA [.lst (acts.map .str),.lst (l.map eSp)] (.tup [eSp X,I e])∧((e=0∧J l.length X)∨(e=2∧X=zSpc∧Big)):=by
 suffices hh:FnP G EA [.lst (acts.map .str),.lst (l.map eSp)] (fun rs h=>∃X e,packV (treeBL 0 h rs) = .tup [eSp X,I e]∧((e=0∧J l.length X)∨(e=2∧X=zSpc∧Big))) by
  obtain ⟨v,⟨X,e,rfl,h⟩,hf⟩:=FnP.ex (P:=fun v=>∃X e,v = .tup [eSp X,I e]∧((e=0∧J l.length X)∨(e=2∧X=zSpc∧Big))) hh;exact ⟨X,e,hf,h⟩
 have hL:=OS acts l hl hz;rw [hE] at hL;have rL:∀ {fr:Bool}{roots:List Nat}{b:Nat}{ss:List Nat}{σ:St}{k:AV→St→Prop},callT G BR [.lst (acts.map .str),.lst (l.map eSp)] fr roots b ss σ k=k (I 0) σ:=hL.rule;have rE:∀ {roots:List Nat}{b:Nat}{ss:List Nat}{σ:St}{k:AV→St→Prop},callT G Er [.lst (acts.map .str)] true roots b ss σ k=k (eSp (evSpc acts)) σ:=(AdD acts ha).rule;refine FnP.mk' Rm rfl rfl ?_;simp only [go_sem,↓reduceIte,↓Aa,Nf,rL,rE,eSp];refine Ac (fun (g:Nat×Spc) σ=>g.1≤l.length∧J g.1 g.2∧∃z1 a2 c2,σ=⟨aT .undef 37 [(4,.ptr 0 1 [] 0 0 0),(7,.ptr 1 1 [] 0 0 0),(20,.lst (l.map eSp)),(21,I l.length),(22,I g.1)],
  [⟨1,0,.own 2 [.agg [.nils,.nils]]⟩,⟨1,z1,.own 2 [.agg [.lst (g.2.acts.map .str),.lst (g.2.S.map eSt)]]⟩,⟨a2,c2,.gone⟩],[]⟩) (fun g=>l.length-g.1) ?_ (0,evSpc acts) ?_
 ·rintro ⟨i,X⟩ σ ⟨hi,hJ,z1,a2,c2,rfl⟩ N Q hQ hN;simp only at hi hJ;by_cases hlt:i<l.length
  ·rcases hs i hlt X hJ with ⟨Y,hY,hJ2⟩|⟨hY,hB⟩
   ·have rM:∀ {roots:List Nat}{b:Nat}{ss:List Nat}{σ:St}{k:AV→St→Prop},callT G f_meet_Met [.agg [.lst (X.acts.map .str),.lst (X.S.map eSt)],.agg [.lst (l[i]!.acts.map .str),.lst (l[i]!.S.map eSt)]] true roots b ss σ k=k (.tup [eSp Y,Bo true]) σ:=hY.rule;simp only [go_sem,↓reduceIte,↓Aa,eSp,Ab hlt (by omega),Int.ofNat_lt,hlt,rM];refine hN (i+1,Y) _ (by simp only;omega) ⟨by simp only;omega,hJ2,?_⟩;simp only [go_sem,↓reduceIte,↓Aa];repeat apply Exists.intro
    rfl
   ·have rM:∀ {roots:List Nat}{b:Nat}{ss:List Nat}{σ:St}{k:AV→St→Prop},callT G f_meet_Met [.agg [.lst (X.acts.map .str),.lst (X.S.map eSt)],.agg [.lst (l[i]!.acts.map .str),.lst (l[i]!.S.map eSt)]] true roots b ss σ k=k (.tup [eSp zSpc,Bo false]) σ:=hY.rule;simp only [go_sem,↓reduceIte,↓Aa,eSp,Ab hlt (by omega),Int.ofNat_lt,hlt,rM];subst hQ;simp only [go_sem,↓reduceIte,↓Aa];exact ⟨zSpc,2,rfl,.inr ⟨rfl,rfl,hB⟩⟩
  ·have hil:i=l.length:=by omega
   subst hil hQ;simp only [go_sem,↓reduceIte,↓Aa,Int.ofNat_lt,hlt];exact ⟨X,0,rfl,.inl ⟨rfl,hJ⟩⟩
 ·refine ⟨by omega,h0,?_⟩;simp only [go_sem,↓reduceIte,↓Aa,eSp];repeat apply Exists.intro
  rfl
theorem pAny_ok {J:Nat→Spc→Prop}{Big:Prop}(ha:acts.length≤8)(hl:l.length≤1048576)(hz:∀i<l.length,SpSz l[i]!∧SpI l[i]!)(hE:JL acts l=0)(h0:J 0 (Bl acts))(hs:Aee f_meet_Joined J Big l) :
 ∃X e,Fn G Ei [.lst (acts.map .str),.lst (l.map eSp)] (.tup [eSp X,I e])∧((e=0∧J l.length X)∨(e=2∧X=zSpc∧Big)):=by
 suffices hh:FnP G Ei [.lst (acts.map .str),.lst (l.map eSp)] (fun rs h=>∃X e,packV (treeBL 0 h rs) = .tup [eSp X,I e]∧((e=0∧J l.length X)∨(e=2∧X=zSpc∧Big))) by
  obtain ⟨v,⟨X,e,rfl,h⟩,hf⟩:=FnP.ex (P:=fun v=>∃X e,v = .tup [eSp X,I e]∧((e=0∧J l.length X)∨(e=2∧X=zSpc∧Big))) hh;exact ⟨X,e,hf,h⟩
 have hL:=OS acts l hl hz;rw [hE] at hL;have rL:∀ {fr:Bool}{roots:List Nat}{b:Nat}{ss:List Nat}{σ:St}{k:AV→St→Prop},callT G BR [.lst (acts.map .str),.lst (l.map eSp)] fr roots b ss σ k=k (I 0) σ:=hL.rule;have rE:∀ {roots:List Nat}{b:Nat}{ss:List Nat}{σ:St}{k:AV→St→Prop},callT G BT [.lst (acts.map .str)] true roots b ss σ k=k (eSp (Bl acts)) σ:=(Q9 acts ha).rule;refine FnP.mk' Ra rfl rfl ?_;simp only [go_sem,↓reduceIte,↓Aa,NC,rL,rE,eSp];refine Ac (fun (g:Nat×Spc) σ=>g.1≤l.length∧J g.1 g.2∧∃z1 a2 c2,σ=⟨aT .undef 37 [(4,.ptr 0 1 [] 0 0 0),(7,.ptr 1 1 [] 0 0 0),(20,.lst (l.map eSp)),(21,I l.length),(22,I g.1)],
  [⟨1,0,.own 2 [.agg [.nils,.nils]]⟩,⟨1,z1,.own 2 [.agg [.lst (g.2.acts.map .str),.lst (g.2.S.map eSt)]]⟩,⟨a2,c2,.gone⟩],[]⟩) (fun g=>l.length-g.1) ?_ (0,Bl acts) ?_
 ·rintro ⟨i,X⟩ σ ⟨hi,hJ,z1,a2,c2,rfl⟩ N Q hQ hN;simp only at hi hJ;by_cases hlt:i<l.length
  ·rcases hs i hlt X hJ with ⟨Y,hY,hJ2⟩|⟨hY,hB⟩
   ·have rM:∀ {roots:List Nat}{b:Nat}{ss:List Nat}{σ:St}{k:AV→St→Prop},callT G f_meet_Joined [.agg [.lst (X.acts.map .str),.lst (X.S.map eSt)],.agg [.lst (l[i]!.acts.map .str),.lst (l[i]!.S.map eSt)]] true roots b ss σ k=k (.tup [eSp Y,Bo true]) σ:=hY.rule;simp only [go_sem,↓reduceIte,↓Aa,eSp,Ab hlt (by omega),Int.ofNat_lt,hlt,rM];refine hN (i+1,Y) _ (by simp only;omega) ⟨by simp only;omega,hJ2,?_⟩;simp only [go_sem,↓reduceIte,↓Aa];repeat apply Exists.intro
    rfl
   ·have rM:∀ {roots:List Nat}{b:Nat}{ss:List Nat}{σ:St}{k:AV→St→Prop},callT G f_meet_Joined [.agg [.lst (X.acts.map .str),.lst (X.S.map eSt)],.agg [.lst (l[i]!.acts.map .str),.lst (l[i]!.S.map eSt)]] true roots b ss σ k=k (.tup [eSp zSpc,Bo false]) σ:=hY.rule;simp only [go_sem,↓reduceIte,↓Aa,eSp,Ab hlt (by omega),Int.ofNat_lt,hlt,rM];subst hQ;simp only [go_sem,↓reduceIte,↓Aa];exact ⟨zSpc,2,rfl,.inr ⟨rfl,rfl,hB⟩⟩
  ·have hil:i=l.length:=by omega
   subst hil hQ;simp only [go_sem,↓reduceIte,↓Aa,Int.ofNat_lt,hlt];exact ⟨X,0,rfl,.inl ⟨rfl,hJ⟩⟩
 ·refine ⟨by omega,h0,?_⟩;simp only [go_sem,↓reduceIte,↓Aa,eSp];repeat apply Exists.intro
  rfl
theorem rAll_ok {K:Nat→Spc→Prop}(ha:acts.length≤8)(hl:l.length≤1048576)(h0:K 0 (evSpc acts))(hs:∀i<l.length,∀X,K i X→∃M o Y,Fn G f_r07_Meet [eSp X,eSp l[i]!] (eSp M)∧Fn G Bt [eSp M] (.tup [eSp Y,.lst o])∧K (i+1) Y) :
 ∃X,Fn G FW [.lst (acts.map .str),.lst (l.map eSp)] (eSp X)∧K l.length X:=by
 suffices hh:FnP G FW [.lst (acts.map .str),.lst (l.map eSp)] (fun rs h=>∃X,packV (treeBL 0 h rs)=eSp X∧K l.length X) by
  obtain ⟨v,⟨X,rfl,h⟩,hf⟩:=FnP.ex (P:=fun v=>∃X,v=eSp X∧K l.length X) hh;exact ⟨X,hf,h⟩
 have rE:∀ {roots:List Nat}{b:Nat}{ss:List Nat}{σ:St}{k:AV→St→Prop},callT G JP [.lst (acts.map .str)] true roots b ss σ k=k (eSp (evSpc acts)) σ:=(everyR_ok acts ha).rule;refine FnP.mk' Acf rfl rfl ?_;simp only [go_sem,↓reduceIte,↓Aa,Vx,rE,eSp];refine Ac (fun (g:Nat×Spc) σ=>g.1≤l.length∧K g.1 g.2∧∃z1 a2 c2,σ=⟨aT .undef 25 [(4,.ptr 0 1 [] 0 0 0),(5,.ptr 1 1 [] 0 0 0),(10,.lst (l.map eSp)),(11,I l.length),(12,I g.1)],
  [⟨1,0,.own 2 [.agg [.nils,.nils]]⟩,⟨1,z1,.own 2 [.agg [.lst (g.2.acts.map .str),.lst (g.2.S.map eSt)]]⟩,⟨a2,c2,.gone⟩],[]⟩) (fun g=>l.length-g.1) ?_ (0,evSpc acts) ?_
 ·rintro ⟨i,X⟩ σ ⟨hi,hJ,z1,a2,c2,rfl⟩ N Q hQ hN;simp only at hi hJ;by_cases hlt:i<l.length
  ·obtain ⟨M,o,Y,hM,hY,hK⟩:=hs i hlt X hJ;have rM:∀ {roots:List Nat}{b:Nat}{ss:List Nat}{σ:St}{k:AV→St→Prop},callT G f_r07_Meet [.agg [.lst (X.acts.map .str),.lst (X.S.map eSt)],.agg [.lst (l[i]!.acts.map .str),.lst (l[i]!.S.map eSt)]] true roots b ss σ k=k (eSp M) σ:=hM.rule;have rT:∀ {roots:List Nat}{b:Nat}{ss:List Nat}{σ:St}{k:AV→St→Prop},callT G Bt [.agg [.lst (M.acts.map .str),.lst (M.S.map eSt)]] true roots b ss σ k=k (.tup [eSp Y,.lst o]) σ:=hY.rule;simp only [go_sem,↓reduceIte,↓Aa,eSp,Ab hlt (by omega),Int.ofNat_lt,hlt,rM,rT];refine hN (i+1,Y) _ (by simp only;omega) ⟨by simp only;omega,hK,?_⟩;simp only [go_sem,↓reduceIte,↓Aa];repeat apply Exists.intro
   rfl
  ·have hil:i=l.length:=by omega
   subst hil hQ;simp only [go_sem,↓reduceIte,↓Aa,Int.ofNat_lt,hlt];exact ⟨X,rfl,hJ⟩
 ·refine ⟨by omega,h0,?_⟩;simp only [go_sem,↓reduceIte,↓Aa,eSp];repeat apply Exists.intro
  rfl
theorem rAny_ok {K:Nat→Spc→Prop}(ha:acts.length≤8)(hl:l.length≤1048576)(h0:K 0 (Bl acts))(hs:∀i<l.length,∀X,K i X→∃Y,Fn G f_r07_Join [eSp X,eSp l[i]!] (eSp Y)∧K (i+1) Y) :
 ∃X,Fn G FS [.lst (acts.map .str),.lst (l.map eSp)] (eSp X)∧K l.length X:=by
 suffices hh:FnP G FS [.lst (acts.map .str),.lst (l.map eSp)] (fun rs h=>∃X,packV (treeBL 0 h rs)=eSp X∧K l.length X) by
  obtain ⟨v,⟨X,rfl,h⟩,hf⟩:=FnP.ex (P:=fun v=>∃X,v=eSp X∧K l.length X) hh;exact ⟨X,hf,h⟩
 have rE:∀ {roots:List Nat}{b:Nat}{ss:List Nat}{σ:St}{k:AV→St→Prop},callT G Ci [.lst (acts.map .str)] true roots b ss σ k=k (eSp (Bl acts)) σ:=(Pq acts ha).rule;refine FnP.mk' Ab0 rfl rfl ?_;simp only [go_sem,↓reduceIte,↓Aa,U4,rE,eSp];refine Ac (fun (g:Nat×Spc) σ=>g.1≤l.length∧K g.1 g.2∧∃z1 a2 c2,σ=⟨aT .undef 21 [(4,.ptr 0 1 [] 0 0 0),(5,.ptr 1 1 [] 0 0 0),(10,.lst (l.map eSp)),(11,I l.length),(12,I g.1)],
  [⟨1,0,.own 2 [.agg [.nils,.nils]]⟩,⟨1,z1,.own 2 [.agg [.lst (g.2.acts.map .str),.lst (g.2.S.map eSt)]]⟩,⟨a2,c2,.gone⟩],[]⟩) (fun g=>l.length-g.1) ?_ (0,Bl acts) ?_
 ·rintro ⟨i,X⟩ σ ⟨hi,hJ,z1,a2,c2,rfl⟩ N Q hQ hN;simp only at hi hJ;by_cases hlt:i<l.length
  ·obtain ⟨Y,hM,hK⟩:=hs i hlt X hJ;have rM:∀ {roots:List Nat}{b:Nat}{ss:List Nat}{σ:St}{k:AV→St→Prop},callT G f_r07_Join [.agg [.lst (X.acts.map .str),.lst (X.S.map eSt)],.agg [.lst (l[i]!.acts.map .str),.lst (l[i]!.S.map eSt)]] true roots b ss σ k=k (eSp Y) σ:=hM.rule;simp only [go_sem,↓reduceIte,↓Aa,eSp,Ab hlt (by omega),Int.ofNat_lt,hlt,rM];refine hN (i+1,Y) _ (by simp only;omega) ⟨by simp only;omega,hK,?_⟩;simp only [go_sem,↓reduceIte,↓Aa];repeat apply Exists.intro
   rfl
  ·have hil:i=l.length:=by omega
   subst hil hQ;simp only [go_sem,↓reduceIte,↓Aa,Int.ofNat_lt,hlt];exact ⟨X,rfl,hJ⟩
 ·refine ⟨by omega,h0,?_⟩;simp only [go_sem,↓reduceIte,↓Aa,eSp];repeat apply Exists.intro
  rfl
theorem pErr_ok (hl:l.length≤1048576)(hz:∀i<l.length,SpSz l[i]!∧SpI l[i]!)(hE:JL acts l≠0) :
 Fn G EA [.lst (acts.map .str),.lst (l.map eSp)] (.tup [eSp zSpc,I (JL acts l)])∧Fn G Ei [.lst (acts.map .str),.lst (l.map eSp)] (.tup [eSp zSpc,I (JL acts l)]):=by
 have rL:∀ {fr:Bool}{roots:List Nat}{b:Nat}{ss:List Nat}{σ:St}{k:AV→St→Prop},callT G BR [.lst (acts.map .str),.lst (l.map eSp)] fr roots b ss σ k=k (I (JL acts l)) σ:=(OS acts l hl hz).rule;constructor
 ·refine FnP.mk' Rm rfl rfl ?_;simp only [go_sem,↓reduceIte,↓Aa,Nf,rL];exact ⟨fun _=>rfl,fun h=>absurd h (by simpa using hE)⟩
 ·refine FnP.mk' Ra rfl rfl ?_;simp only [go_sem,↓reduceIte,↓Aa,NC,rL];exact ⟨fun _=>rfl,fun h=>absurd h (by simpa using hE)⟩
end
end Go.Mw
namespace Go.Mw
set_option maxRecDepth 100000
theorem PS.eqv {Gd:Pr→Prop}{acts:List ByteArray}{acc acc':Pr→Int→Prop}{nx:Pr→Nat→Pr}{go go':Pr→Nat→Prop}{A:Spc}{l:List Pr}(h:PS Gd acts acc nx go A l)(ha:∀p,Gd p→∀v,acc p v↔acc' p v)(hg:∀p,Gd p→∀a,go p a↔go' p a):PS Gd acts acc' nx go' A l :=
 ⟨h.ac,h.len,h.z,h.nd,h.good,fun i hi v=>(h.a i hi v).trans (ha _ (h.good _ (AI hi)) v),h.ris,h.xl,fun i hi a hl hh=>h.xg i hi a hl ((hg _ (h.good _ (AI hi)) a).2 hh),fun i hi a hl hh=>h.xn i hi a hl (fun g=>hh ((hg _ (h.good _ (AI hi)) a).1 g))⟩
theorem PS.used {Gd:Pr→Prop}{acts:List ByteArray}{acc acc':Pr→Int→Prop}{nx:Pr→Nat→Pr}{A:Spc}{l:List Pr}(h:PS Gd acts acc nx (usedP acc) A l)(ha:∀p,Gd p→∀v,acc p v↔acc' p v):PS Gd acts acc' nx (usedP acc') A l :=
 h.eqv ha (fun p hp a=>exists_congr fun v=>and_congr (ha p hp v) Iff.rfl)
theorem V2 {n m:Nat}{l:List Pr}(hn:l.Nodup)(hg:∀p∈l,gdM n m p):l.length≤n*m:=by
 have:=Jg (n:=n*m) (l:=l.map fun p=>p.1.toNat*m+p.2.toNat) ?_ ?_
 ·simpa using this
 ·refine (List.pairwise_map).2 ?_;refine List.Pairwise.imp_of_mem ?_ hn;intro a b ha hb hab he;obtain ⟨a1,a2,a3,a4⟩:=hg a ha;obtain ⟨b1,b2,b3,b4⟩:=hg b hb;have e2:a.2.toNat=b.2.toNat:=by
   have:=congrArg (· % m) he;simp only [Nat.mul_add_mod_self_right] at this;rwa [Nat.mod_eq_of_lt (by omega),Nat.mod_eq_of_lt (by omega)] at this
  have e1:a.1.toNat=b.1.toNat:=by
   have:a.1.toNat*m=b.1.toNat*m:=by omega
   exact Nat.eq_of_mul_eq_mul_right (by omega) this
  exact hab (Prod.ext (by omega) (by omega))
 ·intro x hx;obtain ⟨p,hp,rfl⟩:=List.mem_map.1 hx;obtain ⟨a1,a2,a3,a4⟩:=hg p hp;have h1:(p.1.toNat+1)*m≤n*m:=Nat.mul_le_mul_right _ (by omega);rw [Nat.add_mul] at h1;omega
def prS (l:List Spc):Nat→Nat
 | 0=>1
 | i+1=>prS l i*(l[i]!.S.length+1)
theorem V3 {l:List Spc}:∀i,1≤prS l i
 | 0=>Nat.le_refl _
 | i+1=>Nat.le_trans (V3 i) (Nat.le_mul_of_pos_right _ (by omega))
theorem Ka {l:List Spc}{i:Nat}:∀ {j},i≤j→prS l i≤prS l j:=by
 intro j h;induction j with
 | zero=>rw [show i=0 by omega];exact Nat.le_refl _
 | succ j ih =>
   rcases Nat.lt_or_ge i (j+1) with hlt|hge
   ·exact Nat.le_trans (ih (by omega)) (Nat.le_mul_of_pos_right _ (by omega))
   ·rw [show i=j+1 by omega];exact Nat.le_refl _
section
variable {acts:List ByteArray}{l:List Spc}
def kA (acts:List ByteArray)(l:List Spc):Nat→Spc→Prop
 | 0,W=>W=evSpc acts
 | i+1,W=>∃V M k,kA acts l i V∧PS (gdM V.S.length l[i]!.S.length) V.acts (fun p v=>v∈J1 V l[i]! p) (nxP V l[i]!) (goM V l[i]!) M k∧W=(trimA M).1
theorem Yp {m q:Nat}{s t:Spc}(hs:SpcK m s)(ht:SpcK q t):AccOk (gdM s.S.length t.S.length) s.acts.length (fun p v=>v∈J1 s t p) (goM s t):=⟨fun p v hp hv=>(LV hs ht).b p v hp ((FU hp).1 hv),fun p v a hp hv ha=>(LV hs ht).g p v a hp ((FU hp).1 hv) ha⟩
theorem metM_ok {m q:Nat}{V t M:Spc}{k:List Pr}(hV:SpcK m V)(ht:SpcK q t)(hP:PS (gdM V.S.length t.S.length) V.acts (fun p v=>v∈J1 V t p) (nxP V t) (goM V t) M k)(hn:V.S.length*t.S.length≤12000):SpcK 12000 M∧M.S.length≤V.S.length*t.S.length:=by
 have hk:=V2 hP.nd hP.good;exact ⟨hP.ok hV.acts (Yp hV ht) (by omega),by rw [hP.len];exact hk⟩
theorem AeL (ha:actsOk acts=true)(hl:∀i<l.length,CR l[i]!∧l[i]!.acts=acts)(hp:prS l l.length≤5000):∀i≤l.length,∀W,kA acts l i W→SpcK 12000 W∧W.acts=acts∧W.S.length≤prS l i
 | 0,_,W,h=>by
   rw [show W=evSpc acts from h];exact ⟨Oz (by omega) ha,rfl,Nat.le_refl _⟩
 | i+1,hi,W,h=>by
   obtain ⟨V,M,k,hV,hP,rfl⟩:=h;obtain ⟨h1,h2,h3⟩:=AeL ha hl hp i (by omega) V hV;have hm:=Ka (l:=l) (show i+1≤l.length from hi);have hmul:V.S.length*l[i]!.S.length≤prS l (i+1):=Nat.mul_le_mul h3 (by omega);obtain ⟨g1,g2⟩:=metM_ok h1 (hl i (by omega)).1 hP (by omega);obtain ⟨t1,t2⟩:=Cx g1;have:=trimA_len g1;exact ⟨t1.ok,by rw [t2,hP.ac,h2],by omega⟩
def jA (acts:List ByteArray)(l:List Spc)(i:Nat)(X:Spc):Prop:=CR X∧X.acts=acts∧(trimA X).1=X∧X.S.length≤prS l i∧∀W,kA acts l i W→∃R,Bi X W R
theorem Agz (ha:actsOk acts=true):jA acts l 0 (evSpc acts) :=
 ⟨Oz (by omega) ha,rfl,Ahc ha,Nat.le_refl _,fun W hW=>by rw [show W=evSpc acts from hW];exact ⟨_,Bi.refl (Oz (m:=500) (by omega) ha)⟩⟩
theorem AiZ (ha:actsOk acts=true)(hl:∀i<l.length,CR l[i]!∧l[i]!.acts=acts)(hp:prS l l.length≤5000):Aee f_meet_Met (jA acts l) (500<prS l l.length) l:=by
 rintro i hi X ⟨hX,hXa,hXt,hXl,hB⟩;obtain ⟨hs,hsa⟩:=hl i hi;have hm:=Ka (l:=l) (show i+1≤l.length from hi);have hmul:X.S.length*l[i]!.S.length≤prS l (i+1):=Nat.mul_le_mul hXl (by omega);rcases met_ok hX hs (by rw [hXa,hsa]) with ⟨C,k,hP,hk,hm2⟩|⟨k,h1,h2,h3,hm2⟩
 ·have hCk:=V2 hP.nd hP.good;have hC:CR C:=hP.ok hX.acts (Yp hX hs).used (by omega);obtain ⟨t1,t2⟩:=Cx hC;have hlen:=trimA_len hC;refine .inl ⟨_,hm2,t1.ok,by rw [t2,hP.ac,hXa],D9 hC,by have:=hP.len;omega,?_⟩;rintro W ⟨V,M,k2,hV,hM,rfl⟩;obtain ⟨g1,g2,g3⟩:=AeL ha hl hp i (by omega) V hV;obtain ⟨R,hR⟩:=hB V hV;have hmul2:V.S.length*l[i]!.S.length≤prS l (i+1):=Nat.mul_le_mul g3 (by omega);obtain ⟨f1,f2⟩:=metM_ok g1 hs hM (by omega);obtain ⟨R2,hR2⟩:=hR.met hX g1 hs (hP.used (fun p hp v=>FU hp)) (hM.eqv (fun p hp v=>FU hp) (fun p hp a=>Iff.rfl));exact hR2.trim hC f1
 ·have:=V2 h1 h2;exact .inr ⟨hm2,by omega⟩
def kJ (acts:List ByteArray)(l:List Spc):Nat→Spc→Prop
 | 0,W=>W=Bl acts
 | i+1,W=>∃V k,kJ acts l i V∧PS (Cd (trimA V).1.S.length (trimA l[i]!).1.S.length) V.acts (fun p v=>v∈setsJ (trimA V).1 (trimA l[i]!).1 p) (nxP (trimA V).1 (trimA l[i]!).1) (goJ (trimA V).1 (trimA l[i]!).1) W k
theorem mul1 {a b c d:Nat}(h1:a+1≤2*c)(h2:b≤d):a*b+a+b+1≤2*(c*(d+1)):=by
 have h:=Nat.mul_le_mul h1 (show b+1≤d+1 by omega);rw [Nat.mul_assoc] at h;have:(a+1)*(b+1)=a*b+a+b+1:=by rw [Nat.add_mul,Nat.mul_add];omega
 omega
theorem Ajb {a b c d:Nat}(h1:a+1≤c)(h2:b≤d):a*b+a+b+1≤c*(d+1):=by
 have h:=Nat.mul_le_mul h1 (show b+1≤d+1 by omega);have:(a+1)*(b+1)=a*b+a+b+1:=by rw [Nat.add_mul,Nat.mul_add];omega
 omega
theorem Afq (ha:actsOk acts=true)(hl:∀i<l.length,CR l[i]!∧l[i]!.acts=acts)(hp:prS l l.length≤5000):∀i≤l.length,∀W,kJ acts l i W→SpcK 12000 W∧W.acts=acts∧W.S.length+1≤2*prS l i
 | 0,_,W,h=>by
   rw [show W=Bl acts from h];exact ⟨(Kb (by omega) ha).ok,rfl,Nat.le_refl _⟩
 | i+1,hi,W,h=>by
   obtain ⟨V,k,hV,hP⟩:=h;obtain ⟨h1,h2,h3⟩:=Afq ha hl hp i (by omega) V hV;obtain ⟨hs,hsa⟩:=hl i (by omega);have hm:=Ka (l:=l) (show i+1≤l.length from hi);have n1:=trimA_len h1;have n2:=trimA_len hs;have hmul:=mul1 (show (trimA V).1.S.length+1≤2*prS l i by omega) n2;obtain ⟨t1,t2⟩:=Cx h1;obtain ⟨u1,u2⟩:=Cx hs;have hB:=Lc t1.ok u1.ok (by rw [u2,t2,h2,hsa]);rw [t2] at hB;rw [Mv] at hP;have hk:=Ki hP.nd hP.good;have hk2:=hP.len;simp only [prS] at hm ⊢;exact ⟨hP.ok h1.acts hB (by omega),by rw [hP.ac,h2],by omega⟩
def jJ (acts:List ByteArray)(l:List Spc)(i:Nat)(X:Spc):Prop:=CR X∧X.acts=acts∧(trimA X).1=X∧((Cn X)[0]! = true∨X.S.length+1≤prS l i)∧∀W,kJ acts l i W→∃C R,CR C∧X=(trimA C).1∧Bi C W R
theorem AfQ {l:List ByteArray}:(Cn (Bl l))[0]! = true:=(Cw (by simp [Bl])).2 ⟨by simp [Bl],fun P hP=>hP 0 (by simp [Bl]) (fun i hi=>by simp [Bl] at hi)⟩
theorem Ab7 {l:List ByteArray}:(trimA (Bl l)).1=Bl l:=by rw [Kl AfQ];rfl
theorem Agh (ha:actsOk acts=true):jJ acts l 0 (Bl acts) :=
 ⟨(Kb (by omega) ha).ok,rfl,Ab7,.inl AfQ,fun W hW=>by rw [show W=Bl acts from hW];exact ⟨Bl acts,_,(Kb (by omega) ha).ok,Ab7.symm,Bi.refl (Kb (m:=500) (by omega) ha).ok⟩⟩
end
end Go.Mw
namespace Go.Mw
set_option maxRecDepth 100000
section
variable {acts:List ByteArray}{l:List Spc}
theorem Aeq {m q:Nat}{s t:Spc}(hs:SpcK m s)(ht:SpcK q t)(he:t.acts=s.acts):AccOk (Cd s.S.length t.S.length) s.acts.length (fun p v=>v∈setsJ s t p) (goJ s t):=by rw [Mv];exact Lc hs ht he
theorem Ai4 (ha:actsOk acts=true)(hl:∀i<l.length,CR l[i]!∧l[i]!.acts=acts)(hp:prS l l.length≤5000):Aee f_meet_Joined (jJ acts l) (500<prS l l.length) l:=by
 rintro i hi X ⟨hX,hXa,hXt,hXl,hB⟩;obtain ⟨hs,hsa⟩:=hl i hi;have hm:=Ka (l:=l) (show i+1≤l.length from hi);have hm1:=Ka (l:=l) (show i≤i+1 by omega);have n2:=trimA_len hs;obtain ⟨u1,u2⟩:=Cx hs;obtain ⟨x1,_⟩:=Cx hX;rw [hXt] at x1;have key:∀V,kJ acts l i V→SpcK 12000 V∧V.acts=acts∧∃R,Bi X (trimA V).1 R:=fun V hV=>by
  obtain ⟨h1,h2,_⟩:=Afq ha hl hp i (by omega) V hV;obtain ⟨C,R,hC,e,hR⟩:=hB V hV;rw [e];exact ⟨h1,h2,hR.trim hC h1⟩
 have j:=Abc hX hs (by rw [hXa,hsa]);rw [hXt] at j;rcases j with ⟨e,hm2⟩|⟨e,hm2⟩|⟨C,k,e,hP,hk,hm2⟩|⟨k,e,h1,h2,h3,hm2⟩
 ·have hx:=(OJ hX).1 e;refine .inl ⟨_,hm2,u1.ok,by rw [u2,hsa],D9 hs,.inr ?_,?_⟩
  ·have h1:=Nat.le_mul_of_pos_left (l[i]!.S.length+1) (V3 (l:=l) i);simp only [prS];omega
  ·rintro W ⟨V,k,hV,hP⟩;obtain ⟨h1,h2,R,hR⟩:=key V hV;obtain ⟨t1,t2⟩:=Cx h1;have hv:(Cn (trimA V).1)[0]! = true:=(Cw t1.ok.s1).2 (hR.hol hX t1.ok hR.z ((Cw hX.s1).1 hx));have e2:(trimA V).1=Bl acts:=by
    rw [←D9 h1,Kl hv,t2,h2]
   rw [e2,Mv,h2] at hP;have hA:=Lc (Kb (m:=500) (by omega) ha).ok u1.ok (by rw [u2,hsa];rfl);obtain ⟨R2,hR2⟩:=Adx u1.ok (by rw [u2,hsa]) hP hA;exact ⟨_,R2,u1.ok,(D9 hs).symm,hR2⟩
 ·have ht:=(OJ hs).1 e;have e1:(trimA l[i]!).1=Bl acts:=by rw [Kl ht,hsa]
  refine .inl ⟨_,hm2,hX,hXa,hXt,hXl.imp id (fun h=>by omega),?_⟩;rintro W ⟨V,k,hV,hP⟩;obtain ⟨h1,h2,R,hR⟩:=key V hV;obtain ⟨t1,t2⟩:=Cx h1;rw [e1,Mv,h2] at hP;have hA:=Lc t1.ok (Kb (m:=500) (by omega) ha).ok (by rw [t2,h2];rfl);rw [t2,h2] at hA;obtain ⟨R2,hR2⟩:=Aeu t1.ok (by rw [t2,h2]) hP hA;exact ⟨X,_,hX,hXt.symm,hR.trans hR2⟩
 ·have hne:X.S.length+1≤prS l i:=hXl.resolve_left (fun h=>e ((OJ hX).2 h));have hmul:=Ajb hne n2;have hCk:=Ki hP.nd hP.good;have hC:CR C:=hP.ok hX.acts (Aeq hX u1.ok (by rw [u2,hsa,hXa])).used (by omega);obtain ⟨t1,t2⟩:=Cx hC;have hlen:=trimA_len hC;have hk2:=hP.len;refine .inl ⟨_,hm2,t1.ok,by rw [t2,hP.ac,hXa],D9 hC,.inr (by simp only [prS];omega),?_⟩;rintro W ⟨V,k2,hV,hM⟩;obtain ⟨h1,h2,R,hR⟩:=key V hV;obtain ⟨v1,v2⟩:=Cx h1;rw [Mv] at hP hM;rw [h2,←hXa] at hM;obtain ⟨R2,hR2⟩:=hR.join x1 v1 u1.ok (by rw [u2,hsa,hXa]) hP hM;exact ⟨C,R2,hC,rfl,hR2⟩
 ·have hne:X.S.length+1≤prS l i:=hXl.resolve_left (fun h=>e ((OJ hX).2 h));have hmul:=Ajb hne n2;have:=Ki h1 h2;refine .inr ⟨hm2,?_⟩;simp only [prS] at hm;omega
end
end Go.Mw
namespace Go.Mw
set_option maxRecDepth 100000
section
variable {acts:List ByteArray}{l:List Spc}
theorem Aey (hl:l.length≤1048576)(hz:∀i<l.length,SpSz l[i]!∧SpI l[i]!)(hE:JL acts l=0)(hp:prS l l.length≤5000) :
 ∃X e W,Fn G EA [.lst (acts.map .str),.lst (l.map eSp)] (.tup [eSp X,I e])∧Fn G FW [.lst (acts.map .str),.lst (l.map eSp)] (eSp W) ∧
  FnT G BU [eSp X,I e,I 0,eSp W,Bo (decide ((500:Int)<((prS l l.length:Nat):Int)))] (Bo true):=by
 obtain ⟨ha,hok⟩:=Rz hE;obtain ⟨W,hW,hK⟩:=rAll_ok (K:=kA acts l) (Au ha) hl rfl (fun i hi V hV=>by
  obtain ⟨h1,h2,h3⟩:=AeL ha hok hp i (by omega) V hV;obtain ⟨hs,hsa⟩:=hok i hi;have hm:=Ka (l:=l) (show i+1≤l.length from hi);have hmul:=mul1 (show V.S.length+1≤2*prS l i by have:=V3 (l:=l) i;omega) (Nat.le_refl l[i]!.S.length);simp only [prS] at hm;obtain ⟨M,k,hP,hF⟩:=ZZ h1 hs (by rw [h2,hsa]) (by omega);obtain ⟨g1,g2⟩:=metM_ok h1 hs hP (by omega);exact ⟨M,_,_,hF,Xy M (g1.b g1.sz) g1.s1 (Au g1.acts),V,M,k,hV,hP,rfl⟩)
 obtain ⟨X,e,hX,h⟩:=AgA (Au ha) hl hz hE (Agz ha) (AiZ ha hok hp);refine ⟨X,e,W,hX,hW,?_⟩;rcases h with ⟨rfl,c1,c2,c3,c4,c5⟩|⟨rfl,rfl,hB⟩
 ·obtain ⟨R,hR⟩:=c5 W hK;obtain ⟨g1,_,_⟩:=AeL ha hok hp _ (Nat.le_refl _) W hK;have:=fine_bi hR c1 g1;rw [c3] at this;exact Vp X W this _
 ·rw [decide_eq_true (by omega)];exact RD W
theorem AeZ (hl:l.length≤1048576)(hz:∀i<l.length,SpSz l[i]!∧SpI l[i]!)(hE:JL acts l=0)(hp:prS l l.length≤5000) :
 ∃X e W,Fn G Ei [.lst (acts.map .str),.lst (l.map eSp)] (.tup [eSp X,I e])∧Fn G FS [.lst (acts.map .str),.lst (l.map eSp)] (eSp W) ∧
  FnT G BU [eSp X,I e,I 0,eSp W,Bo (decide ((500:Int)<((prS l l.length:Nat):Int)))] (Bo true):=by
 obtain ⟨ha,hok⟩:=Rz hE;obtain ⟨W,hW,hK⟩:=rAny_ok (K:=kJ acts l) (Au ha) hl rfl (fun i hi V hV=>by
  obtain ⟨h1,h2,h3⟩:=Afq ha hok hp i (by omega) V hV;obtain ⟨hs,hsa⟩:=hok i hi;have hm:=Ka (l:=l) (show i+1≤l.length from hi);have n1:=trimA_len h1;have hmul:=mul1 (show (trimA V).1.S.length+1≤2*prS l i by omega) (trimA_len hs);simp only [prS] at hm;obtain ⟨M,k,hP,hF⟩:=YK h1 hs (by rw [h2,hsa]) (by omega);exact ⟨M,hF,V,k,hV,hP⟩)
 obtain ⟨X,e,hX,h⟩:=pAny_ok (Au ha) hl hz hE (Agh ha) (Ai4 ha hok hp);refine ⟨X,e,W,hX,hW,?_⟩;rcases h with ⟨rfl,c1,c2,c3,c4,c5⟩|⟨rfl,rfl,hB⟩
 ·obtain ⟨C,R,hC,rfl,hR⟩:=c5 W hK;obtain ⟨g1,_,_⟩:=Afq ha hok hp _ (Nat.le_refl _) W hK;exact Vp _ W (fine_bi hR hC g1) _
 ·rw [decide_eq_true (by omega)];exact RD W
end
end Go.Mw
namespace Go.Mw
set_option maxRecDepth 100000
theorem Fn.ruleN {f:FuncId}{xs:List AV}{r:AV}(h:Fn G f xs r){fr:Bool}{roots:List Nat}{b:Nat}{ss:List Nat}{σ:St}{k:AV→St→Prop}(hk:∀h',(h'=σ.h∨h'=Al σ.h roots)→k r ⟨σ.t,h',σ.lp⟩):callT G f xs fr roots b ss σ k:=by
 cases fr with
 | true=>rw [h.rule];exact hk _ (.inl rfl)
 | false=>exact h.rule2 (hk _ (.inl rfl)) (hk _ (.inr rfl))
theorem Af1 {o0 o1 o2 o3 o4 o5 o6:Ob}{xs:List AV}{h':List Ob}(h:h' = [o0,o1,o2,o3,o4,o5,o6]∨h'=Al [o0,o1,o2,o3,o4,o5,o6] (may xs 3)):∃o,h' = [o0,o1,o2,o,o4,o5,o6]:=by
 rcases h with rfl|rfl
 ·exact ⟨_,rfl⟩
 ·unfold may;split<;>exact ⟨_,rfl⟩
theorem AfY {o0 o1 o2 o3 o4 o5 o6:Ob}{xs:List AV}{h':List Ob}(h:h' = [o0,o1,o2,o3,o4,o5,o6]∨h'=Al [o0,o1,o2,o3,o4,o5,o6] (may xs 5)):∃o,h' = [o0,o1,o2,o3,o4,o,o6]:=by
 rcases h with rfl|rfl
 ·exact ⟨_,rfl⟩
 ·unfold may;split<;>exact ⟨_,rfl⟩
theorem QJ (acts:List ByteArray)(l:List Spc)(ha:acts.length≤8796093022208)(hl:l.length≤140737488355328)(hb:∀i<l.length,SpBig l[i]!):FnT G f_w07_MeetSeveral [.lst (acts.map .str),.lst (l.map eSp)] (Bo true):=by
 refine FnP.mk' Nk rfl rfl ?_;by_cases h12:(12:Int)<(l.length:Int)
 ·simp only [go_sem,↓reduceIte,↓Aa,Fr,h12,KL]
 simp only [go_sem,↓reduceIte,↓Aa,Fr,h12];refine Ac (fun (i:Nat) σ=>i≤l.length∧prS l i≤5000∧(∀j<i,SpSz l[j]!∧SpI l[j]!)∧∃a c,σ=⟨aT .undef 85 [(0,.lst (acts.map .str)),(1,.lst (l.map eSp)),(5,I (prS l i)),(19,.lst (l.map eSp)),(20,I l.length),(21,I i)],
  [⟨a,c,.gone⟩,⟨0,0,.gone⟩,⟨0,0,.gone⟩,⟨0,0,.gone⟩,⟨0,0,.gone⟩,⟨0,0,.gone⟩,⟨0,0,.gone⟩],[]⟩) (fun i=>l.length-i) ?_ 0 ?_
 ·rintro i σ ⟨hi,hp,hall,a,c,rfl⟩ N Q hQ hN;by_cases hlt:i<l.length
  ·obtain ⟨v,hv,hP⟩:=light07_big l[i]! (hb i hlt);have l1:∀ {fr:Bool}{roots:List Nat}{b:Nat}{ss:List Nat}{σ:St}{k:AV→St→Prop},callT G Fj [.agg [.lst (l[i]!.acts.map .str),.lst (l[i]!.S.map eSt)]] fr roots b ss σ k=k (Bo v) σ:=hv.rule;cases v with
   | false =>
     simp only [go_sem,↓reduceIte,↓Aa,eSp,Ab hlt (by omega),Int.ofNat_lt,hlt,l1,KL];subst hQ;simp only [go_sem,↓reduceIte,↓Aa]
   | true =>
     obtain ⟨hz,hn⟩:=hP rfl;have hm:prS l i*(l[i]!.S.length+1)≤5000*31:=Nat.mul_le_mul hp (by omega);have w1:IntKind.i64.wrap ((l[i]!.S.length:Int)+1)=((l[i]!.S.length+1:Nat):Int):=by rw [As]<;>omega
     have w2:IntKind.i64.wrap ((prS l i:Int)*((l[i]!.S.length+1:Nat):Int))=((prS l (i+1):Nat):Int):=by
      have e:prS l (i+1)=prS l i*(l[i]!.S.length+1):=rfl;rw [e,←Int.natCast_mul,As]<;>omega
     simp only [go_sem,↓reduceIte,↓Aa,eSp,Ab hlt (by omega),Int.ofNat_lt,hlt,l1,KL,w1,w2];refine ⟨fun h=>?_,fun h=>hN (i+1) _ (by omega) ⟨by omega,by omega,Ae hall ⟨hz,(hb i hlt).fi⟩,?_⟩⟩
     ·subst hQ;simp only [go_sem,↓reduceIte,↓Aa]
     ·simp only [go_sem,↓reduceIte,↓Aa];repeat apply Exists.intro
      rfl
  ·have hil:i=l.length:=by omega
   subst hil hQ;have hS:∀ {fr:Bool}{roots:List Nat}{b:Nat}{ss:List Nat}{σ:St}{k:AV→St→Prop},callT G DO [.lst (acts.map .str),.lst (l.map eSp)] fr roots b ss σ k=k (I (JL acts l)) σ:=(ZX acts l (by omega) hall).rule;have hC:∀ {roots:List Nat}{b:Nat}{ss:List Nat}{σ:St}{k:AV→St→Prop},callT G Du [.lst (l.map eSp)] true roots b ss σ k=k (.lst (l.map eSp)) σ:=(copies_ok l (by omega) fun i hi=>(hall i hi).1).rule;by_cases h0:JL acts l=0
   ·obtain ⟨X,e,W,hA,hR,hT⟩:=Aey (by omega) hall h0 hp;obtain ⟨Y,f,V,hB,hU,hV⟩:=AeZ (by omega) hall h0 hp;have r1:∀ {roots:List Nat}{b:Nat}{ss:List Nat}{σ:St}{k:AV→St→Prop},callT G FW [.lst (acts.map .str),.lst (l.map eSp)] true roots b ss σ k=k (eSp W) σ:=hR.rule;have r2:∀ {roots:List Nat}{b:Nat}{ss:List Nat}{σ:St}{k:AV→St→Prop},callT G FS [.lst (acts.map .str),.lst (l.map eSp)] true roots b ss σ k=k (eSp V) σ:=hU.rule;have t1:∀ {fr:Bool}{roots:List Nat}{b:Nat}{ss:List Nat}{σ:St}{k:AV→St→Prop},callT G BU [.agg [.lst (X.acts.map .str),.lst (X.S.map eSt)],I e,I 0,.agg [.lst (W.acts.map .str),.lst (W.S.map eSt)],Bo (decide ((500:Int)<((prS l l.length:Nat):Int)))] fr roots b ss σ k=k (Bo true) σ:=hT.rule;have t2:∀ {fr:Bool}{roots:List Nat}{b:Nat}{ss:List Nat}{σ:St}{k:AV→St→Prop},callT G BU [.agg [.lst (Y.acts.map .str),.lst (Y.S.map eSt)],I f,I 0,.agg [.lst (V.acts.map .str),.lst (V.S.map eSt)],Bo (decide ((500:Int)<((prS l l.length:Nat):Int)))] fr roots b ss σ k=k (Bo true) σ:=hV.rule;simp only [go_sem,↓reduceIte,↓Aa,Int.ofNat_lt,hlt,hS,h0,r1,r2,hC,eSp,AJ Dw,AJ EU,AJ EW];refine ⟨by omega,Fn.ruleN hA (fun h' hh=>?_)⟩;obtain ⟨o,rfl⟩:=Af1 hh;simp only [go_sem,↓reduceIte,↓Aa,hC,eSp,AJ Dw,AJ EU,AJ EW];refine ⟨by omega,Fn.ruleN hB (fun h' hh=>?_)⟩;obtain ⟨o',rfl⟩:=AfY hh;simp only [go_sem,↓reduceIte,↓Aa,eSp,t1,t2,KL]
   ·have h0':(JL acts l==0)=false:=by rw [beq_eq_false_iff_ne];exact h0
    obtain ⟨hA,hB⟩:=pErr_ok (by omega) hall h0;have t1:∀ {B:Bool}{fr:Bool}{roots:List Nat}{b:Nat}{ss:List Nat}{σ:St}{k:AV→St→Prop},callT G BU [.agg [.lst [],.lst []],I (JL acts l),I (JL acts l),.agg [.lst [],.lst []],Bo B] fr roots b ss σ k=k (Bo true) σ:=(Aes zSpc _ h0 _).rule;simp only [go_sem,↓reduceIte,↓Aa,Int.ofNat_lt,hlt,hS,h0',hC,eSp,AJ Dw,AJ EU,AJ EW];refine ⟨by omega,Fn.ruleN hA (fun h' hh=>?_)⟩;obtain ⟨o,rfl⟩:=Af1 hh;simp only [go_sem,↓reduceIte,↓Aa,hC,eSp,AJ Dw,AJ EU,AJ EW];refine ⟨by omega,Fn.ruleN hB (fun h' hh=>?_)⟩;obtain ⟨o',rfl⟩:=AfY hh;simp only [go_sem,↓reduceIte,↓Aa,eSp,zSpc,List.map_nil,t1,KL]
 ·refine ⟨Nat.zero_le _,by unfold prS;omega,by simp,?_⟩;simp only [go_sem,↓reduceIte,↓Aa];repeat apply Exists.intro
  rfl
end Go.Mw
