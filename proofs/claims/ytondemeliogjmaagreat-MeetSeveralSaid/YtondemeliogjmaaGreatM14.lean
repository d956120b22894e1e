/- Regions whose order is drawn: every order does the same. -/
import Derived.Test.YtondemeliogjmaaGreatM13
set_option linter.unusedVariables false
set_option linter.unusedSimpArgs false
namespace Go.Mw
theorem compRs_get {P:Program}{sm:List Nat}{ops:Array Oper}:∀(l:List Oper) (rs:List Rop),K4 P sm ops l=some rs→rs.length=l.length∧∀(k:Nat) (o:Oper),l[k]? = some o→∃r,rs[k]? = some r∧P4 P sm ops o=some r:=by
 intro l;induction l with
 | nil=>intro rs h;simp [K4] at h;subst h;exact ⟨rfl,fun k o h=>by simp at h⟩
 | cons o l ih =>
   intro rs h;simp only [K4] at h;cases h1:P4 P sm ops o with
   | none=>simp [h1] at h
   | some r =>
     cases h2:K4 P sm ops l with
     | none=>simp [h1,h2] at h
     | some rs' =>
       simp [h1,h2] at h;subst h;obtain ⟨g1,g2⟩:=ih rs' h2;refine ⟨by simp [g1],fun k o' hk=>?_⟩;cases k with
       | zero=>simp at hk;subst hk;exact ⟨r,rfl,h1⟩
       | succ k=>exact g2 k o' (by simpa using hk)
theorem SR {ops:Array Oper}{i k:Nat}(hik:i<k)(hk:k<ops.size)(hb:Rk ops i k=false):(i,k)∈MT ops:=by
 unfold MT AbY;refine List.mem_filter.2 ⟨List.mem_flatMap.2 ⟨k,List.mem_range.2 hk,List.mem_map.2 ⟨i,List.mem_range.2 hik,rfl⟩⟩,by simp [hb]⟩
theorem Yr {x y:Rop}(h:x.tfree y=true):(∀d,x.d=some d→d∉y.reads∧y.d≠some d)∧(∀d,y.d=some d→d∉x.reads):=by
 refine ⟨fun d hd=>?_,fun d hd=>?_⟩<;>simp [Rop.tfree,hd] at h
 ·exact ⟨h.1.1,h.1.2⟩
 ·exact h.2
theorem Zl {a b:Option (List Nat)}(h:apart a b=true)(x:Loc):¬(footL a x∧footL b x):=by
 rintro ⟨h1,h2⟩;unfold apart at h;split at h
 ·cases x<;>simp [footL] at h1
 ·cases x<;>simp [footL] at h2
 ·rename_i fa fb _ _;cases x
  case tmp=>exact h1.elim
  case lps=>simp [footL] at h1
  case view r p kk z =>
   simp only [footL] at h1 h2;simp only [List.all_eq_true,Bool.not_eq_true',List.contains_eq_mem,decide_eq_false_iff_not] at h;exact h r h1 h2
  case shp r q =>
   simp only [footL] at h1 h2;simp only [List.all_eq_true,Bool.not_eq_true',List.contains_eq_mem,decide_eq_false_iff_not] at h;exact h r h1 h2
  case root r =>
   simp only [footL] at h1 h2;simp only [List.all_eq_true,Bool.not_eq_true',List.contains_eq_mem,decide_eq_false_iff_not] at h;exact h r h1 h2
 ·cases h
theorem dry_foot {G:Prg}{b:Nat}{r:Rop}{σ:St}(h:r.i.dry=true)(x:Loc):¬footL (RS G b r σ) x:=by
 have:RS G b r σ=some []:=by
  unfold RS;split
  ·unfold foot;cases hi:r.i<;>simp only [hi,Ins.dry,Bool.false_eq_true] at h<;>simp [Ins.dry]
  ·rfl
 rw [this];cases x<;>simp [footL]
theorem AeM {G:Prg}{b:Nat}{kk:KK}{z:AV}{ok:Bool}{m k:Opd}{σ:St}:foot G b (.lok kk z ok m k) σ=some (rootsL [σ.get m,σ.get k]):=rfl
theorem Tw {G:Prg}{b:Nat}{kk:KK}{z:AV}{m k:Opd}{σ:St}:foot G b (.men kk z m k) σ=some (rootsL [σ.get m,σ.get k]):=rfl
theorem AbF {G:Prg}{b:Nat}{i:Ins}{σ:St}{x:Loc}(h:evD0 G b i σ x):footL (foot G b i σ) x:=by
 unfold evD0 at h;split at h
 ·rename_i kk z m k;split at h
  ·rename_i r st p ss r' p' kk' z' hg;obtain ⟨rfl,rfl,rfl,rfl⟩:=h;rw [AeM,hg];simp [footL,rootsL,rootsOf]
  ·exact h.elim
 ·exact h
theorem MV {G:Prg}{b:Nat}{i:Ins}{σ:St}{x:Loc}(h:Z7 G b i σ x):footL (foot G b i σ) x∧i.calm=false:=by
 unfold Z7 at h;split at h
 ·rename_i kk z m k;split at h
  ·rename_i r st p ss r' hg;subst h;exact ⟨by rw [Tw,hg];simp [footL,rootsL,rootsOf],rfl⟩
  ·rename_i r st p ss r' q' hg;subst h;exact ⟨by rw [Tw,hg];simp [footL,rootsL,rootsOf],rfl⟩
  ·rename_i r st p ss r' p' kk' z' hg;obtain ⟨rfl,_⟩:=h;exact ⟨by rw [Tw,hg];simp [footL,rootsL,rootsOf],rfl⟩
  ·exact h.elim
 ·exact h
theorem evW0_evD0 {G:Prg}{b:Nat}{i:Ins}{σ:St}{x:Loc}(h:Z7 G b i σ x):evD0 G b i σ x:=by
 have hf:=MV h;unfold evD0;split
 ·exact absurd hf.2 (by simp [Ins.calm])
 ·exact hf.1
theorem V7 {G:Prg}{b:Nat}{i k:Ins}{σ τ:St}(h:viewPair i k=true)(x:Loc):¬(Z7 G b i σ x∧evD0 G b k τ x)∧¬(evD0 G b i σ x∧Z7 G b k τ x):=by
 unfold viewPair at h;split at h
 ·rename_i kk z ok m1 k1 kk' z' m2 k2;simp only [Bool.and_eq_true,Bool.not_eq_true',beq_iff_eq] at h;obtain ⟨⟨rfl,rfl⟩,hz⟩:=h;have:=Afx hz;subst this;refine ⟨fun ⟨h1,_⟩=>?_,fun ⟨h1,h2⟩=>?_⟩
  ·exact absurd (MV h1).2 (by simp [Ins.calm])
  ·simp only [evD0,Z7] at h1 h2;split at h1
   ·rename_i r st p ss r' p' kk' z' hg;obtain ⟨rfl,rfl,rfl,rfl⟩:=h1;split at h2
    ·rename_i hh;cases hh
    ·rename_i hh;cases hh
    ·rename_i hh;cases hh;exact h2.2 ⟨rfl,rfl⟩
    ·exact h2
   ·exact h1
 ·rename_i kk z m1 k1 kk' z' ok m2 k2;simp only [Bool.and_eq_true,Bool.not_eq_true',beq_iff_eq] at h;obtain ⟨⟨rfl,rfl⟩,hz⟩:=h;have:=Afx hz;subst this;refine ⟨fun ⟨h2,h1⟩=>?_,fun ⟨_,h1⟩=>?_⟩
  ·simp only [evD0,Z7] at h1 h2;split at h1
   ·rename_i r st p ss r' p' kk' z' hg;obtain ⟨rfl,rfl,rfl,rfl⟩:=h1;split at h2
    ·rename_i hh;cases hh
    ·rename_i hh;cases hh
    ·rename_i hh;cases hh;exact h2.2 ⟨rfl,rfl⟩
    ·exact h2
   ·exact h1
  ·exact absurd (MV h1).2 (by simp [Ins.calm])
 ·cases h
theorem sftI_rd {b:Nat}{i:Ins}{σ:St}{r:Nat}{q:Path}(h:sftI b i σ = .rd r q):i.calm=true∧(i.dry=false)∧(∃x∈i.opds,r∈rootsOf (σ.get x))∧∀f:Ins,f=i→foot (fun _=>none) b f σ=some (i.sites.map (b + ·)++rootsL (σ.gets i.opds)):=by
 unfold sftI at h;split at h
 ·rename_i off x;split at h
  ·rename_i r2 st p ss i2 j hg;simp only [Sft.rd.injEq] at h;obtain ⟨rfl,rfl⟩:=h;exact ⟨rfl,rfl,⟨x,by simp [Ins.opds],by simp [hg,rootsOf]⟩,fun f hf=>by subst hf;rfl⟩
  ·cases h
 ·rename_i es x kx;split at h
  ·rename_i r2 st p ss off len hg;simp only [Sft.rd.injEq] at h;obtain ⟨rfl,rfl⟩:=h;exact ⟨rfl,rfl,⟨x,by simp [Ins.opds],by simp [hg,rootsOf]⟩,fun f hf=>by subst hf;rfl⟩
  ·cases h
 ·rename_i x;split at h
  ·rename_i r2 st p ss i2 j hg;split at h
   ·simp only [Sft.rd.injEq] at h;obtain ⟨rfl,rfl⟩:=h;exact ⟨rfl,rfl,⟨x,by simp [Ins.opds],by simp [hg,rootsOf]⟩,fun f hf=>by subst hf;rfl⟩
   ·cases h
  ·cases h
 ·split at h<;>cases h
 ·split at h<;>cases h
 ·cases h
 ·cases h
theorem sftI_ap {b:Nat}{i:Ins}{σ:St}{r:Nat}{p:Path}{os:List Nat}(h:sftI b i σ = .ap r p os):∃s es bytes x y st ss off len,i = .app s es bytes x y∧σ.get x = .sl r st p ss off len∧os=(b+s)::rootsOf (σ.get y):=by
 unfold sftI at h;split at h
 ·split at h<;>cases h
 ·split at h<;>cases h
 ·split at h
  ·split at h<;>cases h
  ·cases h
 ·split at h<;>cases h
 ·rename_i s es bytes x y hne;split at h
  ·rename_i r2 st p2 ss off len hg;simp only [Sft.ap.injEq] at h;obtain ⟨rfl,rfl,rfl⟩:=h;exact ⟨s,es,bytes,x,y,st,ss,off,len,rfl,hg,rfl⟩
  ·cases h
 ·cases h
 ·cases h
theorem rdOf_some {b:Nat}{i:Ins}{σ:St}{r:Nat}{q:Path}(h:rdOf b i σ=some (r,q)):sftI b i σ = .rd r q:=by
 unfold rdOf at h;split at h
 ·rename_i r' q' hs;simp only [Option.some.injEq,Prod.mk.injEq] at h;obtain ⟨rfl,rfl⟩:=h;exact hs
 ·cases h
theorem evD_foot {G:Prg}{b:Nat}{i:Ins}{σ:St}{x:Loc}(h:evD G b i σ x):footL (foot G b i σ) x:=by
 unfold evD at h;split at h
 ·rename_i r q hr;subst h;obtain ⟨h1,h2,⟨x,hx,h3⟩,h4⟩:=sftI_rd (rdOf_some hr);have:foot G b i σ=some (i.sites.map (b + ·)++rootsL (σ.gets i.opds)):=by
   have:=h4 i rfl;cases i<;>first|exact this|simp [Ins.calm,Ins.dry] at h1
  rw [this];simp only [footL];exact List.mem_append.2 (.inr (Ey (x:=σ.get x) (List.mem_map.2 ⟨x,hx,rfl⟩) h3))
 ·exact AbF h
theorem Hd {G:Prg}{b:Nat}{i:Ins}{σ:St}{x:Loc}(h:evW G b i σ x):footL (foot G b i σ) x∧i.calm=false:=MV h.1
theorem SH {G:Prg}{b:Nat}{i:Ins}{σ:St}{x:Loc}(h:evW G b i σ x):evD G b i σ x:=by
 unfold evD;split
 ·rename_i r q hr;have:=(sftI_rd (rdOf_some hr)).1;rw [(Hd h).2] at this;cases this
 ·exact evW0_evD0 h.1
theorem view_apart {G:Prg}{b:Nat}{i k:Ins}{σ τ:St}(h:viewPair i k=true)(x:Loc):¬(evW G b i σ x∧evD G b k τ x)∧¬(evD G b i σ x∧evW G b k τ x):=by
 have key:(rdOf b i σ=none)∧(rdOf b k τ=none):=by
  unfold viewPair at h;split at h
  ·exact ⟨rfl,rfl⟩
  ·exact ⟨rfl,rfl⟩
  ·cases h
 obtain ⟨g1,g2⟩:=V7 (G:=G) (b:=b) (σ:=σ) (τ:=τ) h x;refine ⟨fun ⟨h1,h2⟩=>g1 ⟨h1.1,?_⟩,fun ⟨h1,h2⟩=>g2 ⟨?_,h2.1⟩⟩
 ·unfold evD at h2;rw [key.2] at h2;exact h2
 ·unfold evD at h1;rw [key.1] at h1;exact h1
theorem Rs {b:Nat}{s es bytes:Nat}{x y:Opd}{τ:St}{r r':Nat}{q p:Path}{st ss off len:Nat}(hg:τ.get x = .sl r' st p ss off len)(h:Aeh r q r' p ((b+s)::rootsOf (τ.get y))=true):Ahi b (.app s es bytes x y) τ (.shp r q):=by
 simp only [Aeh,Bool.and_eq_true,Bool.not_eq_true',Bool.or_eq_true,bne_iff_ne,ne_eq,List.contains_eq_mem,decide_eq_false_iff_not,List.mem_cons,not_or] at h;refine .inl ⟨h.1.1,h.1.2,fun st' p' ss' off' len' h' hp=>?_⟩;rw [hg] at h';cases h';rcases h.2 with h2|h2
 ·exact h2 rfl
 ·rw [←List.isPrefixOf_iff_prefix] at hp;rw [hp] at h2;cases h2
theorem sftI_cm {b:Nat}{i:Ins}{σ:St}{os:List Nat}(h:sftI b i σ = .cm os):∃es x lo hi mx,i = .sli es x lo hi mx∧os=rootsL (σ.gets (Ins.opds (.sli es x lo hi mx))):=by
 unfold sftI at h;split at h
 all_goals first|(cases h;exact ⟨_,_,_,_,_,rfl,rfl⟩)|(cases h;done)|skip
 all_goals (split at h<;>first|(cases h;done)|skip)
 all_goals (split at h<;>cases h)
theorem sftI_nw {b:Nat}{i:Ins}{σ:St}{s0:Nat}(h:sftI b i σ = .nw s0):∃s es bytes y,i = .app s es bytes (.c .nils) y∧Js σ.h es (σ.get y)=true∧s0=b+s:=by
 unfold sftI at h;split at h
 all_goals first|(cases h;done)|skip
 all_goals (split at h<;>first|(cases h;done)|skip)
 all_goals first|(split at h<;>cases h;done)|skip
 rename_i hp;cases h;exact ⟨_,_,_,_,rfl,hp,rfl⟩
theorem Afw {G:Prg}{b s es:Nat}{x':Opd}{lo hi mx:Option Opd}{σ:St}{x:Loc}(h:(!(rootsL (σ.gets (Ins.opds (.sli es x' lo hi mx)))).contains s)=true)(hf:footL (foot G b (.sli es x' lo hi mx) σ) x):Ajd s x:=by
 have e:foot G b (.sli es x' lo hi mx) σ=some (([]:List Nat)++rootsL (σ.gets (Ins.opds (.sli es x' lo hi mx)))):=rfl;rw [e,List.nil_append] at hf;simp only [Bool.not_eq_true',List.contains_eq_mem,decide_eq_false_iff_not] at h;cases x with
 | root r=>exact fun e=>h (e▸hf)
 | view r p kk z=>exact fun e=>h (e▸hf)
 | shp r q=>exact fun e=>h (e▸hf)
 | tmp n=>exact hf.elim
 | lps=>cases hf
theorem soft_apart {G:Prg}{b:Nat}{i k:Ins}{σ τ:St}(h:Aa5 (sftI b i σ) (sftI b k τ)=true)(x:Loc):¬(evW G b i σ x∧evD G b k τ x)∧¬(evD G b i σ x∧evW G b k τ x):=by
 unfold Aa5 at h;split at h
 ·rename_i r q r' p os hi hk;obtain ⟨s,es,bytes,y,z,st,ss,off,len,rfl,hg,rfl⟩:=sftI_ap hk;refine ⟨fun ⟨h1,_⟩=>?_,fun ⟨h1,h2⟩=>?_⟩
  ·have:=(sftI_rd hi).1;rw [(Hd h1).2] at this;cases this
  ·unfold evD rdOf at h1;rw [hi] at h1;simp only at h1;subst h1;exact h2.2 (Rs hg h)
 ·rename_i r' p os r q hi hk;obtain ⟨s,es,bytes,y,z,st,ss,off,len,rfl,hg,rfl⟩:=sftI_ap hi;refine ⟨fun ⟨h2,h1⟩=>?_,fun ⟨_,h1⟩=>?_⟩
  ·unfold evD rdOf at h1;rw [hk] at h1;simp only at h1;subst h1;exact h2.2 (Rs hg h)
  ·have:=(sftI_rd hk).1;rw [(Hd h1).2] at this;cases this
 ·rename_i os s hi hk;obtain ⟨es,x',lo,hi2,mx,rfl,rfl⟩:=sftI_cm hi;obtain ⟨s',es',bytes,y,rfl,hp,rfl⟩:=sftI_nw hk;refine ⟨fun ⟨h1,_⟩=>by have:=(Hd h1).2;simp [Ins.calm] at this,fun ⟨h1,h2⟩=>h2.2 (.inr ⟨hp,Afw h (evD_foot h1)⟩)⟩
 ·rename_i s os hi hk;obtain ⟨es,x',lo,hi2,mx,rfl,rfl⟩:=sftI_cm hk;obtain ⟨s',es',bytes,y,rfl,hp,rfl⟩:=sftI_nw hi;refine ⟨fun ⟨h2,h1⟩=>h2.2 (.inr ⟨hp,Afw h (evD_foot h1)⟩),fun ⟨_,h1⟩=>by have:=(Hd h1).2;simp [Ins.calm] at this⟩
 ·cases h
theorem runL_ops {f:Ins→Nat→St→Option (AV×St)}{b:Nat}{P:Program}{sm:List Nat}{ops:Array Oper}{rs:List Rop}(hg:∀(k:Nat) (o:Oper),ops[k]? = some o→∃r,rs[k]? = some r∧P4 P sm ops o=some r){E:Nat→Prop}{pre:Nat→Nat→Prop}{l:List Nat}(ho:Ord ops.size pre E l):∀ {σ σ':St},
 Ahu (fun k τ=>match rs[k]? with|some r=>ropE f b r τ|none=>none) l σ=some σ'→∃rl,All2 (fun j r=>∃o,ops[j]? = some o∧P4 P sm ops o=some r) l rl∧J5 f rl b σ=some σ':=by
 induction ho with
 | nil h=>intro σ σ' hr;simp only [Ahu] at hr;exact ⟨[],.nil,by simpa [J5] using hr⟩
 | cons hk hn hp t ih =>
   rename_i E k l;intro σ σ' hr;obtain ⟨r,h1,h2⟩:=hg k _ (Array.getElem?_eq_getElem hk);simp only [Ahu,h1] at hr;cases hrop:ropE f b r σ with
   | none=>simp [hrop] at hr
   | some σ1 =>
     simp only [hrop] at hr;obtain ⟨rl,h3,h4⟩:=ih hr;exact ⟨r::rl,.cons ⟨_,Array.getElem?_eq_getElem hk,h2⟩ h3,by rw [Ac2,hrop];exact h4⟩
theorem YH (P:Program)(G:Prg)(n:Nat):Aev P G (evO G n):=by
 intro sm ops rs b σ σ' fs hc hok hd hap mixed t;obtain ⟨st,s0,sN,hfl,hst,hsf⟩:=drwE_run G _ b rs σ σ' fs hd;obtain ⟨hlen,hget⟩:=compRs_get _ _ hc;have hN:rs.length=ops.size:=by simpa using hlen
 have hg:∀(k:Nat) (o:Oper),ops[k]? = some o→∃r,rs[k]? = some r∧P4 P sm ops o=some r:=fun k o hk=>hget k o (by simpa using hk);let step:Nat→St→Option St:=fun k τ=>match rs[k]? with|some r=>ropE (evO G n) b r τ|none=>none
 let D:Nat→Loc→Prop:=fun k x=>∃r,rs[k]? = some r∧DL G b r (st k) x;let W:Nat→Loc→Prop:=fun k x=>∃r,rs[k]? = some r∧WL G b r (st k) x;have hr:∀k,k<ops.size→∃r,rs[k]? = some r:=fun k hk=>⟨_,List.getElem?_eq_getElem (by omega)⟩;have ht:Trace valS ops.size step st D W:=by
  refine ⟨fun k hk τ hτ=>?_,fun k hk x hx=>?_,fun k x hx=>?_⟩
  ·obtain ⟨r,h1⟩:=hr k hk;obtain ⟨τ1,e1,e2,e3⟩:=AbR (hst k r h1).1 (fun x hx=>hτ x ⟨r,h1,hx⟩);exact ⟨τ1,by simp only [step,h1];exact e1,fun x ⟨r',h2,hx⟩=>by rw [h1] at h2;cases h2;exact e2 x hx,fun x hx=>e3 x (fun h=>hx ⟨r,h1,h⟩)⟩
  ·obtain ⟨r,h1⟩:=hr k hk;obtain ⟨τ1,e1,e2,e3⟩:=AbR (τ:=st k) (hst k r h1).1 (fun x hx=>rfl);rw [(hst k r h1).1] at e1;cases e1;exact e3 x (fun h=>hx ⟨r,h1,h⟩)
  ·obtain ⟨r,h1,h2⟩:=hx;refine ⟨r,h1,?_⟩;cases x with
   | tmp m=>exact .inr h2
   | root q=>exact ⟨h2.1,SH h2.2⟩
   | lps=>exact ⟨h2.1,SH h2.2⟩
   | view q p kk z=>exact ⟨h2.1,SH h2.2⟩
   | shp q kk=>exact ⟨h2.1,SH h2.2⟩
 have hdep:∀i k,i<k→k<ops.size→¬Pre ops i k→∀x,¬(W i x∧D k x)∧¬(D i x∧W k x):=by
  intro i k hik hk hnp;have hb:Rk ops i k=false:=by
   cases hb:Rk ops i k with
   | false=>rfl
   | true=>exact absurd (Y6 hb) hnp
  have hm:=SR hik hk hb;obtain ⟨ri,hi⟩:=hr i (by omega);obtain ⟨rk,hk'⟩:=hr k hk;have htf:ri.tfree rk=true:=by
   simp only [PJ,Bool.and_eq_true] at hok;have:=List.all_eq_true.1 hok.2 _ hm;simpa [hi,hk'] using this
  obtain ⟨t1,t2⟩:=Yr htf;have hfr:∀ {q:Nat}{rq:Rop},rs[q]? = some rq→wantedO rq.g (st q)=some true→RS G b rq (st q)=foot G b rq.i (st q):=by
   intro q rq _ h;simp only [RS,h]
  have hroot:viewPair ri.i rk.i=false→Aa5 (sftI b ri.i (st i)) (sftI b rk.i (st k))=false→wantedO ri.g (st i)=some true→wantedO rk.g (st k)=some true→∀x,footL (foot G b ri.i (st i)) x→footL (foot G b rk.i (st k)) x→ri.i.calm=true∧rk.i.calm=true:=by
   intro hvp hsp w1 w2 x h1 h2;rw [←hfr hi w1] at h1;rw [←hfr hk' w2] at h2;cases he:AiT ri rk with
   | false =>
     have h3:(i,k)∈KE ops rs:=by
      unfold KE;exact List.mem_filter.2 ⟨hm,by simp [hi,hk',he,hvp]⟩
     have h4:=List.all_eq_true.1 hap _ h3;have h5:=hsf i ri hi w1;have h6:=hsf k rk hk' w2;simp only [List.getD_eq_getElem?_getD,(hst i ri hi).2,(hst k rk hk').2,h5,h6,hsp,Bool.or_false,Option.getD_some] at h4;exact absurd ⟨h1,h2⟩ (Zl h4 x)
   | true =>
     simp only [AiT,Bool.or_eq_true,Bool.and_eq_true] at he;rcases he with (he|he)|he
     ·exact absurd h1 (dry_foot he x)
     ·exact absurd h2 (dry_foot he x)
     ·exact he
  have hnt:∀x,¬((wantedO ri.g (st i)=some true∧evW G b ri.i (st i) x)∧(wantedO rk.g (st k)=some true∧evD G b rk.i (st k) x))∧¬((wantedO ri.g (st i)=some true∧evD G b ri.i (st i) x)∧(wantedO rk.g (st k)=some true∧evW G b rk.i (st k) x)):=by
   intro x;cases hvp:viewPair ri.i rk.i with
   | true =>
     obtain ⟨g1,g2⟩:=view_apart (G:=G) (b:=b) (σ:=st i) (τ:=st k) hvp x;exact ⟨fun ⟨h1,h2⟩=>g1 ⟨h1.2,h2.2⟩,fun ⟨h1,h2⟩=>g2 ⟨h1.2,h2.2⟩⟩
   | false =>
     cases hsp:Aa5 (sftI b ri.i (st i)) (sftI b rk.i (st k)) with
     | true =>
       obtain ⟨g1,g2⟩:=soft_apart (G:=G) hsp x;exact ⟨fun ⟨h1,h2⟩=>g1 ⟨h1.2,h2.2⟩,fun ⟨h1,h2⟩=>g2 ⟨h1.2,h2.2⟩⟩
     | false =>
     refine ⟨fun ⟨h1,h2⟩=>?_,fun ⟨h1,h2⟩=>?_⟩
     ·have:=(hroot hvp hsp h1.1 h2.1 x (Hd h1.2).1 (evD_foot h2.2)).1;rw [(Hd h1.2).2] at this;cases this
     ·have:=(hroot hvp hsp h1.1 h2.1 x (evD_foot h1.2) (Hd h2.2).1).2;rw [(Hd h2.2).2] at this;cases this
  intro x;refine ⟨?_,?_⟩
  ·rintro ⟨⟨r1,e1,h1⟩,⟨r2,e2,h2⟩⟩;rw [hi] at e1;cases e1;rw [hk'] at e2;cases e2;cases x with
   | tmp m =>
     rcases h2 with h2|h2
     ·exact (t1 m h1).1 h2
     ·exact (t1 m h1).2 h2
   | root q=>exact (hnt _).1 ⟨h1,h2⟩
   | lps=>exact (hnt _).1 ⟨h1,h2⟩
   | view q p kk z=>exact (hnt _).1 ⟨h1,h2⟩
   | shp q kk=>exact (hnt _).1 ⟨h1,h2⟩
  ·rintro ⟨⟨r1,e1,h1⟩,⟨r2,e2,h2⟩⟩;rw [hi] at e1;cases e1;rw [hk'] at e2;cases e2;cases x with
   | tmp m =>
     rcases h1 with h1|h1
     ·exact t2 m h2 h1
     ·exact (t1 m h1).2 h2
   | root q=>exact (hnt _).2 ⟨h1,h2⟩
   | lps=>exact (hnt _).2 ⟨h1,h2⟩
   | view q p kk z=>exact (hnt _).2 ⟨h1,h2⟩
   | shp q kk=>exact (hnt _).2 ⟨h1,h2⟩
 have hord:=draw_ord hok mixed t;have hinv:Inv valS ops.size st W (fun _=>False) σ:=fun x=>⟨0,Nat.zero_le _,by rw [s0],fun k _ _=>⟨False.elim,fun h=>absurd h (Nat.not_lt_zero _)⟩⟩;obtain ⟨τ,h1,h2⟩:=ht.all (Aib hok) hdep hord (fun j i _ h _=>h.elim) hinv;have:τ=σ':=by
  refine Yd (fun x=>?_);rw [h2 x,←hN,sN]
 subst this;exact runL_ops hg hord h1
open Go.RowKit
theorem Ai2 {P:Program}{G:Prg}(hG:Ahb P G){n:Nat}{f:FuncId}{F:IF}{xs:List AV}{rs:List AV}{σ1:St}(hf:G f=some F)(hn:xs.length=F.np)(hrun:runF G n F xs [] []=some (rs,σ1))
 {w:World}{fz:Nat→Prop}(hfz:∀b,fz b→b<w.heap.size) {args:Array Value}(hargs:VRels w fz (fun _ _=>False) xs args.toList) :
 Calls P f args w fun e w'=>∃cs:List Value,e = .returned (KO cs)∧Below w.heap.size w w'∧∃fz',VRels w' fz' (fun _ _=>False) (treeBL 0 σ1.h rs) cs :=
 Wq hG (fun n=>YH P G n) hf hn hrun hfz hargs
end Go.Mw
