/- Regions whose order is drawn: the end. -/
import Derived.Test.YtondemeliogjmaaGreatM13
set_option linter.unusedVariables false
set_option linter.unusedSimpArgs false
namespace Go.Mw
theorem eqCell_64 {q:Nat}{a b:AV}{u v:Bool}(ha:CP q a a=some u)(hb:CP q b b=some v)(h1:a.c64=true)(h2:b.c64=true):(CP q a b).isSome=true:=by
 match q,a,b,ha,hb,h1,h2 with
 | 0,.bool _,.bool _,_,_,_,_=>rfl
 | 1,.int κ _,.int κ' _,_,_,h1,h2 =>
   simp only [AV.c64,beq_iff_eq] at h1 h2;subst h1;subst h2;simp [CP]
 | 2,.str _,.str _,_,_,_,_=>rfl
theorem RM:∀ {qs:List Nat}{xs ys:List AV}{u v:Bool},eqCells qs xs xs=some u→eqCells qs ys ys=some v→xs.all AV.c64=true→ys.all AV.c64=true→(eqCells qs xs ys).isSome=true
 | [],[],[],_,_,_,_,_,_=>rfl
 | [],[],_::_,_,_,_,h,_,_=>by simp [eqCells] at h
 | [],_::_,_,_,_,h,_,_,_=>by simp [eqCells] at h
 | _::_,[],_,_,_,h,_,_,_=>by simp [eqCells] at h
 | _::_,_::_,[],_,_,_,h,_,_=>by simp [eqCells] at h
 | q::qs,x::xs,y::ys,u,v,h1,h2,h3,h4=>by
   simp only [List.all_cons,Bool.and_eq_true] at h3 h4;have key:∀ {a:AV}{l:List AV}{w:Bool},eqCells (q::qs) (a::l) (a::l)=some w→(∃u',CP q a a=some u')∧∃v',eqCells qs l l=some v':=by
    intro a l w h;simp only [eqCells] at h;cases hc:CP q a a with
    | none=>simp [hc] at h
    | some b =>
      refine ⟨⟨b,rfl⟩,?_⟩;cases b with
      | true=>simp only [hc] at h;exact ⟨_,h⟩
      | false =>
        simp only [hc] at h;cases hl:eqCells qs l l with
        | none=>simp [hl] at h
        | some w'=>exact ⟨w',rfl⟩
   obtain ⟨⟨u1,k1⟩,u2,k2⟩:=key h1;obtain ⟨⟨v1,k3⟩,v2,k4⟩:=key h2;have g1:=eqCell_64 k1 k3 h3.1 h4.1;have g2:=RM k2 k4 h3.2 h4.2;simp only [eqCells];cases hc:CP q x y with
   | none=>simp [hc] at g1
   | some b =>
     cases b with
     | true=>exact g2
     | false =>
       simp only;cases hl:eqCells qs xs ys with
       | none=>simp [hl] at g2
       | some w'=>rfl
theorem Afl {kk:KK}{k k0:AV}(h1:(C1 kk k k).isSome=true∧k.k64=true)(h2:(C1 kk k0 k0).isSome=true∧k0.k64=true):(C1 kk k k0).isSome=true:=by
 obtain ⟨h1,h3⟩:=h1;obtain ⟨h2,h4⟩:=h2;obtain ⟨b,qs⟩:=kk;cases b with
 | true =>
   cases k<;>simp [C1] at h1;cases k0<;>simp [C1] at h2;rename_i xs ys;obtain ⟨u,hu⟩:=Option.isSome_iff_exists.1 h1;obtain ⟨v,hv⟩:=Option.isSome_iff_exists.1 h2;exact RM hu hv h3 h4
 | false =>
   match qs,h1,h2 with
   | [q],h1,h2 =>
     obtain ⟨u,hu⟩:=Option.isSome_iff_exists.1 h1;obtain ⟨v,hv⟩:=Option.isSome_iff_exists.1 h2;simp only [C1] at hu hv ⊢;refine eqCell_64 hu hv ?_ ?_
     ·cases k<;>first|exact h3|rfl
     ·cases k0<;>first|exact h4|rfl
theorem PQ {kk:KK}{k k0:AV}{z:AV}(h:(C1 kk k k0).isSome=true):∀ {es:List (AV×AV)}{i:Nat}{r:Option Nat},findKey kk k es i=some r →
 findKey kk k (es++[(k0,z)]) i=some (match r with|some j=>some j|none=>if C1 kk k k0=some true then some (i+es.length) else none)
 | [],i,r,hf=>by
   simp [findKey] at hf;subst hf;simp only [List.nil_append,findKey,List.length_nil,Nat.add_zero];cases he:C1 kk k k0 with
   | none=>simp [he] at h
   | some b=>cases b<;>simp
 | (k',v')::es,i,r,hf=>by
   simp only [findKey,List.cons_append] at hf ⊢;cases he:C1 kk k k' with
   | none=>simp [he] at hf
   | some b =>
     cases b with
     | true=>simp [he] at hf;subst hf;simp
     | false =>
       simp only [he] at hf ⊢;rw [PQ h hf];cases r with
       | some j=>rfl
       | none=>simp only [List.length_cons,show i+1+es.length=i+(es.length+1) by omega]
theorem Of {kk:KK}{k k0:AV}{z:AV}(h:(C1 kk k k0).isSome=true):∀ {es:List (AV×AV)}{i:Nat},findKey kk k es i=none→findKey kk k (es++[(k0,z)]) i=none
 | [],i,hf=>by simp [findKey] at hf
 | (k',v')::es,i,hf=>by
   simp only [findKey,List.cons_append] at hf ⊢;cases he:C1 kk k k' with
   | none=>rfl
   | some b =>
     cases b with
     | true=>simp [he] at hf
     | false=>simp only [he] at hf ⊢;exact Of h hf
theorem RS {kk:KK}{k:AV}:∀ {es:List (AV×AV)}{i j:Nat},findKey kk k es i=some (some j)→i≤j∧j<i+es.length
 | [],i,j,hf=>by simp [findKey] at hf
 | (k',v')::es,i,j,hf=>by
   simp only [findKey] at hf;cases he:C1 kk k k' with
   | none=>simp [he] at hf
   | some b =>
     cases b with
     | true=>simp [he] at hf;subst hf;simp
     | false =>
       simp only [he] at hf;have:=RS hf;simp only [List.length_cons];omega
theorem AcI {kk:KK}{z k0:AV}{es:List (AV×AV)}(h0:(C1 kk k0 k0).isSome=true∧k0.k64=true):Tx kk z (es++[(k0,z)])=Tx kk z es:=by
 funext k;unfold Tx findK;by_cases hk:(C1 kk k k).isSome=true∧k.k64=true
 ·rw [if_pos hk,if_pos hk];have hs:=Afl hk h0;cases hf:findKey kk k es 0 with
  | none=>rw [Of hs hf]
  | some r =>
    rw [PQ hs hf];cases r with
    | some j =>
      have:=RS hf;simp only;rw [List.getElem?_append_left (by omega)]
    | none =>
      simp only;by_cases he:C1 kk k k0=some true
      ·rw [if_pos he];simp
      ·rw [if_neg he]
 ·rw [if_neg hk,if_neg hk]
def evD0 (G:Prg)(b:Nat)(i:Ins)(σ:St)(x:Loc):Prop :=
 match i with
 | .lok kk z false m _=>match σ.get m,x with
   | .mp r _ p _,.view r' p' kk' z'=>r'=r∧p'=p∧kk'=kk∧z'=z
   | _,_=>False
 | i=>footL (foot G b i σ) x
def Z8 (G:Prg)(b:Nat)(i:Ins)(σ:St)(x:Loc):Prop :=
 match i with
 | .men kk z m _=>match σ.get m,x with
   | .mp r _ _ _,.root r'=>r'=r
   | .mp r _ _ _,.shp r' _=>r'=r
   | .mp r _ _ _,.view r' _ kk' z'=>r'=r∧¬(kk'=kk∧z'=z)
   | _,_=>False
 | i=>footL (foot G b i σ) x∧i.calm=false
def rdOf (b:Nat)(i:Ins)(σ:St):Option (Nat×Path) :=
 match RR b i σ with
 | .rd r q=>some (r,q)
 | _=>none
def AjG (b:Nat)(i:Ins)(σ:St)(x:Loc):Prop :=
 match i,x with
 | .app s _ _ y z,.shp r q=>r≠b+s∧r∉rootsOf (σ.get z)∧∀st p ss off len,σ.get y = .sl r st p ss off len→¬p <+: q
 | _,_=>False
def Akr (s:Nat):Loc→Prop
 | .root r=>r≠s
 | .view r _ _ _=>r≠s
 | .shp r _=>r≠s
 | _=>False
def Ai3 (b:Nat)(i:Ins)(σ:St)(x:Loc):Prop :=
 match i with
 | .app s es _ (.c .nils) z=>LY σ.h es (σ.get z)=true∧Akr (b+s) x
 | _=>False
def AhE (b:Nat)(i:Ins)(σ:St)(x:Loc):Prop:=AjG b i σ x∨Ai3 b i σ x
theorem Abk {h h1:List Ob}{es:Nat}{y:AV}{ys:List AV}(hp:LY h es y=true)(ha:appY h es y=some (ys,h1)):h1=h:=by
 unfold LY at hp;unfold appY at ha;split at ha
 ·cases ha;rfl
 ·cases ha;rfl
 ·cases ha;rfl
 ·split at ha
  ·cases ha;rfl
  ·cases ha
 ·simp only at hp;split at ha
  ·rename_i es' zs hn;rw [hn] at hp;simp only [Bool.and_eq_true,beq_iff_eq,decide_eq_true_eq] at hp;rw [if_pos ⟨hp.1.1,hp.1.2,hp.2⟩] at ha;cases ha;rfl
  ·cases ha
 ·cases ha
theorem app_new {b s es bytes:Nat}{y:Opd}{σ:St}{v:AV}{h':List Ob}(hp:LY σ.h es (σ.get y)=true)(ha:ax b (.app s es bytes (.c .nils) y) σ=some (v,h')):∀r,r≠b+s→h'[r]? = σ.h[r]? := by
 intro r hr;simp only [ax] at ha;cases hy:appY σ.h es (σ.get y) with
 | none=>simp [hy] at ha
 | some q =>
   obtain ⟨ys,h1⟩:=q;have:=Abk hp hy;subst this;have hg:σ.get (.c .nils) = .nils:=rfl;simp only [hy,hg,appX,List.isEmpty_nil,true_and,List.nil_append,List.length_nil] at ha;split at ha
   ·cases ha;rfl
   ·split at ha
    ·cases hn:newOb σ.h (b+s) (.own es ys) with
     | none=>simp [hn] at ha
     | some q =>
       obtain ⟨h2,st⟩:=q;simp only [hn,Option.some.injEq,Prod.mk.injEq] at ha;obtain ⟨_,rfl⟩:=ha;obtain ⟨o,_,_,_,rfl⟩:=A9 hn;rw [List.getElem?_set_ne (fun e=>hr e.symm)]
    ·cases ha
def evD (G:Prg)(b:Nat)(i:Ins)(σ:St)(x:Loc):Prop :=
 match rdOf b i σ with
 | some (r,q)=>x = .shp r q
 | none=>evD0 G b i σ x
def evW (G:Prg)(b:Nat)(i:Ins)(σ:St)(x:Loc):Prop:=Z8 G b i σ x∧¬AhE b i σ x
def DL (G:Prg)(b:Nat)(r:Rop)(σ:St):Loc→Prop
 | .tmp n=>n∈r.reads∨r.d=some n
 | x=>wantedO r.g σ=some true∧evD G b r.i σ x
def WL (G:Prg)(b:Nat)(r:Rop)(σ:St):Loc→Prop
 | .tmp n=>r.d=some n
 | x=>wantedO r.g σ=some true∧evW G b r.i σ x
theorem Uz {h:List Ob}{r st ss:Nat}{nd:AV}:node h r st [] ss=some nd↔∃o,h[r]? = some o∧o.st=st∧o.c=nd:=by
 rw [Bf];constructor
 ·rintro ⟨o,h1,h2,_,h3⟩;refine ⟨o,h1,h2,?_⟩;simpa [nav] using h3
 ·rintro ⟨o,h1,h2,rfl⟩;exact ⟨o,h1,h2,.inl rfl,by simp [nav]⟩
def Zq (kk:KK)(z:AV)(h:List Ob)(m:AV):Option (AV→Option AV) :=
 match m with
 | .nilm=>some (Tx kk z [])
 | .mp r st p ss=>match (h[r]?).map (Zz kk z p) with
   | some (st',ss',some f)=>if st'=st∧(p = []∨ss'=ss) then some f else none
   | _=>none
 | _=>none
theorem Ac5 {b:Nat}{kk:KK}{z:AV}{m k:Opd}{σ:St}:ax b (.lok kk z false m k) σ=((Zq kk z σ.h (σ.get m)).bind fun f=>f (σ.get k)).map (·,σ.h):=by
 have fin:∀es:List (AV×AV),(match findK kk (σ.get k) es with
  | some (some i)=>match es[i]? with
    | some (_,v)=>some (if false=true then AV.tup [v,.bool true] else v,σ.h)
    | none=>none
  | some none=>some (if false=true then .tup [z,.bool false] else z,σ.h)
  | none=>none)=(Tx kk z es (σ.get k)).map (·,σ.h):=by
  intro es;unfold Tx;cases findK kk (σ.get k) es with
  | none=>rfl
  | some r =>
    cases r with
    | none=>rfl
    | some i=>simp only;cases es[i]? <;> rfl
 simp only [ax,Zq];cases σ.get m<;>try rfl
 case nilm=>exact fin []
 case mp r st p ss =>
  simp only [node];cases ho:σ.h[r]? with
  | none=>rfl
  | some o =>
    simp only [Option.map_some,Zz];by_cases hst:o.st=st∧(p = []∨o.ss=ss)
    ·simp only [if_pos hst];cases hn:nav o.c p with
     | none=>rfl
     | some nd =>
       cases nd<;>try rfl
       case ownm es=>simp only [Option.bind_some,ST,Option.map_some,if_pos hst];exact fin es
    ·simp only [if_neg hst];cases hn:nav o.c p with
     | none=>rfl
     | some nd =>
       cases nd<;>try rfl
       case ownm es=>simp only [Option.bind_some,ST,Option.map_some,if_neg hst];rfl
theorem Aci {b:Nat}{kk:KK}{z:AV}{m k:Opd}{σ:St}{v:AV}{h':List Ob}(hx:ax b (.men kk z m k) σ=some (v,h')) :
 ∃r st p ss,σ.get m = .mp r st p ss∧(∀q,q≠r→h'[q]? = σ.h[q]?)∧∀p',(h'[r]?).map (Zz kk z p')=(σ.h[r]?).map (Zz kk z p'):=by
 simp only [ax] at hx;cases hg:σ.get m<;>simp only [hg,reduceCtorEq] at hx;rename_i r st p ss;refine ⟨r,st,p,ss,rfl,?_⟩;cases hn:node σ.h r st p ss with
 | none=>simp [hn] at hx
 | some nd =>
   cases nd<;>simp only [hn,reduceCtorEq] at hx;rename_i es;obtain ⟨o,ho,hst,_,hc⟩:=Bf.1 hn;split at hx
   ·rename_i hfr;cases hfk:findK kk (σ.get k) es with
    | none=>simp [hfk] at hx
    | some q =>
      cases q with
      | some j =>
        simp only [hfk] at hx;cases hej:es[j]? with
        | none=>simp [hej] at hx
        | some kv=>simp only [hej,Option.some.injEq,Prod.mk.injEq] at hx;obtain ⟨_,rfl⟩:=hx;exact ⟨fun _ _=>rfl,fun _=>rfl⟩
      | none =>
        simp only [hfk] at hx;cases hso:setOb σ.h r p (.ownm (es++[(σ.get k,z)])) false with
        | none=>simp [hso] at hx
        | some hf =>
          simp only [hso,Option.map_some,Option.some.injEq,Prod.mk.injEq] at hx;obtain ⟨_,rfl⟩:=hx;obtain ⟨o',c,h1,h2,rfl⟩:=Cc hso;rw [ho] at h1;cases h1;refine ⟨fun q hq=>List.getElem?_set_ne (fun e=>hq e.symm),fun p'=>?_⟩;rw [List.getElem?_set_self (List.lt_of_some ho),ho];have hk0:(C1 kk (σ.get k) (σ.get k)).isSome=true∧(σ.get k).k64=true:=by
           unfold findK at hfk;by_cases hq:(C1 kk (σ.get k) (σ.get k)).isSome=true∧(σ.get k).k64=true
           ·exact hq
           ·rw [if_neg hq] at hfk;cases hfk
          have hvo:∀cs,AV.ownm (es++[(σ.get k,z)])≠.agg cs:=by intro cs h;cases h
          have key:((nav c p').bind ST).map (Tx kk z)=((nav o.c p').bind ST).map (Tx kk z):=by
           by_cases hp:p <+: p'
           ·obtain ⟨q,rfl⟩:=hp;rw [Cs p _ _ _ hvo h2 q];cases q with
            | nil=>rw [nav_nil,List.append_nil,hc];simp only [Option.bind_some,ST,Option.map_some,AcI hk0]
            | cons a q =>
              obtain ⟨i,j⟩:=a;have:nav o.c (p++(i,j)::q)=none:=by
               cases hq:nav o.c (p++(i,j)::q) with
               | none=>rfl
               | some x =>
                 obtain ⟨nd,g1,g2⟩:=Vm p _ _ _ hq;rw [hc] at g1;cases g1;simp [nav] at g2
              rw [this];simp [nav]
           ·rw [AhT p _ _ _ hvo h2 p' hp]
          simp only [Option.map_some,Zz,key,Bool.false_eq_true,if_false]
   ·cases hx
theorem evO_loc20 {G:Prg}{n:Nat}{i:Ins}{b:Nat}{σ σ1 τ:St}{v:AV}(hx:evO G n i b σ=some (v,σ1))(ho:∀x∈i.opds,τ.get x=σ.get x)(hf:∀x,evD0 G b i σ x→valS τ x=valS σ x) :
 ∃τ1,evO G n i b τ=some (v,τ1)∧τ1.t=τ.t∧σ1.t=σ.t∧(∀x,evD0 G b i σ x→valS τ1 x=valS σ1 x)∧(∀x,¬Z8 G b i σ x→valS τ1 x=valS τ x):=by
 have gen:(∀x,evD0 G b i σ x=footL (foot G b i σ) x)→(∀x,Z8 G b i σ x=(footL (foot G b i σ) x∧i.calm=false))→∃τ1,evO G n i b τ=some (v,τ1)∧τ1.t=τ.t∧σ1.t=σ.t∧(∀x,evD0 G b i σ x→valS τ1 x=valS σ1 x)∧(∀x,¬Z8 G b i σ x→valS τ1 x=valS τ x):=by
  intro h1 h2;obtain ⟨τ1,e1,e2,e3,e4,e5⟩:=Adu hx ho (fun x hq=>hf x (by rw [h1];exact hq));exact ⟨τ1,e1,e2,e3,fun x hq=>e4 x (by rw [←h1];exact hq),fun x hq=>e5 x (by rw [←h2];exact hq)⟩
 cases i
 case lok kk z ok m k =>
  cases ok with
  | true=>exact gen (fun _=>rfl) (fun _=>rfl)
  | false =>
    cases n with
    | zero=>simp [evO] at hx
    | succ n =>
      have hm:=ho m (by simp [Ins.opds]);have hk:=ho k (by simp [Ins.opds]);have e:∀τ:St,evO G (n+1) (.lok kk z false m k) b τ=match ax b (.lok kk z false m k) τ with
       | some (v,h)=>some (v,{ τ with h })
       | none=>none:=fun _=>rfl
      rw [e,Ac5] at hx;have hl:Zq kk z τ.h (τ.get m)=Zq kk z σ.h (σ.get m):=by
       rw [hm];have hf':=hf;unfold evD0 at hf';simp only at hf';generalize σ.get m=g at hf';cases g<;>try rfl
       rename_i r st p ss;have:=hf' (.view r p kk z) ⟨rfl,rfl,rfl,rfl⟩;simp only [valS,Vl.v.injEq] at this;simp only [Zq,this]
      cases hv:(Zq kk z σ.h (σ.get m)).bind fun f=>f (σ.get k) with
      | none=>simp [hv] at hx
      | some u =>
        simp only [hv,Option.map_some,Option.some.injEq,Prod.mk.injEq] at hx;obtain ⟨rfl,rfl⟩:=hx;refine ⟨τ,?_,rfl,rfl,hf,fun _ _=>rfl⟩;rw [e,Ac5,hl,hk,hv];rfl
 case men kk z m k =>
  obtain ⟨τ1,e1,e2,e3,e4,e5⟩:=Adu hx ho (fun x hq=>hf x hq);refine ⟨τ1,e1,e2,e3,fun x hq=>e4 x hq,fun x hq=>?_⟩;have hm:=ho m (by simp [Ins.opds]);cases n with
  | zero=>simp [evO] at hx
  | succ n =>
    have e:evO G (n+1) (.men kk z m k) b τ=match ax b (.men kk z m k) τ with
     | some (v,h)=>some (v,{ τ with h })
     | none=>none:=rfl
    rw [e] at e1;cases hax:ax b (.men kk z m k) τ with
    | none=>simp [hax] at e1
    | some p =>
      obtain ⟨u,h'⟩:=p;simp only [hax,Option.some.injEq,Prod.mk.injEq] at e1;obtain ⟨_,rfl⟩:=e1;obtain ⟨r,st,p,ss,g1,g2,g3⟩:=Aci hax;rw [hm] at g1;unfold Z8 at hq;simp only [g1] at hq;cases x with
      | tmp q=>rfl
      | lps=>rfl
      | root q=>simp only [valS];rw [g2 q hq]
      | shp q qq=>simp only [valS];rw [g2 q hq]
      | view q p' kk' z' =>
        by_cases hqr:q=r
        ·subst hqr;have:kk'=kk∧z'=z:=Classical.byContradiction fun hc=>hq ⟨rfl,hc⟩;obtain ⟨rfl,rfl⟩:=this;simp only [valS,g3]
        ·simp only [valS];rw [g2 q hqr]
 all_goals exact gen (fun _=>rfl) (fun _=>rfl)
theorem Ae2 {G:Prg}{n:Nat}{i:Ins}{b:Nat}{σ σ1 τ:St}{v:AV}(hx:evO G n i b σ=some (v,σ1))(ho:∀x∈i.opds,τ.get x=σ.get x)(hf:∀x,evD G b i σ x→valS τ x=valS σ x) :
 ∃τ1,evO G n i b τ=some (v,τ1)∧τ1.t=τ.t∧σ1.t=σ.t∧(∀x,evD G b i σ x→valS τ1 x=valS σ1 x)∧(∀x,¬evW G b i σ x→valS τ1 x=valS τ x):=by
 cases hr:rdOf b i σ with
 | none =>
   have hD:∀x,evD G b i σ x↔evD0 G b i σ x:=fun x=>by unfold evD;rw [hr]
   obtain ⟨τ1,e1,e2,e3,e4,e5⟩:=evO_loc20 hx ho (fun x h=>hf x ((hD x).2 h));refine ⟨τ1,e1,e2,e3,fun x h=>e4 x ((hD x).1 h),fun x h=>?_⟩;by_cases h0:Z8 G b i σ x
   ·have hk:AhE b i σ x:=Classical.byContradiction fun hk=>h ⟨h0,hk⟩;rcases hk with hk|hk
    case inr =>
     unfold Ai3 at hk;split at hk
     ·rename_i s es bytes z;obtain ⟨k1,k2⟩:=hk;cases n with
      | zero=>simp [evO] at hx
      | succ n =>
        have e:evO G (n+1) (.app s es bytes (.c .nils) z) b τ=match ax b (.app s es bytes (.c .nils) z) τ with
         | some (v,h)=>some (v,{ τ with h })
         | none=>none:=rfl
        rw [e] at e1;have hz:=ho z (by simp [Ins.opds]);have k3:LY τ.h es (τ.get z)=true:=by
         rw [hz];have hroot:∀r∈rootsOf (σ.get z),τ.h[r]? = σ.h[r]? := fun r hr=>by
          have:=hf (.root r) ((hD _).2 (by
           show r∈([s].map (b + ·)++rootsL (σ.gets [.c .nils,z]));refine List.mem_append_right _ (D7 (xs:=σ.gets [.c .nils,z]) (by show σ.get z∈[σ.get (.c .nils),σ.get z];simp) hr)))
          simpa [valS] using this
         cases hzz:σ.get z with
         | sl r st p ss off len =>
           have hr:=hroot r (by rw [hzz];simp [rootsOf]);rw [hzz] at k1;simp only [LY,node,hr] at k1 ⊢;exact k1
         | _=>rw [hzz] at k1;first|exact k1|(simp [LY] at k1;done)|simp [LY]
        cases hax:ax b (.app s es bytes (.c .nils) z) τ with
        | none=>simp [hax] at e1
        | some p =>
          obtain ⟨v',h'⟩:=p;simp only [hax,Option.some.injEq,Prod.mk.injEq] at e1;obtain ⟨_,rfl⟩:=e1;have hnew:=app_new k3 hax;cases x with
          | root r=>simp only [valS];rw [hnew r k2]
          | view r p kk z=>simp only [valS];rw [hnew r k2]
          | shp r q=>simp only [valS];rw [hnew r k2]
          | tmp n=>exact k2.elim
          | lps=>exact k2.elim
     ·exact hk.elim
    unfold AjG at hk;split at hk
    ·rename_i s es bytes y z r q;obtain ⟨k1,k2,k3⟩:=hk;cases n with
     | zero=>simp [evO] at hx
     | succ n =>
       have e:evO G (n+1) (.app s es bytes y z) b τ=match ax b (.app s es bytes y z) τ with
        | some (v,h)=>some (v,{ τ with h })
        | none=>none:=rfl
       rw [e] at e1;cases hax:ax b (.app s es bytes y z) τ with
       | none=>simp [hax] at e1
       | some p =>
         obtain ⟨v',h'⟩:=p;simp only [hax,Option.some.injEq,Prod.mk.injEq] at e1;obtain ⟨_,rfl⟩:=e1;have hy:=ho y (by simp [Ins.opds]);have hz:=ho z (by simp [Ins.opds]);simp only [valS];rw [app_at hax k1 (by rw [hz];exact k2) (by rw [hy];exact k3)]
    ·exact hk.elim
   ·exact e5 x h0
 | some rq =>
   obtain ⟨r,q⟩:=rq;have ha:(τ.h[r]?).map (atO q)=(σ.h[r]?).map (atO q):=by
    have:=hf (.shp r q) (by unfold evD;rw [hr]);simpa [valS] using this
   cases n with
   | zero=>simp [evO] at hx
   | succ n =>
     have fin:(∀τ:St,evO G (n+1) i b τ=match ax b i τ with
      | some (v,h)=>some (v,{ τ with h })
      | none=>none)→(∀h',ax b i σ=some (v,h')→h'=σ.h∧ax b i τ=some (v,τ.h))→∃τ1,evO G (n+1) i b τ=some (v,τ1)∧τ1.t=τ.t∧σ1.t=σ.t∧(∀x,evD G b i σ x→valS τ1 x=valS σ1 x)∧(∀x,¬evW G b i σ x→valS τ1 x=valS τ x):=by
      intro e hv;rw [e] at hx;cases hax:ax b i σ with
      | none=>simp [hax] at hx
      | some p =>
        obtain ⟨v',h'⟩:=p;simp only [hax,Option.some.injEq,Prod.mk.injEq] at hx;obtain ⟨rfl,rfl⟩:=hx;obtain ⟨g1,g2⟩:=hv _ hax;subst g1;exact ⟨τ,by rw [e,g2],rfl,rfl,hf,fun _ _=>rfl⟩
     unfold rdOf RR at hr;split at hr
     ·rename_i r' q' hs;simp only [Option.some.injEq,Prod.mk.injEq] at hr;obtain ⟨rfl,rfl⟩:=hr;split at hs
      ·rename_i off x;split at hs
       ·rename_i r2 st p ss i2 j hg;simp only [Sft.rd.injEq] at hs;obtain ⟨rfl,rfl⟩:=hs;exact fin (fun _=>rfl) (fun h' hh=>AjK (by simp only [AfN,hg]) ho hh ha)
       ·cases hs
      ·rename_i es x kx;split at hs
       ·rename_i r2 st p ss off len hg;simp only [Sft.rd.injEq] at hs;obtain ⟨rfl,rfl⟩:=hs;exact fin (fun _=>rfl) (fun h' hh=>AjK (by simp only [AfN,hg]) ho hh ha)
       ·cases hs
      ·rename_i x;split at hs
       ·rename_i r2 st p ss i2 j hg;split at hs
        ·rename_i es xs hn;simp only [Sft.rd.injEq] at hs;obtain ⟨rfl,rfl⟩:=hs;exact fin (fun _=>rfl) (fun h' hh=>ld_at hg ((ho x (by simp [Ins.opds])).trans hg) hn hh ha)
        ·cases hs
       ·cases hs
      ·split at hs<;>cases hs
      ·split at hs<;>cases hs
      ·cases hs
      ·cases hs
     ·cases hr
theorem get_of_tmps {σ τ:St}{x:Opd}(h:∀n∈x.tmps,τ.t[n]? = σ.t[n]?):τ.get x=σ.get x:=by
 cases x with
 | t n=>simp only [St.get,List.getD_eq_getElem?_getD];rw [h n (by simp [Opd.tmps])]
 | c v=>rfl
theorem CC {σ:St}{d:Option Nat}{v:AV}{x:Loc}(h:∀n,x = .tmp n→d≠some n):valS (σ.put d v) x=valS σ x:=by
 cases d with
 | none=>rfl
 | some d =>
   cases x with
   | tmp n =>
     have:d≠n:=fun e=>h n rfl (by rw [e]);simp only [valS,St.put];rw [List.getElem?_set_ne this]
   | root r=>rfl
   | lps=>rfl
   | view r p kk z=>rfl
   | shp r q=>rfl
theorem SQ {σ τ:St}{d:Nat}{v:AV}(e:τ.t[d]? = σ.t[d]?):(τ.put (some d) v).t[d]? = (σ.put (some d) v).t[d]? := by
 simp only [St.put];rcases Nat.lt_or_ge d σ.t.length with hl|hl
 ·have:d<τ.t.length:=by
   rcases Nat.lt_or_ge d τ.t.length with h|h
   ·exact h
   ·rw [List.getElem?_eq_none h,List.getElem?_eq_getElem hl] at e;cases e
  rw [List.getElem?_set_self hl,List.getElem?_set_self this]
 ·have:τ.t.length≤d:=by
   rcases Nat.lt_or_ge d τ.t.length with h|h
   ·rw [List.getElem?_eq_none hl,List.getElem?_eq_getElem h] at e;cases e
   ·exact h
  rw [List.getElem?_eq_none (by simpa using this),List.getElem?_eq_none (by simpa using hl)]
theorem Yg {σ τ:St}{r:Rop}(h:∀n∈r.reads,τ.t[n]? = σ.t[n]?):wantedO r.g τ=wantedO r.g σ:=by
 unfold wantedO;cases hg:r.g with
 | none=>rfl
 | some p =>
   obtain ⟨t,want⟩:=p;simp only [];rw [h t (by simp [Rop.reads,hg])]
theorem Acw {G:Prg}{n:Nat}{b:Nat}{r:Rop}{σ σ1 τ:St}(hx:ropE (evO G n) b r σ=some σ1)(hD:∀x,DL G b r σ x→valS τ x=valS σ x) :
 ∃τ1,ropE (evO G n) b r τ=some τ1∧(∀x,DL G b r σ x→valS τ1 x=valS σ1 x)∧(∀x,¬WL G b r σ x→valS τ1 x=valS τ x):=by
 have hrd:∀n∈r.reads,τ.t[n]? = σ.t[n]? := fun n hn=>by have:=hD (.tmp n) (.inl hn);simpa [valS] using this
 have hdd:∀d,r.d=some d→τ.t[d]? = σ.t[d]? := fun d hd=>by have:=hD (.tmp d) (.inr hd);simpa [valS] using this
 have hw:=Yg (r:=r) hrd;have fin:∀(v:AV) (σa τa:St),(∀n:Nat,τa.t[n]? = τ.t[n]?)→(∀n:Nat,σa.t[n]? = σ.t[n]?)→(∀x,(wantedO r.g σ=some true∧evD G b r.i σ x)→valS τa x=valS σa x)→(∀x,(∀n,x≠.tmp n)→¬(wantedO r.g σ=some true∧evW G b r.i σ x)→valS τa x=valS τ x) →
  (∀x,DL G b r σ x→valS (τa.put r.d v) x=valS (σa.put r.d v) x)∧(∀x,¬WL G b r σ x→valS (τa.put r.d v) x=valS τ x):=by
  intro v σa τa h1 h2 h3 h4;refine ⟨fun x hx=>?_,fun x hx=>?_⟩
  ·cases x with
   | tmp n =>
     by_cases hd:r.d=some n
     ·rw [hd];simp only [valS];rw [SQ (σ:=σa) (τ:=τa) (d:=n) (v:=v) (by rw [h1,h2,hdd n hd])]
     ·rw [CC (fun m hm=>by cases hm;exact hd),CC (fun m hm=>by cases hm;exact hd)];rcases hx with hx|hx
      ·simp only [valS];rw [h1,h2,hrd n hx]
      ·exact absurd hx hd
   | root q=>rw [CC (fun m hm=>by cases hm),CC (fun m hm=>by cases hm)];exact h3 _ hx
   | lps=>rw [CC (fun m hm=>by cases hm),CC (fun m hm=>by cases hm)];exact h3 _ hx
   | view q p kk z=>rw [CC (fun m hm=>by cases hm),CC (fun m hm=>by cases hm)];exact h3 _ hx
   | shp q kk=>rw [CC (fun m hm=>by cases hm),CC (fun m hm=>by cases hm)];exact h3 _ hx
  ·cases x with
   | tmp n =>
     rw [CC (fun m hm=>by cases hm;exact hx)];simp only [valS];rw [h1]
   | root q=>rw [CC (fun m hm=>by cases hm)];exact h4 _ (fun n h=>by cases h) hx
   | lps=>rw [CC (fun m hm=>by cases hm)];exact h4 _ (fun n h=>by cases h) hx
   | view q p kk z=>rw [CC (fun m hm=>by cases hm)];exact h4 _ (fun n h=>by cases h) hx
   | shp q kk=>rw [CC (fun m hm=>by cases hm)];exact h4 _ (fun n h=>by cases h) hx
 have evD_tmp:∀n,¬evD G b r.i σ (.tmp n):=by
  intro n h;unfold evD at h;split at h
  ·cases h
  unfold evD0 at h;split at h
  ·split at h
   ·rename_i hh;cases hh
   ·exact h
  ·exact h
 unfold ropE at hx ⊢;rw [hw];cases hwo:wantedO r.g σ with
 | none=>simp [hwo] at hx
 | some wb =>
   rw [hwo] at fin;cases wb with
   | false =>
     simp only [hwo,Option.some.injEq] at hx;subst hx;obtain ⟨f1,f2⟩:=fin (.tup []) σ τ (fun _=>rfl) (fun _=>rfl) (fun x hx=>by cases hx.1) (fun _ _ _=>rfl);exact ⟨_,rfl,f1,f2⟩
   | true =>
     simp only [hwo] at hx;cases hev:evO G n r.i b σ with
     | none=>simp [hev] at hx
     | some p =>
       obtain ⟨v,σa⟩:=p;simp only [hev,Option.some.injEq] at hx;subst hx;obtain ⟨τa,e1,e2,e3,e4,e5⟩:=Ae2 (τ:=τ) hev (fun x hx=>get_of_tmps (fun m hm=>hrd m (by simp only [Rop.reads,List.mem_append,List.mem_flatMap];exact .inl ⟨x,hx,hm⟩)))
        (fun x hx=>by
          cases x with
          | tmp n=>exact absurd hx (evD_tmp n)
          | root q=>exact hD _ ⟨hwo,hx⟩
          | lps=>exact hD _ ⟨hwo,hx⟩
          | view q p kk z=>exact hD _ ⟨hwo,hx⟩
          | shp q p=>exact hD _ ⟨hwo,hx⟩)
       obtain ⟨f1,f2⟩:=fin v σa τa (fun m=>by rw [e2]) (fun m=>by rw [e3]) (fun x hx=>e4 x hx.2) (fun x _ hx=>e5 x (fun h=>hx ⟨rfl,h⟩));exact ⟨_,by simp only [e1],f1,f2⟩
theorem Abm {P:Program}{sm:List Nat}{ops:Array Oper}:∀(l:List Oper) (rs:List Rop),K5 P sm ops l=some rs→rs.length=l.length∧∀(k:Nat) (o:Oper),l[k]? = some o→∃r,rs[k]? = some r∧PV P sm ops o=some r:=by
 intro l;induction l with
 | nil=>intro rs h;simp [K5] at h;subst h;exact ⟨rfl,fun k o h=>by simp at h⟩
 | cons o l ih =>
   intro rs h;simp only [K5] at h;cases h1:PV P sm ops o with
   | none=>simp [h1] at h
   | some r =>
     cases h2:K5 P sm ops l with
     | none=>simp [h1,h2] at h
     | some rs' =>
       simp [h1,h2] at h;subst h;obtain ⟨g1,g2⟩:=ih rs' h2;refine ⟨by simp [g1],fun k o' hk=>?_⟩;cases k with
       | zero=>simp at hk;subst hk;exact ⟨r,rfl,h1⟩
       | succ k=>exact g2 k o' (by simpa using hk)
theorem T9 {ops:Array Oper}{i k:Nat}(hik:i<k)(hk:k<ops.size)(hb:RW ops i k=false):(i,k)∈M5 ops:=by
 unfold M5 AdN;refine List.mem_filter.2 ⟨List.mem_flatMap.2 ⟨k,List.mem_range.2 hk,List.mem_map.2 ⟨i,List.mem_range.2 hik,rfl⟩⟩,by simp [hb]⟩
theorem Aaz {x y:Rop}(h:x.tfree y=true):(∀d,x.d=some d→d∉y.reads∧y.d≠some d)∧(∀d,y.d=some d→d∉x.reads):=by
 refine ⟨fun d hd=>?_,fun d hd=>?_⟩<;>simp [Rop.tfree,hd] at h
 ·exact ⟨h.1.1,h.1.2⟩
 ·exact h.2
theorem Aai {a b:Option (List Nat)}(h:K8 a b=true)(x:Loc):¬(footL a x∧footL b x):=by
 rintro ⟨h1,h2⟩;unfold K8 at h;split at h
 ·cases x<;>simp [footL] at h1
 ·cases x<;>simp [footL] at h2
 ·rename_i fa fb _ _;cases x
  case tmp=>exact h1.elim
  case lps=>simp [footL] at h1
  case view r p kk z =>
   simp only [footL] at h1 h2;simp only [List.all_eq_true,Bool.not_eq_true',List.contains_eq_mem,decide_eq_false_iff_not] at h;exact h r h1 h2
  case shp r q =>
   simp only [footL] at h1 h2;simp only [List.all_eq_true,Bool.not_eq_true',List.contains_eq_mem,decide_eq_false_iff_not] at h;exact h r h1 h2
  case root r =>
   simp only [footL] at h1 h2;simp only [List.all_eq_true,Bool.not_eq_true',List.contains_eq_mem,decide_eq_false_iff_not] at h;exact h r h1 h2
 ·cases h
theorem dry_foot {G:Prg}{b:Nat}{r:Rop}{σ:St}(h:r.i.dry=true)(x:Loc):¬footL (Ul G b r σ) x:=by
 have:Ul G b r σ=some []:=by
  unfold Ul;split
  ·unfold foot;cases hi:r.i<;>simp only [hi,Ins.dry,Bool.false_eq_true] at h<;>simp [Ins.dry]
  ·rfl
 rw [this];cases x<;>simp [footL]
theorem AeH {G:Prg}{b:Nat}{kk:KK}{z:AV}{ok:Bool}{m k:Opd}{σ:St}:foot G b (.lok kk z ok m k) σ=some (rootsL [σ.get m,σ.get k]):=rfl
theorem Sv {G:Prg}{b:Nat}{kk:KK}{z:AV}{m k:Opd}{σ:St}:foot G b (.men kk z m k) σ=some (rootsL [σ.get m,σ.get k]):=rfl
theorem AdA {G:Prg}{b:Nat}{i:Ins}{σ:St}{x:Loc}(h:evD0 G b i σ x):footL (foot G b i σ) x:=by
 unfold evD0 at h;split at h
 ·rename_i kk z m k;split at h
  ·rename_i r st p ss r' p' kk' z' hg;obtain ⟨rfl,rfl,rfl,rfl⟩:=h;rw [AeH,hg];simp [footL,rootsL,rootsOf]
  ·exact h.elim
 ·exact h
theorem M4 {G:Prg}{b:Nat}{i:Ins}{σ:St}{x:Loc}(h:Z8 G b i σ x):footL (foot G b i σ) x∧i.calm=false:=by
 unfold Z8 at h;split at h
 ·rename_i kk z m k;split at h
  ·rename_i r st p ss r' hg;subst h;exact ⟨by rw [Sv,hg];simp [footL,rootsL,rootsOf],rfl⟩
  ·rename_i r st p ss r' q' hg;subst h;exact ⟨by rw [Sv,hg];simp [footL,rootsL,rootsOf],rfl⟩
  ·rename_i r st p ss r' p' kk' z' hg;obtain ⟨rfl,_⟩:=h;exact ⟨by rw [Sv,hg];simp [footL,rootsL,rootsOf],rfl⟩
  ·exact h.elim
 ·exact h
theorem evW0_evD0 {G:Prg}{b:Nat}{i:Ins}{σ:St}{x:Loc}(h:Z8 G b i σ x):evD0 G b i σ x:=by
 have hf:=M4 h;unfold evD0;split
 ·exact absurd hf.2 (by simp [Ins.calm])
 ·exact hf.1
theorem W1 {G:Prg}{b:Nat}{i k:Ins}{σ τ:St}(h:viewPair i k=true)(x:Loc):¬(Z8 G b i σ x∧evD0 G b k τ x)∧¬(evD0 G b i σ x∧Z8 G b k τ x):=by
 unfold viewPair at h;split at h
 ·rename_i kk z ok m1 k1 kk' z' m2 k2;simp only [Bool.and_eq_true,Bool.not_eq_true',beq_iff_eq] at h;obtain ⟨⟨rfl,rfl⟩,hz⟩:=h;have:=Ag3 hz;subst this;refine ⟨fun ⟨h1,_⟩=>?_,fun ⟨h1,h2⟩=>?_⟩
  ·exact absurd (M4 h1).2 (by simp [Ins.calm])
  ·simp only [evD0,Z8] at h1 h2;split at h1
   ·rename_i r st p ss r' p' kk' z' hg;obtain ⟨rfl,rfl,rfl,rfl⟩:=h1;split at h2
    ·rename_i hh;cases hh
    ·rename_i hh;cases hh
    ·rename_i hh;cases hh;exact h2.2 ⟨rfl,rfl⟩
    ·exact h2
   ·exact h1
 ·rename_i kk z m1 k1 kk' z' ok m2 k2;simp only [Bool.and_eq_true,Bool.not_eq_true',beq_iff_eq] at h;obtain ⟨⟨rfl,rfl⟩,hz⟩:=h;have:=Ag3 hz;subst this;refine ⟨fun ⟨h2,h1⟩=>?_,fun ⟨_,h1⟩=>?_⟩
  ·simp only [evD0,Z8] at h1 h2;split at h1
   ·rename_i r st p ss r' p' kk' z' hg;obtain ⟨rfl,rfl,rfl,rfl⟩:=h1;split at h2
    ·rename_i hh;cases hh
    ·rename_i hh;cases hh
    ·rename_i hh;cases hh;exact h2.2 ⟨rfl,rfl⟩
    ·exact h2
   ·exact h1
  ·exact absurd (M4 h1).2 (by simp [Ins.calm])
 ·cases h
theorem sftI_rd {b:Nat}{i:Ins}{σ:St}{r:Nat}{q:Path}(h:RR b i σ = .rd r q):i.calm=true∧(i.dry=false)∧(∃x∈i.opds,r∈rootsOf (σ.get x))∧∀f:Ins,f=i→foot (fun _=>none) b f σ=some (i.sites.map (b + ·)++rootsL (σ.gets i.opds)):=by
 unfold RR at h;split at h
 ·rename_i off x;split at h
  ·rename_i r2 st p ss i2 j hg;simp only [Sft.rd.injEq] at h;obtain ⟨rfl,rfl⟩:=h;exact ⟨rfl,rfl,⟨x,by simp [Ins.opds],by simp [hg,rootsOf]⟩,fun f hf=>by subst hf;rfl⟩
  ·cases h
 ·rename_i es x kx;split at h
  ·rename_i r2 st p ss off len hg;simp only [Sft.rd.injEq] at h;obtain ⟨rfl,rfl⟩:=h;exact ⟨rfl,rfl,⟨x,by simp [Ins.opds],by simp [hg,rootsOf]⟩,fun f hf=>by subst hf;rfl⟩
  ·cases h
 ·rename_i x;split at h
  ·rename_i r2 st p ss i2 j hg;split at h
   ·simp only [Sft.rd.injEq] at h;obtain ⟨rfl,rfl⟩:=h;exact ⟨rfl,rfl,⟨x,by simp [Ins.opds],by simp [hg,rootsOf]⟩,fun f hf=>by subst hf;rfl⟩
   ·cases h
  ·cases h
 ·split at h<;>cases h
 ·split at h<;>cases h
 ·cases h
 ·cases h
theorem sftI_ap {b:Nat}{i:Ins}{σ:St}{r:Nat}{p:Path}{os:List Nat}(h:RR b i σ = .ap r p os):∃s es bytes x y st ss off len,i = .app s es bytes x y∧σ.get x = .sl r st p ss off len∧os=(b+s)::rootsOf (σ.get y):=by
 unfold RR at h;split at h
 ·split at h<;>cases h
 ·split at h<;>cases h
 ·split at h
  ·split at h<;>cases h
  ·cases h
 ·split at h<;>cases h
 ·rename_i s es bytes x y hne;split at h
  ·rename_i r2 st p2 ss off len hg;simp only [Sft.ap.injEq] at h;obtain ⟨rfl,rfl,rfl⟩:=h;exact ⟨s,es,bytes,x,y,st,ss,off,len,rfl,hg,rfl⟩
  ·cases h
 ·cases h
 ·cases h
theorem rdOf_some {b:Nat}{i:Ins}{σ:St}{r:Nat}{q:Path}(h:rdOf b i σ=some (r,q)):RR b i σ = .rd r q:=by
 unfold rdOf at h;split at h
 ·rename_i r' q' hs;simp only [Option.some.injEq,Prod.mk.injEq] at h;obtain ⟨rfl,rfl⟩:=h;exact hs
 ·cases h
theorem evD_foot {G:Prg}{b:Nat}{i:Ins}{σ:St}{x:Loc}(h:evD G b i σ x):footL (foot G b i σ) x:=by
 unfold evD at h;split at h
 ·rename_i r q hr;subst h;obtain ⟨h1,h2,⟨x,hx,h3⟩,h4⟩:=sftI_rd (rdOf_some hr);have:foot G b i σ=some (i.sites.map (b + ·)++rootsL (σ.gets i.opds)):=by
   have:=h4 i rfl;cases i<;>first|exact this|simp [Ins.calm,Ins.dry] at h1
  rw [this];simp only [footL];exact List.mem_append.2 (.inr (D7 (x:=σ.get x) (List.mem_map.2 ⟨x,hx,rfl⟩) h3))
 ·exact AdA h
theorem Hh {G:Prg}{b:Nat}{i:Ins}{σ:St}{x:Loc}(h:evW G b i σ x):footL (foot G b i σ) x∧i.calm=false:=M4 h.1
theorem Tk {G:Prg}{b:Nat}{i:Ins}{σ:St}{x:Loc}(h:evW G b i σ x):evD G b i σ x:=by
 unfold evD;split
 ·rename_i r q hr;have:=(sftI_rd (rdOf_some hr)).1;rw [(Hh h).2] at this;cases this
 ·exact evW0_evD0 h.1
theorem view_apart {G:Prg}{b:Nat}{i k:Ins}{σ τ:St}(h:viewPair i k=true)(x:Loc):¬(evW G b i σ x∧evD G b k τ x)∧¬(evD G b i σ x∧evW G b k τ x):=by
 have key:(rdOf b i σ=none)∧(rdOf b k τ=none):=by
  unfold viewPair at h;split at h
  ·exact ⟨rfl,rfl⟩
  ·exact ⟨rfl,rfl⟩
  ·cases h
 obtain ⟨g1,g2⟩:=W1 (G:=G) (b:=b) (σ:=σ) (τ:=τ) h x;refine ⟨fun ⟨h1,h2⟩=>g1 ⟨h1.1,?_⟩,fun ⟨h1,h2⟩=>g2 ⟨?_,h2.1⟩⟩
 ·unfold evD at h2;rw [key.2] at h2;exact h2
 ·unfold evD at h1;rw [key.1] at h1;exact h1
theorem Sd {b:Nat}{s es bytes:Nat}{x y:Opd}{τ:St}{r r':Nat}{q p:Path}{st ss off len:Nat}(hg:τ.get x = .sl r' st p ss off len)(h:Ae0 r q r' p ((b+s)::rootsOf (τ.get y))=true):AhE b (.app s es bytes x y) τ (.shp r q):=by
 simp only [Ae0,Bool.and_eq_true,Bool.not_eq_true',Bool.or_eq_true,bne_iff_ne,ne_eq,List.contains_eq_mem,decide_eq_false_iff_not,List.mem_cons,not_or] at h;refine .inl ⟨h.1.1,h.1.2,fun st' p' ss' off' len' h' hp=>?_⟩;rw [hg] at h';cases h';rcases h.2 with h2|h2
 ·exact h2 rfl
 ·rw [←List.isPrefixOf_iff_prefix] at hp;rw [hp] at h2;cases h2
theorem sftI_cm {b:Nat}{i:Ins}{σ:St}{os:List Nat}(h:RR b i σ = .cm os):∃es x lo hi mx,i = .sli es x lo hi mx∧os=rootsL (σ.gets (Ins.opds (.sli es x lo hi mx))):=by
 unfold RR at h;split at h
 all_goals first|(cases h;exact ⟨_,_,_,_,_,rfl,rfl⟩)|(cases h;done)|skip
 all_goals (split at h<;>first|(cases h;done)|skip)
 all_goals (split at h<;>cases h)
theorem sftI_nw {b:Nat}{i:Ins}{σ:St}{s0:Nat}(h:RR b i σ = .nw s0):∃s es bytes y,i = .app s es bytes (.c .nils) y∧LY σ.h es (σ.get y)=true∧s0=b+s:=by
 unfold RR at h;split at h
 all_goals first|(cases h;done)|skip
 all_goals (split at h<;>first|(cases h;done)|skip)
 all_goals first|(split at h<;>cases h;done)|skip
 rename_i hp;cases h;exact ⟨_,_,_,_,rfl,hp,rfl⟩
theorem Ag6 {G:Prg}{b s es:Nat}{x':Opd}{lo hi mx:Option Opd}{σ:St}{x:Loc}(h:(!(rootsL (σ.gets (Ins.opds (.sli es x' lo hi mx)))).contains s)=true)(hf:footL (foot G b (.sli es x' lo hi mx) σ) x):Akr s x:=by
 have e:foot G b (.sli es x' lo hi mx) σ=some (([]:List Nat)++rootsL (σ.gets (Ins.opds (.sli es x' lo hi mx)))):=rfl;rw [e,List.nil_append] at hf;simp only [Bool.not_eq_true',List.contains_eq_mem,decide_eq_false_iff_not] at h;cases x with
 | root r=>exact fun e=>h (e▸hf)
 | view r p kk z=>exact fun e=>h (e▸hf)
 | shp r q=>exact fun e=>h (e▸hf)
 | tmp n=>exact hf.elim
 | lps=>cases hf
theorem soft_apart {G:Prg}{b:Nat}{i k:Ins}{σ τ:St}(h:Aiz (RR b i σ) (RR b k τ)=true)(x:Loc):¬(evW G b i σ x∧evD G b k τ x)∧¬(evD G b i σ x∧evW G b k τ x):=by
 unfold Aiz at h;split at h
 ·rename_i r q r' p os hi hk;obtain ⟨s,es,bytes,y,z,st,ss,off,len,rfl,hg,rfl⟩:=sftI_ap hk;refine ⟨fun ⟨h1,_⟩=>?_,fun ⟨h1,h2⟩=>?_⟩
  ·have:=(sftI_rd hi).1;rw [(Hh h1).2] at this;cases this
  ·unfold evD rdOf at h1;rw [hi] at h1;simp only at h1;subst h1;exact h2.2 (Sd hg h)
 ·rename_i r' p os r q hi hk;obtain ⟨s,es,bytes,y,z,st,ss,off,len,rfl,hg,rfl⟩:=sftI_ap hi;refine ⟨fun ⟨h2,h1⟩=>?_,fun ⟨_,h1⟩=>?_⟩
  ·unfold evD rdOf at h1;rw [hk] at h1;simp only at h1;subst h1;exact h2.2 (Sd hg h)
  ·have:=(sftI_rd hk).1;rw [(Hh h1).2] at this;cases this
 ·rename_i os s hi hk;obtain ⟨es,x',lo,hi2,mx,rfl,rfl⟩:=sftI_cm hi;obtain ⟨s',es',bytes,y,rfl,hp,rfl⟩:=sftI_nw hk;refine ⟨fun ⟨h1,_⟩=>by have:=(Hh h1).2;simp [Ins.calm] at this,fun ⟨h1,h2⟩=>h2.2 (.inr ⟨hp,Ag6 h (evD_foot h1)⟩)⟩
 ·rename_i s os hi hk;obtain ⟨es,x',lo,hi2,mx,rfl,rfl⟩:=sftI_cm hk;obtain ⟨s',es',bytes,y,rfl,hp,rfl⟩:=sftI_nw hi;refine ⟨fun ⟨h2,h1⟩=>h2.2 (.inr ⟨hp,Ag6 h (evD_foot h1)⟩),fun ⟨_,h1⟩=>by have:=(Hh h1).2;simp [Ins.calm] at this⟩
 ·cases h
theorem runL_ops {f:Ins→Nat→St→Option (AV×St)}{b:Nat}{P:Program}{sm:List Nat}{ops:Array Oper}{rs:List Rop}(hg:∀(k:Nat) (o:Oper),ops[k]? = some o→∃r,rs[k]? = some r∧PV P sm ops o=some r){E:Nat→Prop}{pre:Nat→Nat→Prop}{l:List Nat}(ho:Ord ops.size pre E l):∀ {σ σ':St},
 AiL (fun k τ=>match rs[k]? with|some r=>ropE f b r τ|none=>none) l σ=some σ'→∃rl,All2 (fun j r=>∃o,ops[j]? = some o∧PV P sm ops o=some r) l rl∧J8 f rl b σ=some σ':=by
 induction ho with
 | nil h=>intro σ σ' hr;simp only [AiL] at hr;exact ⟨[],.nil,by simpa [J8] using hr⟩
 | cons hk hn hp t ih =>
   rename_i E k l;intro σ σ' hr;obtain ⟨r,h1,h2⟩:=hg k _ (Array.getElem?_eq_getElem hk);simp only [AiL,h1] at hr;cases hrop:ropE f b r σ with
   | none=>simp [hrop] at hr
   | some σ1 =>
     simp only [hrop] at hr;obtain ⟨rl,h3,h4⟩:=ih hr;exact ⟨r::rl,.cons ⟨_,Array.getElem?_eq_getElem hk,h2⟩ h3,by rw [Aca,hrop];exact h4⟩
theorem Zj (P:Program)(G:Prg)(n:Nat):AfG P G (evO G n):=by
 intro sm ops rs b σ σ' fs hc hok hd hap mixed t;obtain ⟨st,s0,sN,hfl,hst,hsf⟩:=drwE_run G _ b rs σ σ' fs hd;obtain ⟨hlen,hget⟩:=Abm _ _ hc;have hN:rs.length=ops.size:=by simpa using hlen
 have hg:∀(k:Nat) (o:Oper),ops[k]? = some o→∃r,rs[k]? = some r∧PV P sm ops o=some r:=fun k o hk=>hget k o (by simpa using hk);let step:Nat→St→Option St:=fun k τ=>match rs[k]? with|some r=>ropE (evO G n) b r τ|none=>none
 let D:Nat→Loc→Prop:=fun k x=>∃r,rs[k]? = some r∧DL G b r (st k) x;let W:Nat→Loc→Prop:=fun k x=>∃r,rs[k]? = some r∧WL G b r (st k) x;have hr:∀k,k<ops.size→∃r,rs[k]? = some r:=fun k hk=>⟨_,List.getElem?_eq_getElem (by omega)⟩;have ht:Trace valS ops.size step st D W:=by
  refine ⟨fun k hk τ hτ=>?_,fun k hk x hx=>?_,fun k x hx=>?_⟩
  ·obtain ⟨r,h1⟩:=hr k hk;obtain ⟨τ1,e1,e2,e3⟩:=Acw (hst k r h1).1 (fun x hx=>hτ x ⟨r,h1,hx⟩);exact ⟨τ1,by simp only [step,h1];exact e1,fun x ⟨r',h2,hx⟩=>by rw [h1] at h2;cases h2;exact e2 x hx,fun x hx=>e3 x (fun h=>hx ⟨r,h1,h⟩)⟩
  ·obtain ⟨r,h1⟩:=hr k hk;obtain ⟨τ1,e1,e2,e3⟩:=Acw (τ:=st k) (hst k r h1).1 (fun x hx=>rfl);rw [(hst k r h1).1] at e1;cases e1;exact e3 x (fun h=>hx ⟨r,h1,h⟩)
  ·obtain ⟨r,h1,h2⟩:=hx;refine ⟨r,h1,?_⟩;cases x with
   | tmp m=>exact .inr h2
   | root q=>exact ⟨h2.1,Tk h2.2⟩
   | lps=>exact ⟨h2.1,Tk h2.2⟩
   | view q p kk z=>exact ⟨h2.1,Tk h2.2⟩
   | shp q kk=>exact ⟨h2.1,Tk h2.2⟩
 have hdep:∀i k,i<k→k<ops.size→¬Pre ops i k→∀x,¬(W i x∧D k x)∧¬(D i x∧W k x):=by
  intro i k hik hk hnp;have hb:RW ops i k=false:=by
   cases hb:RW ops i k with
   | false=>rfl
   | true=>exact absurd (Zr hb) hnp
  have hm:=T9 hik hk hb;obtain ⟨ri,hi⟩:=hr i (by omega);obtain ⟨rk,hk'⟩:=hr k hk;have htf:ri.tfree rk=true:=by
   simp only [QS,Bool.and_eq_true] at hok;have:=List.all_eq_true.1 hok.2 _ hm;simpa [hi,hk'] using this
  obtain ⟨t1,t2⟩:=Aaz htf;have hfr:∀ {q:Nat}{rq:Rop},rs[q]? = some rq→wantedO rq.g (st q)=some true→Ul G b rq (st q)=foot G b rq.i (st q):=by
   intro q rq _ h;simp only [Ul,h]
  have hroot:viewPair ri.i rk.i=false→Aiz (RR b ri.i (st i)) (RR b rk.i (st k))=false→wantedO ri.g (st i)=some true→wantedO rk.g (st k)=some true→∀x,footL (foot G b ri.i (st i)) x→footL (foot G b rk.i (st k)) x→ri.i.calm=true∧rk.i.calm=true:=by
   intro hvp hsp w1 w2 x h1 h2;rw [←hfr hi w1] at h1;rw [←hfr hk' w2] at h2;cases he:Aj4 ri rk with
   | false =>
     have h3:(i,k)∈Lc ops rs:=by
      unfold Lc;exact List.mem_filter.2 ⟨hm,by simp [hi,hk',he,hvp]⟩
     have h4:=List.all_eq_true.1 hap _ h3;have h5:=hsf i ri hi w1;have h6:=hsf k rk hk' w2;simp only [List.getD_eq_getElem?_getD,(hst i ri hi).2,(hst k rk hk').2,h5,h6,hsp,Bool.or_false,Option.getD_some] at h4;exact absurd ⟨h1,h2⟩ (Aai h4 x)
   | true =>
     simp only [Aj4,Bool.or_eq_true,Bool.and_eq_true] at he;rcases he with (he|he)|he
     ·exact absurd h1 (dry_foot he x)
     ·exact absurd h2 (dry_foot he x)
     ·exact he
  have hnt:∀x,¬((wantedO ri.g (st i)=some true∧evW G b ri.i (st i) x)∧(wantedO rk.g (st k)=some true∧evD G b rk.i (st k) x))∧¬((wantedO ri.g (st i)=some true∧evD G b ri.i (st i) x)∧(wantedO rk.g (st k)=some true∧evW G b rk.i (st k) x)):=by
   intro x;cases hvp:viewPair ri.i rk.i with
   | true =>
     obtain ⟨g1,g2⟩:=view_apart (G:=G) (b:=b) (σ:=st i) (τ:=st k) hvp x;exact ⟨fun ⟨h1,h2⟩=>g1 ⟨h1.2,h2.2⟩,fun ⟨h1,h2⟩=>g2 ⟨h1.2,h2.2⟩⟩
   | false =>
     cases hsp:Aiz (RR b ri.i (st i)) (RR b rk.i (st k)) with
     | true =>
       obtain ⟨g1,g2⟩:=soft_apart (G:=G) hsp x;exact ⟨fun ⟨h1,h2⟩=>g1 ⟨h1.2,h2.2⟩,fun ⟨h1,h2⟩=>g2 ⟨h1.2,h2.2⟩⟩
     | false =>
     refine ⟨fun ⟨h1,h2⟩=>?_,fun ⟨h1,h2⟩=>?_⟩
     ·have:=(hroot hvp hsp h1.1 h2.1 x (Hh h1.2).1 (evD_foot h2.2)).1;rw [(Hh h1.2).2] at this;cases this
     ·have:=(hroot hvp hsp h1.1 h2.1 x (evD_foot h1.2) (Hh h2.2).1).2;rw [(Hh h2.2).2] at this;cases this
  intro x;refine ⟨?_,?_⟩
  ·rintro ⟨⟨r1,e1,h1⟩,⟨r2,e2,h2⟩⟩;rw [hi] at e1;cases e1;rw [hk'] at e2;cases e2;cases x with
   | tmp m =>
     rcases h2 with h2|h2
     ·exact (t1 m h1).1 h2
     ·exact (t1 m h1).2 h2
   | root q=>exact (hnt _).1 ⟨h1,h2⟩
   | lps=>exact (hnt _).1 ⟨h1,h2⟩
   | view q p kk z=>exact (hnt _).1 ⟨h1,h2⟩
   | shp q kk=>exact (hnt _).1 ⟨h1,h2⟩
  ·rintro ⟨⟨r1,e1,h1⟩,⟨r2,e2,h2⟩⟩;rw [hi] at e1;cases e1;rw [hk'] at e2;cases e2;cases x with
   | tmp m =>
     rcases h1 with h1|h1
     ·exact t2 m h2 h1
     ·exact (t1 m h1).2 h2
   | root q=>exact (hnt _).2 ⟨h1,h2⟩
   | lps=>exact (hnt _).2 ⟨h1,h2⟩
   | view q p kk z=>exact (hnt _).2 ⟨h1,h2⟩
   | shp q kk=>exact (hnt _).2 ⟨h1,h2⟩
 have hord:=draw_ord hok mixed t;have hinv:Inv valS ops.size st W (fun _=>False) σ:=fun x=>⟨0,Nat.zero_le _,by rw [s0],fun k _ _=>⟨False.elim,fun h=>absurd h (Nat.not_lt_zero _)⟩⟩;obtain ⟨τ,h1,h2⟩:=ht.all (Ajk hok) hdep hord (fun j i _ h _=>h.elim) hinv;have:τ=σ':=by
  refine Y2 (fun x=>?_);rw [h2 x,←hN,sN]
 subst this;exact runL_ops hg hord h1
open Go.RowKit
theorem Aka {P:Program}{G:Prg}(hG:AiE P G){n:Nat}{f:FuncId}{F:IF}{xs:List AV}{rs:List AV}{σ1:St}(hf:G f=some F)(hn:xs.length=F.np)(hrun:runF G n F xs [] []=some (rs,σ1))
 {w:World}{fz:Nat→Prop}(hfz:∀b,fz b→b<w.heap.size) {args:Array Value}(hargs:VRels w fz (fun _ _=>False) xs args.toList) :
 Calls P f args w fun e w'=>∃cs:List Value,e = .returned (KX cs)∧Below w.heap.size w w'∧∃fz',VRels w' fz' (fun _ _=>False) (treeBL 0 σ1.h rs) cs :=
 X3 hG (fun n=>Zj P G n) hf hn hrun hfz hargs
end Go.Mw
