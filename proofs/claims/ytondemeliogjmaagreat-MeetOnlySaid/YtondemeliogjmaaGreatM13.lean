/- A call by value depends on what it names alone. -/
import Derived.Test.YtondemeliogjmaaGreatM12
set_option linter.unusedVariables false
set_option linter.unusedSimpArgs false
namespace Go.Mw
section
variable {rs:List Nat}{h k:List Ob}
mutual
theorem AdY (ha:Fg rs h k)(B:Nat):∀(v:AV),Named rs v→treeB B k v=treeB B h v
 | .agg cs,hn=>by simp only [treeB];rw [J4 ha B cs (fun r hr=>hn r (by simpa [rootsOf] using hr))]
 | .tup cs,hn=>by simp only [treeB];rw [J4 ha B cs (fun r hr=>hn r (by simpa [rootsOf] using hr))]
 | .fn f cs,hn=>by simp only [treeB];rw [J4 ha B cs (fun r hr=>hn r (by simpa [rootsOf] using hr))]
 | .sl r st p ss off len,hn=>by simp only [treeB,AaI];rw [Be ha (hn r (by simp [rootsOf]))]
 | .ptr r st p ss i j,hn=>by simp only [treeB,AaI];rw [Be ha (hn r (by simp [rootsOf]))]
 | .mp r st p ss,hn=>rfl
 | .ent ..,hn=>rfl
 | .yld _,hn=>rfl
 | .undef,hn=>rfl
 | .gone,hn=>rfl
 | .bool _,hn=>rfl
 | .int ..,hn=>rfl
 | .str _,hn=>rfl
 | .nilp,hn=>rfl
 | .nils,hn=>rfl
 | .nilm,hn=>rfl
 | .nilf,hn=>rfl
 | .emp,hn=>rfl
 | .ne,hn=>rfl
 | .lst _,hn=>rfl
 | .pfro _,hn=>rfl
 | .own ..,hn=>rfl
 | .ownm _,hn=>rfl
theorem J4 (ha:Fg rs h k)(B:Nat):∀(xs:List AV),(∀r∈rootsL xs,r∈rs)→treeBL B k xs=treeBL B h xs
 | [],_=>rfl
 | x::xs,hn=>by
   simp only [treeBL];rw [AdY ha B x (fun r hr=>hn r (by simp only [rootsL,List.mem_append];exact .inl hr)),J4 ha B xs (fun r hr=>hn r (by simp only [rootsL,List.mem_append];exact .inr hr))]
end
theorem TA (ha:Fg rs h k){qs:List Nat}(hq:∀r∈qs,r∈rs):E1 rs (At h qs) k (At k qs):=by
 have get:∀(h:List Ob) (r:Nat),(At h qs)[r]? = (h[r]?).map fun o=>if r∈qs then { o with c:=.gone } else o:=by
  intro h r;cases ho:h[r]? with
  | some o=>rw [Hl qs h r o ho];rfl
  | none =>
    have hlt:h.length≤r:=by
     rcases Nat.lt_or_ge r h.length with x|x
     ·rw [List.getElem?_eq_getElem x] at ho;cases ho
     ·exact x
    rw [List.getElem?_eq_none (by rw [dropRoots_len];exact hlt)];rfl
 refine ⟨fun r hr=>by rw [get,get,ha r hr],fun r hr=>?_⟩;rw [get];have:r∉qs:=fun h=>hr (hq r h);simp only [this,if_false];cases k[r]? <;> rfl
theorem VM {B b:Nat}{ss ss':List Nat}{D D':List (Nat×Path)}{h1 h0 k0 hf:List Ob}{v u:AV}(ha:Fg rs h0 k0)(hst:∀s∈ss,b+s∈rs)(hg:O5 B h1 b D ss h0 v=some (u,D',ss',hf)) :
 ∃kf,O5 B h1 b D ss k0 v=some (u,D',ss',kf)∧E1 rs hf k0 kf∧∀s∈ss',b+s∈rs:=by
 unfold O5 at hg ⊢;split at hg
 ·simp only [Option.some.injEq,Prod.mk.injEq] at hg;obtain ⟨rfl,rfl,rfl,rfl⟩:=hg;exact ⟨k0,rfl,E1.refl ha,fun s hs=>hst s (List.mem_of_mem_tail hs)⟩
 ·simp only [Option.some.injEq,Prod.mk.injEq] at hg;obtain ⟨rfl,rfl,rfl,rfl⟩:=hg;exact ⟨k0,rfl,E1.refl ha,fun s hs=>hst s (List.mem_of_mem_tail hs)⟩
 ·rename_i r st p sb off len;split at hg
  ·rename_i s ss;split at hg
   ·rename_i hc;simp only [if_pos hc];cases hnd:node h1 r st p sb with
    | none=>simp [hnd] at hg
    | some nd =>
      cases nd<;>simp only [hnd,reduceCtorEq] at hg ⊢;rename_i es ys;split at hg
      ·rename_i hc2;simp only [if_pos hc2];cases hnew:newOb h0 (b+s) (.own es ys) with
       | none=>simp [hnew] at hg
       | some q =>
         obtain ⟨hh,st'⟩:=q;simp only [hnew,Option.some.injEq,Prod.mk.injEq] at hg;obtain ⟨rfl,rfl,rfl,rfl⟩:=hg;obtain ⟨k',e1,e2⟩:=newOb_loc ha (hst s (by simp)) hnew;exact ⟨k',by rw [e1],e2,fun s hs=>hst s (List.mem_cons_of_mem _ hs)⟩
      ·cases hg
   ·cases hg
  ·cases hg
 ·split at hg
  ·rename_i hfl;simp only [Option.some.injEq,Prod.mk.injEq] at hg;obtain ⟨rfl,rfl,rfl,rfl⟩:=hg;exact ⟨k0,by simp only [if_pos hfl],E1.refl ha,hst⟩
  ·cases hg
theorem giveC_loc {B b:Nat}{h1:List Ob}:∀(vs:List AV) {ss ss':List Nat}{D D':List (Nat×Path)}{h0 k0 hf:List Ob}{us:List AV},Fg rs h0 k0→(∀s∈ss,b+s∈rs)→Ng B h1 b D ss h0 vs=some (us,D',ss',hf) →
 ∃kf,Ng B h1 b D ss k0 vs=some (us,D',ss',kf)∧E1 rs hf k0 kf∧∀s∈ss',b+s∈rs
 | [],ss,ss',D,D',h0,k0,hf,us,ha,hst,hg=>by
   simp only [Ng,Option.some.injEq,Prod.mk.injEq] at hg ⊢;obtain ⟨rfl,rfl,rfl,rfl⟩:=hg;exact ⟨k0,⟨rfl,rfl,rfl,rfl⟩,E1.refl ha,hst⟩
 | v::vs,ss,ss',D,D',h0,k0,hf,us,ha,hst,hg=>by
   simp only [Ng] at hg ⊢;split at hg
   ·rename_i u D1 ss1 hh e1;split at hg
    ·rename_i us1 D2 ss2 hh2 e2;simp only [Option.some.injEq,Prod.mk.injEq] at hg;obtain ⟨rfl,rfl,rfl,rfl⟩:=hg;obtain ⟨k1,a1,a2,a3⟩:=VM ha hst e1;obtain ⟨k2,b1,b2,b3⟩:=giveC_loc vs a2.alike a3 e2;exact ⟨k2,by rw [a1];simp only [b1],a2.trans b2,b3⟩
    ·cases hg
   ·cases hg
theorem giveL_loc {B b:Nat}{h1:List Ob}:∀(vs:List AV) {ss ss':List Nat}{D D':List (Nat×Path)}{h0 k0 hf:List Ob}{us:List AV},Fg rs h0 k0→(∀s∈ss,b+s∈rs)→Ms B h1 b D ss h0 vs=some (us,D',ss',hf) →
 ∃kf,Ms B h1 b D ss k0 vs=some (us,D',ss',kf)∧E1 rs hf k0 kf∧∀s∈ss',b+s∈rs
 | [],ss,ss',D,D',h0,k0,hf,us,ha,hst,hg=>by
   simp only [Ms,Option.some.injEq,Prod.mk.injEq] at hg ⊢;obtain ⟨rfl,rfl,rfl,rfl⟩:=hg;exact ⟨k0,⟨rfl,rfl,rfl,rfl⟩,E1.refl ha,hst⟩
 | v::vs,ss,ss',D,D',h0,k0,hf,us,ha,hst,hg=>by
   simp only [Ms] at hg ⊢;split at hg
   ·rename_i u D1 ss1 hh e1;split at hg
    ·rename_i us1 D2 ss2 hh2 e2;simp only [Option.some.injEq,Prod.mk.injEq] at hg;obtain ⟨rfl,rfl,rfl,rfl⟩:=hg;split at e1
     ·rename_i xs;split at e1
      ·rename_i us0 x0 e0;simp only [Option.some.injEq,Prod.mk.injEq] at e1;obtain ⟨rfl,rfl⟩:=e1;obtain ⟨k1,a1,a2,a3⟩:=giveC_loc xs ha hst e0;obtain ⟨k2,b1,b2,b3⟩:=giveL_loc vs a2.alike a3 e2;exact ⟨k2,by simp only [a1,b1],a2.trans b2,b3⟩
      ·cases e1
     ·obtain ⟨k1,a1,a2,a3⟩:=VM ha hst e1;obtain ⟨k2,b1,b2,b3⟩:=giveL_loc vs a2.alike a3 e2;refine ⟨k2,?_,a2.trans b2,b3⟩;simp only [a1,b1]
    ·cases hg
   ·cases hg
theorem give_loc {fo:Bool}{B b:Nat}{ss:List Nat}{h1 h0 k0 hf:List Ob}{xs:List AV}{v:AV}(ha:Fg rs h0 k0)(hst:∀s∈ss,b+s∈rs)(hg:NQ fo B h1 h0 b ss xs=some (v,hf)) :
 ∃kf,NQ fo B h1 k0 b ss xs=some (v,kf)∧E1 rs hf k0 kf:=by
 unfold NQ at hg ⊢;split at hg
 ·rename_i r st p s2 off len s;split at hg
  ·rename_i hB;rw [if_pos hB];cases hnd:node h1 r st p s2 with
   | none=>simp [hnd] at hg
   | some nd =>
     cases nd<;>simp only [hnd,reduceCtorEq] at hg ⊢;rename_i es ys;split at hg
     ·rename_i hc;rw [if_pos hc];cases hnew:newOb h0 (b+s) (.own es ys) with
      | none=>simp [hnew] at hg
      | some p =>
        obtain ⟨hh,st'⟩:=p;simp only [hnew,Option.some.injEq,Prod.mk.injEq] at hg;obtain ⟨rfl,rfl⟩:=hg;obtain ⟨k',e1,e2⟩:=newOb_loc ha (hst s (by simp)) hnew;exact ⟨k',by rw [e1],e2⟩
     ·cases hg
  ·rename_i hB;rw [if_neg hB];simp only [Option.some.injEq,Prod.mk.injEq] at hg;obtain ⟨rfl,rfl⟩:=hg;exact ⟨k0,rfl,E1.refl ha⟩
 ·rename_i r st p s2 off len κ n s;split at hg
  ·rename_i hB;rw [if_pos hB];cases hnd:node h1 r st p s2 with
   | none=>simp [hnd] at hg
   | some nd =>
     cases nd<;>simp only [hnd,reduceCtorEq] at hg ⊢;rename_i es ys;split at hg
     ·rename_i hc;rw [if_pos hc];cases hnew:newOb h0 (b+s) (.own es ys) with
      | none=>simp [hnew] at hg
      | some p =>
        obtain ⟨hh,st'⟩:=p;simp only [hnew,Option.some.injEq,Prod.mk.injEq] at hg;obtain ⟨rfl,rfl⟩:=hg;obtain ⟨k',e1,e2⟩:=newOb_loc ha (hst s (by simp)) hnew;exact ⟨k',by rw [e1],e2⟩
     ·cases hg
  ·cases hg
 ·rename_i κ n r st p s2 off len s;split at hg
  ·rename_i hB;rw [if_pos hB];cases hnd:node h1 r st p s2 with
   | none=>simp [hnd] at hg
   | some nd =>
     cases nd<;>simp only [hnd,reduceCtorEq] at hg ⊢;rename_i es ys;split at hg
     ·rename_i hc;rw [if_pos hc];cases hnew:newOb h0 (b+s) (.own es ys) with
      | none=>simp [hnew] at hg
      | some p =>
        obtain ⟨hh,st'⟩:=p;simp only [hnew,Option.some.injEq,Prod.mk.injEq] at hg;obtain ⟨rfl,rfl⟩:=hg;obtain ⟨k',e1,e2⟩:=newOb_loc ha (hst s (by simp)) hnew;exact ⟨k',by rw [e1],e2⟩
     ·cases hg
  ·rename_i hB;rw [if_neg hB];simp only [Option.some.injEq,Prod.mk.injEq] at hg;obtain ⟨rfl,rfl⟩:=hg;exact ⟨k0,rfl,E1.refl ha⟩
 ·simp only [Option.some.injEq,Prod.mk.injEq] at hg;obtain ⟨rfl,rfl⟩:=hg;exact ⟨k0,rfl,E1.refl ha⟩
 ·simp only [Option.some.injEq,Prod.mk.injEq] at hg;obtain ⟨rfl,rfl⟩:=hg;exact ⟨k0,rfl,E1.refl ha⟩
 ·simp only [Option.some.injEq,Prod.mk.injEq] at hg;obtain ⟨rfl,rfl⟩:=hg;exact ⟨k0,rfl,E1.refl ha⟩
 ·simp only [Option.some.injEq,Prod.mk.injEq] at hg;obtain ⟨rfl,rfl⟩:=hg;exact ⟨k0,rfl,E1.refl ha⟩
 ·split at hg
  ·rename_i vs D' ss' hf' e;simp only [Option.some.injEq,Prod.mk.injEq] at hg;obtain ⟨rfl,rfl⟩:=hg;obtain ⟨kf,e1,e2,_⟩:=giveL_loc xs ha hst e;exact ⟨kf,by simp only [e1],e2⟩
  ·cases hg
 ·simp only [Option.some.injEq,Prod.mk.injEq] at hg;obtain ⟨rfl,rfl⟩:=hg;exact ⟨k0,rfl,E1.refl ha⟩
end
theorem AdW {G:Prg}{n:Nat}{f:FuncId}{F:IF}(hf:G f=some F)(hp:F.pure=true){xs:List AV}{b:Nat}{ss:List Nat}{σ τ σ':St}{rs:List Nat}{v:AV}(ha:Fg rs σ.h τ.h)(hn:∀r∈rootsL xs,r∈rs)(hst:∀s∈ss,b+s∈rs)
 (hx:callF G n f xs b ss σ=some (v,σ')):∃k',callF G n f xs b ss τ=some (v,{ τ with h:=k' })∧E1 rs σ'.h τ.h k'∧σ' = { σ with h:=σ'.h }:=by
 cases n with
 | zero=>simp [callF] at hx
 | succ n =>
   simp only [callF,hf,hp,if_true] at hx ⊢;rw [J4 ha 0 xs hn];split at hx
   ·rename_i hl;rw [if_pos hl];by_cases hsp:splits F (treeBL 0 σ.h xs)=true
    ·rw [if_pos hsp] at hx ⊢;split at hx
     ·rename_i y1 σ1 y2 σ2 e1 e2;split at hx
      ·rename_i hv
       try rw [if_pos hv]
       simp only [Option.some.injEq,Prod.mk.injEq] at hx;obtain ⟨rfl,rfl⟩:=hx;exact ⟨τ.h,rfl,E1.refl ha,rfl⟩
      ·cases hx
     ·cases hx
    rw [if_neg hsp] at hx ⊢;cases hr:runF G n F (treeBL 0 σ.h xs) [] [] with
    | none=>simp [hr] at hx
    | some p =>
      obtain ⟨rr,σ1⟩:=p;simp only [hr] at hx;have h0:E1 rs (if xs.all AV.free||rr.all AV.flats then σ.h else At σ.h (rootsL xs)) τ.h (if xs.all AV.free||rr.all AV.flats then τ.h else At τ.h (rootsL xs)):=by
       split
       ·exact E1.refl ha
       ·exact TA ha hn
      cases hg:NQ (F.fo && !ss.isEmpty) 0 σ1.h (if xs.all AV.free||rr.all AV.flats then σ.h else At σ.h (rootsL xs)) b ss rr with
      | none=>simp only [hg] at hx;cases hx
      | some q =>
        obtain ⟨v1,hh⟩:=q;simp only [hg,Option.some.injEq,Prod.mk.injEq] at hx;obtain ⟨rfl,rfl⟩:=hx;obtain ⟨kf,e1,e2⟩:=give_loc h0.alike hst hg;exact ⟨kf,by simp only [e1],h0.trans e2,rfl⟩
   ·cases hx
end Go.Mw
namespace Go.Mw
def shp:AV→Option (Nat×Nat)
 | .own es xs=>some (es,xs.length)
 | _=>none
theorem Ahb (p:Path):∀(x v x':AV),(∀cs,v≠.agg cs)→upd x p v=some x'→∀q,¬p <+: q→(nav x' q).bind shp=(nav x q).bind shp:=by
 induction p with
 | nil=>intro x v x' _ h q hn;exact absurd List.nil_prefix hn
 | cons a p ih =>
   obtain ⟨i,j⟩:=a;intro x v x' hv h q hn;obtain ⟨es,xs,e,c,c',rfl,he,hc,hu,rfl⟩:=(FO ..).1 h;have hi:i<xs.length:=List.lt_of_some he;have hj:j<e.cells.length:=List.lt_of_some hc;have hc':∀cs,c'≠.agg cs:=by
    cases p with
    | nil=>rw [F7] at hu;cases hu;exact hv
    | cons a p =>
      obtain ⟨i',j'⟩:=a;obtain ⟨_,_,_,_,_,_,_,_,_,rfl⟩:=(FO ..).1 hu;intro cs h;cases h
   have hcs:=CW e j c' hc';cases q with
   | nil=>simp only [nav_nil,Option.bind_some,shp,List.length_set]
   | cons b q =>
     obtain ⟨i',j'⟩:=b;by_cases ei:i'=i
     ·subst ei;simp only [nav,List.getElem?_set_self hi,he];rw [hcs.2 hj j'];by_cases ej:j'=j
      ·subst ej;rw [if_pos rfl,hc];exact ih _ _ _ hv hu q (fun hpq=>hn (by obtain ⟨t,rfl⟩:=hpq;exact ⟨t,rfl⟩))
      ·rw [if_neg ej]
     ·simp only [nav,List.getElem?_set_ne (fun h=>ei h.symm)]
def ST:AV→Option (List (AV×AV))
 | .ownm es=>some es
 | _=>none
theorem AhT (p:Path):∀(x v x':AV),(∀cs,v≠.agg cs)→upd x p v=some x'→∀q,¬p <+: q→(nav x' q).bind ST=(nav x q).bind ST:=by
 induction p with
 | nil=>intro x v x' _ h q hn;exact absurd List.nil_prefix hn
 | cons a p ih =>
   obtain ⟨i,j⟩:=a;intro x v x' hv h q hn;obtain ⟨es,xs,e,c,c',rfl,he,hc,hu,rfl⟩:=(FO ..).1 h;have hi:i<xs.length:=List.lt_of_some he;have hj:j<e.cells.length:=List.lt_of_some hc;have hc':∀cs,c'≠.agg cs:=by
    cases p with
    | nil=>rw [F7] at hu;cases hu;exact hv
    | cons a p =>
      obtain ⟨i',j'⟩:=a;obtain ⟨_,_,_,_,_,_,_,_,_,rfl⟩:=(FO ..).1 hu;intro cs h;cases h
   have hcs:=CW e j c' hc';cases q with
   | nil=>simp only [nav_nil,Option.bind_some,ST]
   | cons b q =>
     obtain ⟨i',j'⟩:=b;by_cases ei:i'=i
     ·subst ei;simp only [nav,List.getElem?_set_self hi,he];rw [hcs.2 hj j'];by_cases ej:j'=j
      ·subst ej;rw [if_pos rfl,hc];exact ih _ _ _ hv hu q (fun hpq=>hn (by obtain ⟨t,rfl⟩:=hpq;exact ⟨t,rfl⟩))
      ·rw [if_neg ej]
     ·simp only [nav,List.getElem?_set_ne (fun h=>ei h.symm)]
def atO (q:Path)(o:Ob):Nat×Nat×Option (Nat×Nat):=(o.st,o.ss,(nav o.c q).bind shp)
theorem Afp {h h':List Ob}{r:Nat}{p:Path}{v:AV}(hv:∀cs,v≠.agg cs)(hs:setOb h r p v false=some h'){q:Path}(hq:¬p <+: q)(r':Nat):(h'[r']?).map (atO q)=(h[r']?).map (atO q):=by
 obtain ⟨o,c,h1,h2,rfl⟩:=Cc hs;by_cases e:r=r'
 ·subst e;rw [List.getElem?_set_self (List.lt_of_some h1),h1];simp only [Option.map_some,atO,Bool.false_eq_true,if_false,Ahb p _ _ _ hv h2 q hq]
 ·rw [List.getElem?_set_ne e]
theorem gone_ne:∀cs,AV.gone≠.agg cs:=by intro cs h;cases h
theorem appY_at {h h':List Ob}{es:Nat}{y:AV}{ys:List AV}(hs:appY h es y=some (ys,h')){r:Nat}(hr:r∉rootsOf y):h'[r]? = h[r]? := by
 cases y<;>simp only [appY,reduceCtorEq,Option.some.injEq,Prod.mk.injEq] at hs
 case nils=>rw [hs.2]
 case emp=>rw [hs.2]
 case ne=>rw [hs.2]
 case lst xs =>
  split at hs
  ·simp only [Option.some.injEq,Prod.mk.injEq] at hs;rw [hs.2]
  ·cases hs
 case sl r0 st p ss off len =>
  have hne:r0≠r:=fun e=>hr (by simp [rootsOf,e]);split at hs
  ·split at hs
   ·simp only [Option.some.injEq,Prod.mk.injEq] at hs;rw [hs.2]
   ·split at hs
    ·cases hso:setOb h r0 p .gone false with
     | none=>simp [hso] at hs
     | some hh =>
       simp only [hso,Option.map_some,Option.some.injEq,Prod.mk.injEq] at hs;obtain ⟨o,c,h1,h2,rfl⟩:=Cc hso;rw [←hs.2,List.getElem?_set_ne hne]
    ·cases hs
  ·cases hs
theorem appX_at {h h':List Ob}{es:Nat}{x:AV}{xs:List AV}(hs:appX h es x=some (xs,h')){r:Nat}{q:Path}(hr:∀st p ss off len,x = .sl r st p ss off len→¬p <+: q):(h'[r]?).map (atO q)=(h[r]?).map (atO q):=by
 unfold appX at hs;split at hs
 ·simp only [Option.some.injEq,Prod.mk.injEq] at hs;rw [hs.2]
 ·simp only [Option.some.injEq,Prod.mk.injEq] at hs;rw [hs.2]
 ·simp only [Option.some.injEq,Prod.mk.injEq] at hs;rw [hs.2]
 ·rename_i r0 st p ss off len;split at hs
  ·split at hs
   ·cases hso:setOb h r0 p .gone false with
    | none=>simp [hso] at hs
    | some hh =>
      simp only [hso,Option.map_some,Option.some.injEq,Prod.mk.injEq] at hs;rw [←hs.2];by_cases e:r0=r
      ·subst e;exact Afp gone_ne hso (hr _ _ _ _ _ rfl) _
      ·obtain ⟨o,c,h1,h2,rfl⟩:=Cc hso;rw [List.getElem?_set_ne e]
   ·cases hs
  ·cases hs
 ·cases hs
theorem app_at {b s es bytes:Nat}{x y:Opd}{σ:St}{v:AV}{h':List Ob}(hx:ax b (.app s es bytes x y) σ=some (v,h')){r:Nat}{q:Path}(h1:r≠b+s)(h2:r∉rootsOf (σ.get y))(h3:∀st p ss off len,σ.get x = .sl r st p ss off len→¬p <+: q) :
 (h'[r]?).map (atO q)=(σ.h[r]?).map (atO q):=by
 simp only [ax] at hx;cases hy:appY σ.h es (σ.get y) with
 | none=>simp [hy] at hx
 | some py =>
   obtain ⟨ys,ha⟩:=py;simp only [hy] at hx;cases hxx:appX ha es (σ.get x) with
   | none=>simp [hxx] at hx
   | some px =>
     obtain ⟨xs,hb⟩:=px;simp only [hxx] at hx;have e1:=appY_at hy h2;have e2:=appX_at hxx h3;rw [e1] at e2;split at hx
     ·split at hx<;>first|(simp only [Option.some.injEq,Prod.mk.injEq] at hx;rw [←hx.2];exact e2)|cases hx
     ·split at hx
      ·cases hn:newOb hb (b+s) (.own es (xs++ys)) with
       | none=>simp [hn] at hx
       | some pn =>
         obtain ⟨hc,st⟩:=pn;simp only [hn,Option.some.injEq,Prod.mk.injEq] at hx;obtain ⟨o,_,_,_,rfl⟩:=A9 hn;rw [←hx.2,List.getElem?_set_ne (fun e=>h1 e.symm)];exact e2
      ·cases hx
theorem node_at_shape {h k:List Ob}{r st ss:Nat}{p:Path}{es:Nat}{xs:List AV}(hn:node h r st p ss=some (.own es xs))(ha:(k[r]?).map (atO p)=(h[r]?).map (atO p)):∃ys,node k r st p ss=some (.own es ys)∧ys.length=xs.length:=by
 rw [Bf] at hn;obtain ⟨o,h1,h2,h3,h4⟩:=hn;rw [h1,Option.map_some] at ha;cases hk:k[r]? with
 | none=>simp [hk] at ha
 | some o' =>
   simp only [hk,Option.map_some,Option.some.injEq,atO,Prod.mk.injEq,h4,Option.bind_some,shp] at ha;obtain ⟨a1,a2,a3⟩:=ha;cases hnv:nav o'.c p with
   | none=>simp [hnv] at a3
   | some nd =>
     simp only [hnv,Option.bind_some] at a3;cases nd<;>simp only [shp,reduceCtorEq,Option.some.injEq,Prod.mk.injEq] at a3;rename_i es' ys;obtain ⟨rfl,hl⟩:=a3;refine ⟨ys,Bf.2 ⟨o',hk,by rw [a1];exact h2,?_,hnv⟩,hl⟩;rcases h3 with h3|h3
     ·exact .inl h3
     ·exact .inr (by rw [a2];exact h3)
def AfN (i:Ins)(σ:St):Option (Nat×Path) :=
 match i with
 | .fad _ x=>match σ.get x with
   | .ptr r _ p _ _ _=>some (r,p)
   | _=>none
 | .iad _ x _=>match σ.get x with
   | .sl r _ p _ _ _=>some (r,p)
   | _=>none
 | _=>none
theorem AjK {b:Nat}{i:Ins}{σ τ:St}{r:Nat}{p:Path}(hl:AfN i σ=some (r,p))(ho:∀x∈i.opds,τ.get x=σ.get x){v:AV}{h':List Ob}(hx:ax b i σ=some (v,h'))(ha:(τ.h[r]?).map (atO p)=(σ.h[r]?).map (atO p)):h'=σ.h∧ax b i τ=some (v,τ.h):=by
 cases i<;>simp only [AfN,reduceCtorEq] at hl
 case fad off x =>
  have hox:=ho x (by simp [Ins.opds]);simp only [ax,hox] at hx ⊢;cases hg:σ.get x<;>simp only [hg,reduceCtorEq,Option.some.injEq,Prod.mk.injEq] at hl hx ⊢;rename_i r' st p' ss i j;obtain ⟨e1,e2⟩:=hl;rw [←e1,←e2] at ha;cases hn:node σ.h r' st p' ss with
  | none=>simp [hn] at hx
  | some nd =>
    cases nd<;>simp only [hn,reduceCtorEq,Option.some.injEq,Prod.mk.injEq] at hx;obtain ⟨ys,e3,_⟩:=node_at_shape hn ha;rw [e3];exact ⟨hx.2.symm,by simp only [hx.1]⟩
 case iad es x k =>
  have hox:=ho x (by simp [Ins.opds]);have hok:=ho k (by simp [Ins.opds]);simp only [ax,hox,hok] at hx ⊢;cases hg:σ.get x<;>simp only [hg,reduceCtorEq,Option.some.injEq,Prod.mk.injEq] at hl hx ⊢;rename_i r' st p' ss off len;obtain ⟨e1,e2⟩:=hl;rw [←e1,←e2] at ha;cases hk:σ.get k<;>simp only [hk,reduceCtorEq] at hx ⊢;rename_i kk n;split at hx
  ·rename_i hc;rw [if_pos hc];cases hn:node σ.h r' st p' ss with
   | none=>simp [hn] at hx
   | some nd =>
     cases nd<;>simp only [hn,reduceCtorEq] at hx;obtain ⟨ys,e3,_⟩:=node_at_shape hn ha;rw [e3];simp only;split at hx
     ·rename_i he;rw [if_pos he];simp only [Option.some.injEq,Prod.mk.injEq] at hx;exact ⟨hx.2.symm,by rw [hx.1]⟩
     ·cases hx
  ·cases hx
theorem ld_at {b:Nat}{a:Opd}{σ τ:St}{r st ss i j es:Nat}{p:Path}{xs:List AV}(hg:σ.get a = .ptr r st p ss i j)(hg2:τ.get a = .ptr r st p ss i j)(hc:nodeAt σ.h r (p++[(i,j)])=some (.own es xs)){v:AV}{h':List Ob}(hx:ax b (.ld false 1 a) σ=some (v,h'))
 (ha:(τ.h[r]?).map (atO (p++[(i,j)]))=(σ.h[r]?).map (atO (p++[(i,j)]))):h'=σ.h∧ax b (.ld false 1 a) τ=some (v,τ.h):=by
 have key:∀ {h:List Ob}{o:Ob}{ys:List AV},h[r]? = some o→o.st=st→(p = []∨o.ss=ss)→nav o.c (p++[(i,j)])=some (.own es ys) →
  ∃(es1:Nat) (xs1:List AV) (e:AV),node h r st p ss=some (.own es1 xs1)∧xs1[i]? = some e∧j+1≤e.cells.length∧(e.cells.drop j).take 1 = [AV.own es ys]:=by
  intro h o ys h1 h2 h3 h4;obtain ⟨nd,g1,g2⟩:=Vm p [(i,j)] _ _ h4;obtain ⟨es',xs',e,c,rfl,he,hc,hq⟩:=(AF ..).1 g2;rw [nav_nil] at hq;cases hq;have hj:j<e.cells.length:=List.lt_of_some hc;refine ⟨es',xs',e,Bf.2 ⟨o,h1,h2,h3,g1⟩,he,hj,?_⟩;rw [List.drop_eq_getElem_cons hj];rw [List.getElem?_eq_getElem hj] at hc;simp only [Option.some.injEq] at hc;simp [hc]
 simp only [ax,hg,hg2] at hx ⊢;obtain ⟨o,h1,h4⟩:=Ac.1 hc;cases hn:node σ.h r st p ss with
 | none=>simp [hn] at hx
 | some nd =>
   obtain ⟨o2,q1,q2,q3,_⟩:=Bf.1 hn;rw [h1] at q1;cases q1;obtain ⟨es1,xs1,e,k1,k2,k3,k4⟩:=key h1 q2 q3 h4;rw [h1] at ha;cases hk:τ.h[r]? with
   | none=>simp [hk] at ha
   | some o' =>
     simp only [hk,Option.map_some,Option.some.injEq,atO,Prod.mk.injEq,h4,Option.bind_some,shp] at ha;obtain ⟨a1,a2,a3⟩:=ha;cases hnv:nav o'.c (p++[(i,j)]) with
     | none=>simp [hnv] at a3
     | some nd' =>
       simp only [hnv,Option.bind_some] at a3;cases nd'<;>simp only [shp,reduceCtorEq,Option.some.injEq,Prod.mk.injEq] at a3;rename_i es' ys;obtain ⟨rfl,hl⟩:=a3;obtain ⟨es2,xs2,e',m1,m2,m3,m4⟩:=key hk (by rw [a1];exact q2) (by rw [a2];exact q3) hnv;rw [k1] at hn;cases hn;simp only [k1,h1,k2,k3,if_true,k4,outL,outv,Bool.false_eq_true,if_false,Option.some.injEq,Prod.mk.injEq] at hx;simp only [m1,m2,m3,if_true,m4,outL,outv,Bool.false_eq_true,if_false,Option.some.injEq,Prod.mk.injEq,and_true];exact ⟨hx.2.symm,by rw [hl,a2];exact hx.1⟩
def Tx (kk:KK)(z:AV)(es:List (AV×AV))(k:AV):Option AV:=match findK kk k es with
 | some (some i)=>(es[i]?).map (·.2)
 | some none=>some z
 | none=>none
def Zz (kk:KK)(z:AV)(p:Path)(o:Ob):Nat×Nat×Option (AV→Option AV):=(o.st,o.ss,((nav o.c p).bind ST).map (Tx kk z))
inductive Loc where
 | tmp (n:Nat)|root (r:Nat)|lps|view (r:Nat) (p:Path) (kk:KK) (z:AV)|shp (r:Nat) (q:Path)
inductive Vl where
 | t (o:Option AV)|r (o:Option Ob)|l (x:List Lp)|v  (o:Option (Nat×Nat×Option (AV→Option AV)))|a (o:Option (Nat×Nat×Option (Nat×Nat)))
def valS (σ:St):Loc→Vl
 | .tmp n=>.t σ.t[n]?
 | .root r=>.r σ.h[r]?
 | .lps=>.l σ.lp
 | .view r p kk z=>.v ((σ.h[r]?).map (Zz kk z p))
 | .shp r q=>.a ((σ.h[r]?).map (atO q))
theorem Y2 {σ τ:St}(h:∀x,valS σ x=valS τ x):σ=τ:=by
 obtain ⟨t,hh,l⟩:=σ;obtain ⟨t',hh',l'⟩:=τ;have h1:t=t':=List.ext_getElem? fun n=>by have:=h (.tmp n);simpa [valS] using this
 have h2:hh=hh':=List.ext_getElem? fun n=>by have:=h (.root n);simpa [valS] using this
 have h3:l=l':=by have:=h .lps;simpa [valS] using this
 rw [h1,h2,h3]
def ropE (f:Ins→Nat→St→Option (AV×St))(b:Nat)(r:Rop)(σ:St):Option St :=
 match wantedO r.g σ with
 | some true=>match f r.i b σ with
   | some (v,σ1)=>some (σ1.put r.d v)
   | none=>none
 | some false=>some (σ.put r.d (.tup []))
 | none=>none
theorem Aca (f:Ins→Nat→St→Option (AV×St))(b:Nat)(r:Rop)(rs:List Rop)(σ:St):J8 f (r::rs) b σ=match ropE f b r σ with
 | some σ1=>J8 f rs b σ1
 | none=>none:=by
 simp only [J8,ropE];cases wantedO r.g σ with
 | none=>rfl
 | some w =>
   cases w with
   | false=>rfl
   | true=>simp only [];cases f r.i b σ with
     | none=>rfl
     | some p=>rfl
def Ul (G:Prg)(b:Nat)(r:Rop)(σ:St):Option (List Nat) :=
 match wantedO r.g σ with
 | some true=>foot G b r.i σ
 | _=>some []
theorem AcN (G:Prg)(f:Ins→Nat→St→Option (AV×St))(b:Nat)(r:Rop)(rs:List Rop)(σ:St){σ':St}{fs:List (Option (List Nat))}(h:drwE G f (r::rs) b σ=some (σ',fs)) :
 ∃σ1 fs',ropE f b r σ=some σ1∧drwE G f rs b σ1=some (σ',fs')∧fs=Ul G b r σ::fs':=by
 simp only [drwE] at h;split at h
 ·rename_i hw;split at h
  ·rename_i v σ1 hf;split at h
   ·rename_i σ2 fs' hd;simp only [Option.some.injEq,Prod.mk.injEq] at h;obtain ⟨rfl,rfl⟩:=h;exact ⟨σ1.put r.d v,fs',by simp only [ropE,hw,hf],hd,by simp only [Ul,hw]⟩
   ·cases h
  ·cases h
 ·rename_i hw;split at h
  ·rename_i σ2 fs' hd;simp only [Option.some.injEq,Prod.mk.injEq] at h;obtain ⟨rfl,rfl⟩:=h;exact ⟨σ.put r.d (.tup []),fs',by simp only [ropE,hw],hd,by simp only [Ul,hw]⟩
  ·cases h
 ·cases h
theorem drwE_run (G:Prg)(f:Ins→Nat→St→Option (AV×St))(b:Nat):∀(rs:List Rop) (σ σ':St) (fs:List (Option (List Nat))),drwE G f rs b σ=some (σ',fs) →
 ∃st:Nat→St,st 0=σ∧st rs.length=σ'∧fs.length=rs.length∧(∀k r,rs[k]? = some r→ropE f b r (st k)=some (st (k+1))∧fs[k]? = some (Ul G b r (st k)))∧(∀k r,rs[k]? = some r→wantedO r.g (st k)=some true→(Wf f rs b σ)[k]? = some (RR b r.i (st k))):=by
 intro rs;induction rs with
 | nil =>
   intro σ σ' fs h;simp only [drwE,Option.some.injEq,Prod.mk.injEq] at h;obtain ⟨rfl,rfl⟩:=h;exact ⟨fun _=>σ,rfl,rfl,rfl,fun k r h=>by simp at h,fun k r h=>by simp at h⟩
 | cons r rs ih =>
   intro σ σ' fs h;obtain ⟨σ1,fs',h1,h2,rfl⟩:=AcN G f b r rs σ h;obtain ⟨st,s0,sN,hl,hst,hsf⟩:=ih σ1 σ' fs' h2;refine ⟨fun k=>match k with|0=>σ|k+1=>st k,rfl,sN,by simp [hl],fun k r' hk=>?_,fun k r' hk hw=>?_⟩
   ·cases k with
    | zero=>simp at hk;subst hk;exact ⟨by rw [h1,←s0],rfl⟩
    | succ k=>exact hst k r' (by simpa using hk)
   ·have hs:∀w,wantedO r.g σ=some w→Wf f (r::rs) b σ=(if w then RR b r.i σ else .no)::Wf f rs b σ1:=by
     intro w hw;simp only [ropE,hw] at h1;simp only [Wf,hw];cases w with
     | false=>simp only [Option.some.injEq] at h1;subst h1;rfl
     | true =>
       simp only at h1 ⊢;cases hf:f r.i b σ with
       | none=>simp [hf] at h1
       | some p=>simp only [hf,Option.some.injEq] at h1;subst h1;rfl
    cases k with
    | zero=>simp at hk;subst hk;simp only at hw;rw [hs _ hw];rfl
    | succ k =>
      cases hw0:wantedO r.g σ with
      | none=>simp [ropE,hw0] at h1
      | some w=>rw [hs _ hw0];exact hsf k r' (by simpa using hk) hw
theorem Aik {G:Prg}{n:Nat}{f:FuncId}{xs:List AV}{b:Nat}{ss:List Nat}{σ σ':St}{v:AV}(t:List AV)(h:callF G n f xs b ss σ=some (v,σ')):callF G n f xs b ss { σ with t }=some (v,{ σ' with t })∧σ'.t=σ.t:=by
 cases n with
 | zero=>simp [callF] at h
 | succ n =>
   simp only [callF] at h ⊢;cases hF:G f with
   | none=>simp [hF] at h
   | some F =>
     simp only [hF] at h ⊢;split at h
     ·rename_i hl;rw [if_pos hl];split at h
      ·rename_i hp;rw [if_pos hp];by_cases hsp:splits F (treeBL 0 σ.h xs)=true
       ·rw [if_pos hsp] at h ⊢;split at h
        ·split at h
         ·rename_i hv;simp only [Option.some.injEq,Prod.mk.injEq] at h;obtain ⟨rfl,rfl⟩:=h;exact ⟨by first|rfl|simp only [hv,if_true],rfl⟩
         ·cases h
        ·cases h
       rw [if_neg hsp] at h ⊢;split at h
       ·rename_i rr σ1 hr
        try simp only [hr]
        split at h
        ·rename_i v1 hh hg;simp only [Option.some.injEq,Prod.mk.injEq] at h;obtain ⟨rfl,rfl⟩:=h;exact ⟨by simp only [hg],rfl⟩
        ·cases h
       ·cases h
      ·rename_i hp;rw [if_neg hp];split at h
       ·rename_i rr σ1 hr
        try simp only [hr]
        split at h
        ·rename_i v1 hh hg;simp only [Option.some.injEq,Prod.mk.injEq] at h;obtain ⟨rfl,rfl⟩:=h;exact ⟨by simp only [hg],rfl⟩
        ·cases h
       ·cases h
     ·cases h
theorem yieldF_t {G:Prg}{n l:Nat}{xs:List AV}{σ σ':St}{v:AV}(t:List AV)(h:yieldF G n l xs σ=some (v,σ')):yieldF G n l xs { σ with t }=some (v,{ σ' with t })∧σ'.t=σ.t:=by
 cases n with
 | zero=>simp [yieldF] at h
 | succ n =>
   simp only [yieldF] at h ⊢;cases hl:σ.lp[l]? with
   | none=>simp [hl] at h
   | some lp =>
     simp only [hl] at h ⊢;split at h
     ·rename_i hc;rw [if_pos hc];split at h
      ·rename_i σ1 h1
       try simp only [h1]
       split at h
       ·rename_i lp1 h2
        try simp only [h2]
        split at h
        ·rename_i hc2;rw [if_pos hc2];split at h
         ·rename_i e σ2 h3
          try simp only [h3]
          split at h
          ·rename_i lp2 h4
           try simp only [h4]
           simp only [Option.some.injEq,Prod.mk.injEq] at h;obtain ⟨rfl,rfl⟩:=h;exact ⟨rfl,rfl⟩
          ·cases h
         ·cases h
        ·cases h
       ·cases h
      ·cases h
     ·cases h
def footL (fo:Option (List Nat)):Loc→Prop
 | .tmp _=>False
 | .root r=>match fo with
   | some fs=>r∈fs
   | none=>True
 | .lps=>fo=none
 | .view r _ _ _=>match fo with
   | some fs=>r∈fs
   | none=>True
 | .shp r _=>match fo with
   | some fs=>r∈fs
   | none=>True
theorem Adu {G:Prg}{n:Nat}{i:Ins}{b:Nat}{σ σ1 τ:St}{v:AV}(hx:evO G n i b σ=some (v,σ1))(ho:∀x∈i.opds,τ.get x=σ.get x)(hf:∀x,footL (foot G b i σ) x→valS τ x=valS σ x) :
 ∃τ1,evO G n i b τ=some (v,τ1)∧τ1.t=τ.t∧σ1.t=σ.t∧(∀x,footL (foot G b i σ) x→valS τ1 x=valS σ1 x)∧(∀x,¬(footL (foot G b i σ) x∧i.calm=false)→valS τ1 x=valS τ x):=by
 have whole:foot G b i σ=none→τ = { σ with t:=τ.t }:=by
  intro hn;refine Y2 (fun x=>?_);cases x with
  | tmp n=>rfl
  | root r=>exact hf (.root r) (by simp [footL,hn])
  | lps=>exact hf .lps (by simp [footL,hn])
  | view r p kk z=>exact hf (.view r p kk z) (by simp [footL,hn])
  | shp r kk=>exact hf (.shp r kk) (by simp [footL,hn])
 have wholeFin:foot G b i σ=none→evO G n i b τ=some (v,{ σ1 with t:=τ.t })→σ1.t=σ.t→i.calm=false→∃τ1,evO G n i b τ=some (v,τ1)∧τ1.t=τ.t∧σ1.t=σ.t∧(∀x,footL (foot G b i σ) x→valS τ1 x=valS σ1 x)∧(∀x,¬(footL (foot G b i σ) x∧i.calm=false)→valS τ1 x=valS τ x):=by
  intro hn h1 h2 h3;refine ⟨_,h1,rfl,h2,fun x hx=>?_,fun x hx=>?_⟩
  ·cases x with
   | tmp n=>exact hx.elim
   | root r=>rfl
   | lps=>rfl
   | view r p kk z=>rfl
   | shp r kk=>rfl
  ·cases x with
   | tmp n=>rfl
   | root r=>exact absurd ⟨by simp [footL,hn],h3⟩ hx
   | lps=>exact absurd ⟨by simp [footL,hn],h3⟩ hx
   | view r p kk z=>exact absurd ⟨by simp [footL,hn],h3⟩ hx
   | shp r kk=>exact absurd ⟨by simp [footL,hn],h3⟩ hx
 have named:∀(rs:List Nat) (k':List Ob),foot G b i σ=some rs→evO G n i b τ=some (v,{ τ with h:=k' })→E1 rs σ1.h τ.h k'→σ1.t=σ.t→(i.calm=true→k'=τ.h)→∃τ1,evO G n i b τ=some (v,τ1)∧τ1.t=τ.t∧σ1.t=σ.t∧(∀x,footL (foot G b i σ) x→valS τ1 x=valS σ1 x)∧(∀x,¬(footL (foot G b i σ) x∧i.calm=false)→valS τ1 x=valS τ x):=by
  intro rs k' hn h1 h2 h3 h4;refine ⟨_,h1,rfl,h3,fun x hx=>?_,fun x hx=>?_⟩
  ·cases x with
   | tmp n=>exact hx.elim
   | root r=>simp only [valS];rw [h2.1 r (by simpa [footL,hn] using hx)]
   | lps=>simp [footL,hn] at hx
   | view r p kk z=>simp only [valS];rw [h2.1 r (by simpa [footL,hn] using hx)]
   | shp r kk=>simp only [valS];rw [h2.1 r (by simpa [footL,hn] using hx)]
  ·cases x with
   | tmp n=>rfl
   | root r =>
     simp only [valS];cases hc:i.calm with
     | true=>rw [h4 hc]
     | false =>
       rw [h2.2 r (fun hr=>hx ⟨by simp only [footL,hn];exact hr,hc⟩)]
   | lps=>rfl
   | view r p kk z =>
     simp only [valS];cases hc:i.calm with
     | true=>rw [h4 hc]
     | false =>
       rw [h2.2 r (fun hr=>hx ⟨by simp only [footL,hn];exact hr,hc⟩)]
   | shp r kk =>
     simp only [valS];cases hc:i.calm with
     | true=>rw [h4 hc]
     | false =>
       rw [h2.2 r (fun hr=>hx ⟨by simp only [footL,hn];exact hr,hc⟩)]
 have alike:∀rs,foot G b i σ=some rs→Fg rs σ.h τ.h:=by
  intro rs hn r hr;have:=hf (.root r) (by simp only [footL,hn];exact hr);simpa [valS] using this
 cases n with
 | zero=>simp [evO] at hx
 | succ n =>
   have plainOp:(∀τ:St,evO G (n+1) i b τ=match ax b i τ with
    | some (v,h)=>some (v,{ τ with h })
    | none=>none)→(foot G b i σ=if i.dry then some [] else some (i.sites.map (b + ·)++rootsL (σ.gets i.opds)))→∃τ1,evO G (n+1) i b τ=some (v,τ1)∧τ1.t=τ.t∧σ1.t=σ.t∧(∀x,footL (foot G b i σ) x→valS τ1 x=valS σ1 x)∧(∀x,¬(footL (foot G b i σ) x∧i.calm=false)→valS τ1 x=valS τ x):=by
    intro hev hft;rw [hev] at hx;cases hax:ax b i σ with
    | none=>simp [hax] at hx
    | some p =>
      obtain ⟨v1,h1⟩:=p;simp only [hax,Option.some.injEq,Prod.mk.injEq] at hx;obtain ⟨rfl,rfl⟩:=hx;by_cases hd:i.dry=true
      ·rw [if_pos hd] at hft;obtain ⟨g,g1,g2⟩:=Ace hd b σ τ ho;rw [hax] at g1;cases g with
       | none=>cases g1
       | some u =>
         simp only [Option.map_some,Option.some.injEq,Prod.mk.injEq] at g1;obtain ⟨rfl,rfl⟩:=g1;exact named [] τ.h hft (by rw [hev,g2];rfl) ⟨fun r hr=>(by cases hr),fun _ _=>rfl⟩ rfl (fun _=>rfl)
      ·rw [if_neg hd] at hft;have hal:=alike _ hft;have hnm:∀x∈i.opds,Named (i.sites.map (b + ·)++rootsL (σ.gets i.opds)) (σ.get x):=by
        intro x hx r hr;refine List.mem_append.2 (.inr (D7 (x:=σ.get x) ?_ hr));exact List.mem_map.2 ⟨x,hx,rfl⟩
       cases hc:i.calm with
       | true =>
         obtain ⟨g,g1,g2⟩:=Afa hc b σ τ hal ho hnm;rw [hax] at g1;cases g with
         | none=>cases g1
         | some u =>
           simp only [Option.map_some,Option.some.injEq,Prod.mk.injEq] at g1;obtain ⟨rfl,rfl⟩:=g1;have:=named _ τ.h hft (by rw [hev,g2];rfl) (E1.refl hal) rfl (fun _=>rfl);rw [hc] at this;exact this
       | false =>
         obtain ⟨k',e1,e2⟩:=Ai0 hc hal ho hnm (fun s hs=>List.mem_append.2 (.inl (List.mem_map.2 ⟨s,hs,rfl⟩))) hax;have:=named _ k' hft (by rw [hev,e1]) e2 rfl (fun h=>by rw [hc] at h;cases h);rw [hc] at this;exact this
   have callOp:∀(f:FuncId) (xs:List AV) (ss:List Nat),evO G (n+1) i b σ=callF G n f xs b ss σ→evO G (n+1) i b τ=callF G n f xs b ss τ→(foot G b i σ=match G f with
    | some F=>if F.pure then some (ss.map (b + ·)++rootsL xs) else none
    | none=>none)→i.calm=false→∃τ1,evO G (n+1) i b τ=some (v,τ1)∧τ1.t=τ.t∧σ1.t=σ.t∧(∀x,footL (foot G b i σ) x→valS τ1 x=valS σ1 x)∧(∀x,¬(footL (foot G b i σ) x∧i.calm=false)→valS τ1 x=valS τ x):=by
    intro f xs ss h1 h2 hft hc;rw [h1] at hx;have nonp:foot G b i σ=none→∃τ1,evO G (n+1) i b τ=some (v,τ1)∧τ1.t=τ.t∧σ1.t=σ.t∧(∀x,footL (foot G b i σ) x→valS τ1 x=valS σ1 x)∧(∀x,¬(footL (foot G b i σ) x∧i.calm=false)→valS τ1 x=valS τ x):=by
     intro hn;obtain ⟨k1,k2⟩:=Aik τ.t hx;exact wholeFin hn (by rw [h2,whole hn];exact k1) k2 hc
    cases hG:G f with
    | none=>exact nonp (by rw [hft,hG])
    | some F =>
      cases hp:F.pure with
      | false=>exact nonp (by rw [hft,hG];simp [hp])
      | true =>
        have hft':foot G b i σ=some (ss.map (b + ·)++rootsL xs):=by rw [hft,hG];simp [hp]
        obtain ⟨k',e1,e2,e3⟩:=AdW hG hp (alike _ hft') (fun r hr=>List.mem_append.2 (.inr hr)) (fun s hs=>List.mem_append.2 (.inl (List.mem_map.2 ⟨s,hs,rfl⟩))) hx;exact named _ k' hft' (by rw [h2];exact e1) e2 (by rw [e3]) (fun h=>by rw [hc] at h;cases h)
   cases i
   case call f az' ss=>exact callOp f (σ.gets az') ss rfl (by simp only [evO];rw [show τ.gets az'=σ.gets az' from Ls ho]) rfl rfl
   case calv x az' ss =>
    have hxx:τ.get x=σ.get x:=ho x (by simp [Ins.opds]);have hgg:τ.gets az'=σ.gets az':=Ls (fun y hy=>ho y (by simp [Ins.opds,hy]));cases hg:σ.get x
    case fn f cs=>exact callOp f (σ.gets az'++cs) ss (by simp only [evO,hg]) (by simp only [evO,hxx,hg,hgg]) (by simp only [foot,hg];cases G f<;>rfl) rfl
    case yld l =>
     have hn:foot G b (.calv x az' ss) σ=none:=by simp only [foot,hg]
     have h1:evO G (n+1) (.calv x az' ss) b σ=yieldF G n l (σ.gets az') σ:=by simp only [evO,hg]
     rw [h1] at hx;obtain ⟨k1,k2⟩:=yieldF_t τ.t hx;refine wholeFin hn ?_ k2 rfl;simp only [evO,hxx,hg,hgg];rw [whole hn];exact k1
    all_goals (simp [evO,hg] at hx)
   all_goals exact plainOp (fun _=>rfl) rfl
end Go.Mw
