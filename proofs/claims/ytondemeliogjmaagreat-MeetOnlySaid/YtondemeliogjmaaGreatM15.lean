/- More fuel does no harm. -/
import Derived.Test.YtondemeliogjmaaGreatM14
import Derived.Attr
set_option linter.unusedVariables false
set_option linter.unusedSimpArgs false
namespace Go.Mw
theorem opsE_mono {f g:Ins→Nat→St→Option (AV×St)}(h:∀i b σ r,f i b σ=some r→g i b σ=some r):∀(os:List Rop) (b:Nat) (σ:St) (r:St),J8 f os b σ=some r→J8 g os b σ=some r:=by
 intro os;induction os with
 | nil=>intro b σ r hr;exact hr
 | cons o os ih =>
   intro b σ r hr;simp only [J8] at hr ⊢;cases hw:wantedO o.g σ with
   | none=>simp [hw] at hr
   | some w =>
     cases w with
     | false=>simp only [hw] at hr ⊢;exact ih _ _ _ hr
     | true =>
       simp only [hw] at hr ⊢;cases hf:f o.i b σ with
       | none=>simp [hf] at hr
       | some p =>
         obtain ⟨v,σ1⟩:=p;simp only [hf] at hr;simp only [h _ _ _ _ hf];exact ih _ _ _ hr
theorem Qc {G:Prg}{f g:Ins→Nat→St→Option (AV×St)}(h:∀i b σ r,f i b σ=some r→g i b σ=some r):∀(os:List Rop) (b:Nat) (σ:St) (r:St×List (Option (List Nat))),drwE G f os b σ=some r→drwE G g os b σ=some r:=by
 intro os;induction os with
 | nil=>intro b σ r hr;exact hr
 | cons o os ih =>
   intro b σ r hr;simp only [drwE] at hr ⊢;cases hw:wantedO o.g σ with
   | none=>simp [hw] at hr
   | some w =>
     cases w with
     | false =>
       simp only [hw] at hr ⊢;cases hd:drwE G f os b (σ.put o.d (.tup [])) with
       | none=>simp [hd] at hr
       | some q=>simp only [hd] at hr;simp only [ih _ _ _ hd];exact hr
     | true =>
       simp only [hw] at hr ⊢;cases hf:f o.i b σ with
       | none=>simp [hf] at hr
       | some p =>
         obtain ⟨v,σ1⟩:=p;simp only [hf] at hr;simp only [h _ _ _ _ hf];cases hd:drwE G f os b (σ1.put o.d v) with
         | none=>simp [hd] at hr
         | some q=>simp only [hd] at hr;simp only [ih _ _ _ hd];exact hr
theorem AbP {G:Prg}{f g:Ins→Nat→St→Option (AV×St)}(h:∀i b σ r,f i b σ=some r→g i b σ=some r):∀(os:List Rop) (b:Nat) (σ:St) (r:St×List (Option (List Nat))),drwE G f os b σ=some r→Wf f os b σ=Wf g os b σ:=by
 intro os;induction os with
 | nil=>intro b σ r hr;rfl
 | cons o os ih =>
   intro b σ r hr;simp only [drwE,Wf] at hr ⊢;cases hw:wantedO o.g σ with
   | none=>simp [hw] at hr
   | some w =>
     cases w with
     | false =>
       simp only [hw] at hr ⊢;cases hd:drwE G f os b (σ.put o.d (.tup [])) with
       | none=>simp [hd] at hr
       | some q=>rw [ih _ _ _ hd]
     | true =>
       simp only [hw] at hr ⊢;cases hf:f o.i b σ with
       | none=>simp [hf] at hr
       | some p =>
         obtain ⟨v,σ1⟩:=p;simp only [hf] at hr ⊢;simp only [h _ _ _ _ hf];cases hd:drwE G f os b (σ1.put o.d v) with
         | none=>simp [hd] at hr
         | some q=>rw [ih _ _ _ hd]
structure Mono (G:Prg)(n:Nat):Prop where
 c:∀c b σ r,evC G n c b σ=some r→evC G (n+1) c b σ=some r
 o:∀i b σ r,evO G n i b σ=some r→evO G (n+1) i b σ=some r
 k:∀f xs b ss σ r,callF G n f xs b ss σ=some r→callF G (n+1) f xs b ss σ=some r
 f:∀F xs h lp r,runF G n F xs h lp=some r→runF G (n+1) F xs h lp=some r
 y:∀l xs σ r,yieldF G n l xs σ=some r→yieldF G (n+1) l xs σ=some r
theorem mono (G:Prg):∀n,Mono G n:=by
 intro n;induction n with
 | zero =>
   refine ⟨?_,?_,?_,?_,?_⟩
   ·intro c b σ r h;simp [evC] at h
   ·intro i b σ r h;simp [evO] at h
   ·intro f xs b ss σ r h;simp [callF] at h
   ·intro F xs h lp r hh;simp [runF] at hh
   ·intro l xs σ r h;simp [yieldF] at h
 | succ n ih =>
   refine ⟨?_,?_,?_,?_,?_⟩
   ·intro c b σ r h;cases c with
    | skip=>exact h
    | exit id=>exact h
    | ret=>exact h
    | frzt t c=>rw [evC] at h ⊢;exact ih.c _ _ _ _ h
    | mvt t s c=>rw [evC] at h ⊢;exact ih.c _ _ _ _ h
    | reg ops =>
      rw [evC] at h ⊢;cases ho:J8 (evO G n) ops b σ with
      | none=>simp [ho] at h
      | some σ1=>simp only [ho] at h;simp only [opsE_mono ih.o _ _ _ _ ho];exact h
    | drw ops prs =>
      rw [evC] at h ⊢;cases ho:drwE G (evO G n) ops b σ with
      | none=>simp [ho] at h
      | some q=>simp only [ho] at h;simp only [Qc ih.o _ _ _ _ ho];exact h
    | drs ops prs =>
      rw [evC] at h ⊢;cases ho:drwE G (evO G n) ops b σ with
      | none=>simp [ho] at h
      | some q=>simp only [ho] at h;simp only [Qc ih.o _ _ _ _ ho,←AbP ih.o _ _ _ _ ho];exact h
    | seq x y =>
      rw [evC] at h ⊢;cases hx:evC G n x b σ with
      | none=>simp [hx] at h
      | some p =>
        rw [hx] at h;rw [ih.c _ _ _ _ hx];obtain ⟨e,σ1⟩:=p;cases e with
        | nrm=>exact ih.c _ _ _ _ h
        | ext i=>exact h
        | ret=>exact h
    | cond x c d =>
      rw [evC] at h ⊢
      try simp only at h ⊢
      split at h
      ·exact ih.c _ _ _ _ h
      ·exact ih.c _ _ _ _ h
      ·cases h
    | blk id c =>
      rw [evC] at h ⊢
      try simp only at h ⊢
      cases hx:evC G n c b σ with
      | none=>simp [hx] at h
      | some p=>rw [hx] at h;rw [ih.c _ _ _ _ hx];exact h
    | loop kt ks c =>
      rw [evC] at h ⊢
      try simp only at h ⊢
      cases hx:evC G n c b { σ with t:=kill kt σ.t,h:=freeSites b ks σ.h } with
      | none=>simp [hx] at h
      | some p =>
        rw [hx] at h;rw [ih.c _ _ _ _ hx];obtain ⟨e,σ1⟩:=p;cases e with
        | nrm=>exact ih.c _ _ _ _ h
        | ext i=>exact h
        | ret=>exact h
    | rngf f ps kt ks asg body =>
      rw [evC] at h ⊢
      try simp only at h ⊢
      split at h
      ·rename_i g cs hg;cases hx:callF G n g (.yld σ.lp.length::cs) b [] { σ with lp:=σ.lp++[{ base:=b,t:=σ.t,ps,kt,ks,asg,body,pend:=none,busy:=false }] } with
       | none=>simp [hx] at h
       | some p=>rw [hx] at h;rw [ih.k _ _ _ _ _ _ hx];exact h
      ·cases h
   ·intro i b σ r h;cases i with
    | call f xs ss=>rw [evO] at h ⊢;exact ih.k _ _ _ _ _ _ h
    | calv x xs ss =>
      rw [evO] at h ⊢
      try simp only at h ⊢
      split at h
      ·exact ih.k _ _ _ _ _ _ h
      ·exact ih.y _ _ _ _ h
      ·cases h
    | _=>rw [evO] at h ⊢ <;> first|exact h|(intros;contradiction)
   ·intro f xs b ss σ r h;rw [callF] at h ⊢;split at h
    ·rename_i F hF;split at h
     ·rename_i hl;split at h
      ·rename_i hp;simp only [hF,hl,hp,if_true] at h ⊢;split at h
       ·rename_i hs;rw [if_pos hs];split at h
        ·rename_i y1 s1 y2 s2 e1 e2;rw [ih.f _ _ _ _ _ e1,ih.f _ _ _ _ _ e2];exact h
        ·cases h
       ·rename_i hs;rw [if_neg hs];cases hx:runF G n F (treeBL 0 σ.h xs) [] [] with
        | none=>simp [hx] at h
        | some p=>rw [hx] at h;rw [ih.f _ _ _ _ _ hx];exact h
      ·rename_i hp;simp only [hF,hl,hp,if_true] at h ⊢;cases hx:runF G n F xs σ.h σ.lp with
       | none=>simp [hx] at h
       | some p=>simp only [hx] at h;simp only [ih.f _ _ _ _ _ hx];exact h
     ·cases h
    ·cases h
   ·intro F xs h lp r hh;rw [runF] at hh ⊢;cases hx:evC G n F.body h.length { t:=xs++List.replicate (F.nt-F.np) (.tup []),h:=h++List.replicate F.ns Jv,lp } with
    | none=>simp [hx] at hh
    | some p=>rw [hx] at hh;rw [ih.c _ _ _ _ hx];exact hh
   ·intro l xs σ r h;rw [yieldF] at h ⊢;split at h
    ·rename_i lp hlp;split at h
     ·rename_i hc;simp only [hlp,if_pos hc] at h ⊢;cases hx:evC G n lp.asg lp.base { t:=setPs lp.ps xs (kill lp.kt lp.t),h:=freeSites lp.base lp.ks σ.h,lp:=σ.lp } with
      | none=>simp [hx] at h
      | some p =>
        rw [hx] at h;rw [ih.c _ _ _ _ hx];obtain ⟨e,σ1⟩:=p;cases e with
        | nrm =>
          simp only at h ⊢;split at h
          ·rename_i lp1 hlp1;split at h
           ·rename_i hc1;simp only [hlp1,if_pos hc1];cases hy:evC G n lp.body lp.base { σ1 with lp:=σ1.lp.set l { lp1 with busy:=true } } with
            | none=>simp [hy] at h
            | some p=>rw [hy] at h;rw [ih.c _ _ _ _ hy];exact h
           ·cases h
          ·cases h
        | ext i=>exact h
        | ret=>exact h
     ·cases h
    ·cases h
theorem monoLe {G:Prg}{n m:Nat}(h:n≤m):(∀c b σ r,evC G n c b σ=some r→evC G m c b σ=some r)∧(∀i b σ r,evO G n i b σ=some r→evO G m i b σ=some r) ∧
 (∀f xs b ss σ r,callF G n f xs b ss σ=some r→callF G m f xs b ss σ=some r)∧(∀F xs h lp r,runF G n F xs h lp=some r→runF G m F xs h lp=some r)∧(∀l xs σ r,yieldF G n l xs σ=some r→yieldF G m l xs σ=some r):=by
 induction h with
 | refl=>exact ⟨fun _ _ _ _ h=>h,fun _ _ _ _ h=>h,fun _ _ _ _ _ _ h=>h,fun _ _ _ _ _ h=>h,fun _ _ _ _ h=>h⟩
 | step _ ih =>
   obtain ⟨a,b,c,d,e⟩:=ih;have M:=mono G;exact ⟨fun _ _ _ _ h=>(M _).c _ _ _ _ (a _ _ _ _ h),fun _ _ _ _ h=>(M _).o _ _ _ _ (b _ _ _ _ h),fun _ _ _ _ _ _ h=>(M _).k _ _ _ _ _ _ (c _ _ _ _ _ _ h),fun _ _ _ _ _ h=>(M _).f _ _ _ _ _ (d _ _ _ _ _ h),fun _ _ _ _ h=>(M _).y _ _ _ _ (e _ _ _ _ h)⟩
def Tg {α:Type}(k:α):Type:=Unit
def tg {α:Type}{k:α}:Tg k:=()
def Wp (G:Prg)(c:C)(b:Nat)(σ:St)(Q:Ex→St→Prop)(u:Tg Q:=tg):Prop:=∃n e σ',evC G n c b σ=some (e,σ')∧Q e σ'
def WpO (G:Prg)(ops:List Rop)(b:Nat)(σ:St)(K:St→Prop)(u:Tg K:=tg):Prop:=∃n σ',J8 (evO G n) ops b σ=some σ'∧K σ'
def CO (G:Prg)(f:FuncId)(xs:List AV)(b:Nat)(ss:List Nat)(σ:St)(K:AV→St→Prop)(u:Tg K:=tg):Prop:=∃n v σ',callF G n f xs b ss σ=some (v,σ')∧K v σ'
def WpY (G:Prg)(l:Nat)(xs:List AV)(σ:St)(K:AV→St→Prop)(u:Tg K:=tg):Prop:=∃n v σ',yieldF G n l xs σ=some (v,σ')∧K v σ'
def WpD (G:Prg)(ops:List Rop)(b:Nat)(σ:St)(K:St→List (Option (List Nat))→Prop):Prop:=∃n σ' fs,drwE G (evO G n) ops b σ=some (σ',fs)∧K σ' fs
theorem Wp.mono {G:Prg}{c:C}{b:Nat}{σ:St}{Q R:Ex→St→Prop}(h:Wp G c b σ Q)(hq:∀e σ',Q e σ'→R e σ'):Wp G c b σ R:=by
 obtain ⟨n,e,σ',h1,h2⟩:=h;exact ⟨n,e,σ',h1,hq _ _ h2⟩
theorem CO.mono {G:Prg}{f:FuncId}{xs:List AV}{b:Nat}{ss:List Nat}{σ:St}{K L:AV→St→Prop}(h:CO G f xs b ss σ K)(hq:∀v σ',K v σ'→L v σ'):CO G f xs b ss σ L:=by
 obtain ⟨n,e,σ',h1,h2⟩:=h;exact ⟨n,e,σ',h1,hq _ _ h2⟩
theorem WpO.mono {G:Prg}{ops:List Rop}{b:Nat}{σ:St}{K L:St→Prop}(h:WpO G ops b σ K)(hq:∀σ',K σ'→L σ'):WpO G ops b σ L:=by
 obtain ⟨n,σ',h1,h2⟩:=h;exact ⟨n,σ',h1,hq _ h2⟩
theorem AhI {G:Prg}{b:Nat}{σ:St}{Q:Ex→St→Prop}:Wp G .skip b σ Q=Q .nrm σ :=
 propext ⟨fun ⟨n,e,σ',h,q⟩=>by cases n with|zero=>simp [evC] at h|succ n=>simp [evC] at h;obtain ⟨rfl,rfl⟩:=h;exact q,fun q=>⟨1,_,_,rfl,q⟩⟩
theorem Aic {G:Prg}{b id:Nat}{σ:St}{Q:Ex→St→Prop}:Wp G (.exit id) b σ Q=Q (.ext id) σ :=
 propext ⟨fun ⟨n,e,σ',h,q⟩=>by cases n with|zero=>simp [evC] at h|succ n=>simp [evC] at h;obtain ⟨rfl,rfl⟩:=h;exact q,fun q=>⟨1,_,_,rfl,q⟩⟩
theorem Ajq {G:Prg}{b:Nat}{σ:St}{Q:Ex→St→Prop}:Wp G .ret b σ Q=Q .ret σ :=
 propext ⟨fun ⟨n,e,σ',h,q⟩=>by cases n with|zero=>simp [evC] at h|succ n=>simp [evC] at h;obtain ⟨rfl,rfl⟩:=h;exact q,fun q=>⟨1,_,_,rfl,q⟩⟩
theorem AiY {G:Prg}{x y:C}{b:Nat}{σ:St}{Q:Ex→St→Prop}:Wp G (.seq x y) b σ Q=Wp G x b σ (fun e σ1=>match e with | .nrm=>Wp G y b σ1 Q|e=>Q e σ1):=by
 refine propext ⟨fun ⟨n,e,σ',h,q⟩=>?_,fun ⟨n,e,σ1,h,q⟩=>?_⟩
 ·cases n with
  | zero=>simp [evC] at h
  | succ n =>
    rw [evC] at h;cases hx:evC G n x b σ with
    | none=>simp [hx] at h
    | some p =>
      obtain ⟨e1,σ1⟩:=p;rw [hx] at h;refine ⟨n,e1,σ1,hx,?_⟩;cases e1 with
      | nrm=>exact ⟨n,e,σ',h,q⟩
      | ext i=>simp at h;obtain ⟨rfl,rfl⟩:=h;exact q
      | ret=>simp at h;obtain ⟨rfl,rfl⟩:=h;exact q
 ·cases e with
  | nrm =>
    obtain ⟨m,e,σ2,h2,q2⟩:=q;refine ⟨max n m+1,e,σ2,?_,q2⟩;rw [evC,(monoLe (Nat.le_max_left n m)).1 _ _ _ _ h];exact (monoLe (Nat.le_max_right n m)).1 _ _ _ _ h2
  | ext i=>exact ⟨n+1,_,σ1,by rw [evC,h],q⟩
  | ret=>exact ⟨n+1,_,σ1,by rw [evC,h],q⟩
theorem Ai1 {G:Prg}{ops:List Rop}{b:Nat}{σ:St}{Q:Ex→St→Prop}:Wp G (.reg ops) b σ Q=WpO G ops b σ (fun σ1=>Q .nrm σ1):=by
 refine propext ⟨fun ⟨n,e,σ',h,q⟩=>?_,fun ⟨n,σ1,h,q⟩=>⟨n+1,.nrm,σ1,by rw [evC];simp only [h],q⟩⟩;cases n with
 | zero=>simp [evC] at h
 | succ n =>
   rw [evC] at h;cases hx:J8 (evO G n) ops b σ with
   | none=>simp [hx] at h
   | some σ1=>simp [hx] at h;obtain ⟨rfl,rfl⟩:=h;exact ⟨n,_,hx,q⟩
theorem Ag8 {G:Prg}{ops:List Rop}{prs:List (Nat×Nat)}{b:Nat}{σ:St}{Q:Ex→St→Prop} :
 Wp G (.drw ops prs) b σ Q=WpD G ops b σ (fun σ1 fs=>prs.all (fun p=>K8 (fs.getD p.1 none) (fs.getD p.2 none))=true∧Q .nrm σ1):=by
 refine propext ⟨fun ⟨n,e,σ',h,q⟩=>?_,fun ⟨n,σ1,fs,h,p,q⟩=>⟨n+1,.nrm,σ1,by rw [evC];simp only [h];rw [if_pos p],q⟩⟩;cases n with
 | zero=>simp [evC] at h
 | succ n =>
   rw [evC] at h;cases hx:drwE G (evO G n) ops b σ with
   | none=>simp [hx] at h
   | some p =>
     obtain ⟨σ1,fs⟩:=p;simp only [hx] at h;split at h
     ·rename_i hp;simp at h;obtain ⟨rfl,rfl⟩:=h;exact ⟨n,_,_,hx,hp,q⟩
     ·cases h
def WpX (G:Prg)(ops:List Rop)(b:Nat)(σ:St)(K:St→List (Option (List Nat))→List Sft→Prop)(u:Tg K:=tg):Prop:=∃n σ' fs,drwE G (evO G n) ops b σ=some (σ',fs)∧K σ' fs (Wf (evO G n) ops b σ)
theorem Ad0 {G:Prg}{f:Ins→Nat→St→Option (AV×St)}:∀(ops:List Rop) (b:Nat) (σ:St),(drwE G f ops b σ).map (·.1)=J8 f ops b σ:=by
 intro ops;induction ops with
 | nil=>intro b σ;rfl
 | cons o os ih =>
   intro b σ;simp only [drwE,J8];cases wantedO o.g σ with
   | none=>rfl
   | some w =>
     cases w with
     | false=>simp only;rw [←ih];cases drwE G f os b (σ.put o.d (.tup []))<;>rfl
     | true =>
       simp only;cases f o.i b σ with
       | none=>rfl
       | some p=>simp only;rw [←ih];cases drwE G f os b (p.2.put o.d p.1)<;>rfl
theorem AiG {G:Prg}{ops:List Rop}{b:Nat}{σ:St}{Q:Ex→St→Prop}:Wp G (.drw ops []) b σ Q=WpO G ops b σ (fun σ1=>Q .nrm σ1):=by
 rw [Ag8];refine propext ⟨fun ⟨n,σ1,fs,h,p,q⟩=>⟨n,σ1,by rw [←Ad0 (G:=G),h];rfl,q⟩,fun ⟨n,σ1,h,q⟩=>?_⟩;rw [←Ad0 (G:=G)] at h;cases hx:drwE G (evO G n) ops b σ with
 | none=>simp [hx] at h
 | some p=>simp [hx] at h;subst h;exact ⟨n,_,p.2,hx,rfl,q⟩
theorem AhJ {G:Prg}{x:Opd}{c d:C}{b:Nat}{σ:St}{Q:Ex→St→Prop}(v:Bool)(hv:σ.get x = .bool v):Wp G (.cond x c d) b σ Q=((v=true→Wp G c b σ Q)∧(v=false→Wp G d b σ Q)):=by
 have key:Wp G (.cond x c d) b σ Q=Wp G (if v then c else d) b σ Q:=by
  refine propext ⟨fun ⟨n,e,σ',h,q⟩=>?_,fun ⟨n,e,σ',h,q⟩=>⟨n+1,e,σ',?_,q⟩⟩
  ·cases n with
   | zero=>simp [evC] at h
   | succ n =>
     rw [evC] at h;simp only [hv] at h;cases v<;>exact ⟨n,e,σ',h,q⟩
  ·rw [evC];simp only [hv];cases v<;>exact h
 rw [key];cases v<;>simp
theorem AjJ {G:Prg}{id:Nat}{c:C}{b:Nat}{σ:St}{Q:Ex→St→Prop}:Wp G (.blk id c) b σ Q=Wp G c b σ (fun e σ1=>match e with | .ext i=>if i=id then Q .nrm σ1 else Q (.ext i) σ1|e=>Q e σ1):=by
 refine propext ⟨fun ⟨n,e,σ',h,q⟩=>?_,fun ⟨n,e,σ1,h,q⟩=>?_⟩
 ·cases n with
  | zero=>simp [evC] at h
  | succ n =>
    rw [evC] at h;cases hx:evC G n c b σ with
    | none=>simp [hx] at h
    | some p =>
      obtain ⟨e1,σ1⟩:=p;rw [hx] at h;refine ⟨n,e1,σ1,hx,?_⟩;cases e1 with
      | nrm=>simp at h;obtain ⟨rfl,rfl⟩:=h;exact q
      | ext i =>
        simp only at h ⊢;split at h
        ·rename_i hi;rw [if_pos hi];simp at h;obtain ⟨rfl,rfl⟩:=h;exact q
        ·rename_i hi;rw [if_neg hi];simp at h;obtain ⟨rfl,rfl⟩:=h;exact q
      | ret=>simp at h;obtain ⟨rfl,rfl⟩:=h;exact q
 ·cases e with
  | nrm=>exact ⟨n+1,_,σ1,by rw [evC,h],q⟩
  | ret=>exact ⟨n+1,_,σ1,by rw [evC,h],q⟩
  | ext i =>
    simp only at q;split at q
    ·rename_i hi;exact ⟨n+1,_,σ1,by rw [evC,h];simp [hi],q⟩
    ·rename_i hi;exact ⟨n+1,_,σ1,by rw [evC,h];simp [hi],q⟩
def NA (kt ks:List Nat)(b:Nat)(σ:St):St:={ σ with t:=kill kt σ.t,h:=freeSites b ks σ.h }
theorem AhS {G:Prg}{t:Nat}{c:C}{b:Nat}{σ:St}{Q:Ex→St→Prop}:Wp G (.frzt t c) b σ Q=Wp G c b (Agn t σ) Q:=by
 refine propext ⟨fun ⟨n,e,σ',h,q⟩=>?_,fun ⟨n,e,σ',h,q⟩=>⟨n+1,e,σ',by rw [evC];exact h,q⟩⟩;cases n with
 | zero=>simp [evC] at h
 | succ n=>rw [evC] at h;exact ⟨n,e,σ',h,q⟩
theorem LR {G:Prg}{t s:Nat}{c:C}{b:Nat}{σ:St}{Q:Ex→St→Prop}:Wp G (.mvt t s c) b σ Q=Wp G c b (mv1 b t s σ) Q:=by
 refine propext ⟨fun ⟨n,e,σ',h,q⟩=>?_,fun ⟨n,e,σ',h,q⟩=>⟨n+1,e,σ',by rw [evC];exact h,q⟩⟩;cases n with
 | zero=>simp [evC] at h
 | succ n=>rw [evC] at h;exact ⟨n,e,σ',h,q⟩
theorem Af1 {G:Prg}{kt ks:List Nat}{c:C}{b:Nat}{σ:St}{Q:Ex→St→Prop} :
 Wp G (.loop kt ks c) b σ Q=Wp G c b (NA kt ks b σ) (fun e σ1=>match e with | .nrm=>Wp G (.loop kt ks c) b σ1 Q|e=>Q e σ1):=by
 refine propext ⟨fun ⟨n,e,σ',h,q⟩=>?_,fun ⟨n,e,σ1,h,q⟩=>?_⟩
 ·cases n with
  | zero=>simp [evC] at h
  | succ n =>
    rw [evC] at h;cases hx:evC G n c b { σ with t:=kill kt σ.t,h:=freeSites b ks σ.h } with
    | none=>simp [hx] at h
    | some p =>
      obtain ⟨e1,σ1⟩:=p;rw [hx] at h;refine ⟨n,e1,σ1,hx,?_⟩;cases e1 with
      | nrm=>exact ⟨n,e,σ',h,q⟩
      | ext i=>simp at h;obtain ⟨rfl,rfl⟩:=h;exact q
      | ret=>simp at h;obtain ⟨rfl,rfl⟩:=h;exact q
 ·have h':evC G n c b { σ with t:=kill kt σ.t,h:=freeSites b ks σ.h }=some (e,σ1):=h;cases e with
  | nrm =>
    obtain ⟨m,e,σ2,h2,q2⟩:=q;refine ⟨max n m+1,e,σ2,?_,q2⟩;rw [evC,(monoLe (Nat.le_max_left n m)).1 _ _ _ _ h'];exact (monoLe (Nat.le_max_right n m)).1 _ _ _ _ h2
  | ext i=>exact ⟨n+1,_,σ1,by rw [evC,h'],q⟩
  | ret=>exact ⟨n+1,_,σ1,by rw [evC,h'],q⟩
theorem AhZ {G:Prg}{kt ks:List Nat}{c:C}{b:Nat}{Q:Ex→St→Prop}{α:Type}(I:α→St→Prop)(μ:α→Nat)
 (step:∀(x:α) (σ:St),I x σ→Wp G c b σ (fun e σ1=>match e with | .nrm=>∃y,μ y<μ x∧I y (NA kt ks b σ1)|e=>Q e σ1))
 {σ:St}(x:α) (h:I x (NA kt ks b σ)):Wp G (.loop kt ks c) b σ Q:=by
 have key:∀(n:Nat) (x:α) (σ:St),μ x<n→I x (NA kt ks b σ)→Wp G (.loop kt ks c) b σ Q:=by
  intro n;induction n with
  | zero=>intro x σ h;omega
  | succ n ih =>
    intro x σ hn hI;rw [Af1];refine (step x _ hI).mono (fun e σ1 h1=>?_);cases e with
    | nrm=>obtain ⟨y,hy,h2⟩:=h1;exact ih y σ1 (by omega) h2
    | ext i=>exact h1
    | ret=>exact h1
 exact key (μ x+1) x σ (Nat.lt_succ_self _) h
theorem Aix {G:Prg}{b:Nat}{σ:St}{K:St→Prop}:WpO G [] b σ K=K σ :=
 propext ⟨fun ⟨n,σ',h,k⟩=>by simp [J8] at h;exact h▸k,fun k=>⟨0,σ,rfl,k⟩⟩
def Ins.isCall:Ins→Bool
 | .call .. | .calv .. => true
 | _=>false
def Bm (r:Option (AV×List Ob))(k:AV→List Ob→Prop)(u:Tg k:=tg):Prop :=
 match r with
 | some (v,h)=>k v h
 | none=>False
theorem Nc {G:Prg}{n:Nat}{i:Ins}(hi:i.isCall=false){b:Nat}{σ:St}:evO G (n+1) i b σ=match ax b i σ with|some (v,h)=>some (v,{ σ with h })|none=>none:=by
 cases i<;>first|rfl|(simp [Ins.isCall] at hi)
theorem Ss {G:Prg}{n m:Nat}(h:n≤m){ops:List Rop}{b:Nat}{σ r:St}(hx:J8 (evO G n) ops b σ=some r):J8 (evO G m) ops b σ=some r :=
 opsE_mono (fun i b σ r h2=>(monoLe h).2.1 i b σ r h2) _ _ _ _ hx
theorem Aej {G:Prg}{d:Option Nat}{i:Ins}{os:List Rop}{b:Nat}{σ:St}{K:St→Prop}(hi:i.isCall=false) :
 WpO G (⟨d,i,none⟩::os) b σ K=Bm (ax b i σ) (fun v h=>WpO G os b ({ σ with h }.put d v) K):=by
 refine propext ⟨fun ⟨n,σ',h,k⟩=>?_,fun h=>?_⟩
 ·cases n with
  | zero=>simp [J8,wantedO,evO] at h
  | succ n =>
    simp only [J8,wantedO,Nc hi] at h;cases hx:ax b i σ with
    | none=>simp [hx] at h
    | some p=>simp only [hx] at h;exact ⟨n+1,σ',h,k⟩
 ·cases hx:ax b i σ with
  | none=>simp [hx,Bm] at h
  | some p =>
    simp only [hx,Bm] at h;obtain ⟨n,σ',h1,k⟩:=h;refine ⟨n+1,σ',?_,k⟩;simp only [J8,wantedO,Nc hi,hx];exact Ss (Nat.le_succ n) h1
theorem AbS {G:Prg}{d:Option Nat}{i:Ins}{t:Nat}{want:Bool}{os:List Rop}{b:Nat}{σ:St}{K:St→Prop}(v:Bool)(hv:σ.t[t]? = some (.bool v)) :
 WpO G (⟨d,i,some (t,want)⟩::os) b σ K=if v=want then WpO G (⟨d,i,none⟩::os) b σ K else WpO G os b (σ.put d (.tup [])) K:=by
 have hw:wantedO (some (t,want)) σ=some (v==want):=by simp [wantedO,hv]
 have h0:wantedO none σ=some true:=(rfl);unfold WpO;simp only [J8,hw,h0];cases v<;>cases want<;>simp
theorem AaX {G:Prg}{d:Option Nat}{i:Ins}{t:Nat}{want:Bool}{os:List Rop}{b:Nat}{σ:St}{K:St→Prop}(hv:σ.t[t]? = some (.tup [])) :
 WpO G (⟨d,i,some (t,want)⟩::os) b σ K=WpO G os b (σ.put d (.tup [])) K:=by
 have hw:wantedO (some (t,want)) σ=some false:=by simp [wantedO,hv]
 unfold WpO;simp only [J8,hw]
theorem AfA {G:Prg}{d:Option Nat}{f:FuncId}{xs:List Opd}{ss:List Nat}{os:List Rop}{b:Nat}{σ:St}{K:St→Prop} :
 WpO G (⟨d,.call f xs ss,none⟩::os) b σ K=CO G f (σ.gets xs) b ss σ (fun v σ1=>WpO G os b (σ1.put d v) K):=by
 refine propext ⟨fun ⟨n,σ',h,k⟩=>?_,fun ⟨n,v,σ1,h1,m,σ',h2,k⟩=>?_⟩
 ·cases n with
  | zero=>simp [J8,wantedO,evO] at h
  | succ n =>
    simp only [J8,wantedO,evO] at h;cases hx:callF G n f (σ.gets xs) b ss σ with
    | none=>simp [hx] at h
    | some p=>simp only [hx] at h;exact ⟨n,p.1,p.2,hx,n+1,σ',h,k⟩
 ·refine ⟨max n m+1,σ',?_,k⟩;simp only [J8,wantedO,evO,(monoLe (Nat.le_max_left n m)).2.2.1 _ _ _ _ _ _ h1];exact Ss (Nat.le_trans (Nat.le_max_right n m) (Nat.le_succ _)) h2
theorem Aep {G:Prg}{d:Option Nat}{x:Opd}{f:FuncId}{cs:List AV}{xs:List Opd}{ss:List Nat}{os:List Rop}{b:Nat}{σ:St}{K:St→Prop}(hx:σ.get x = .fn f cs) :
 WpO G (⟨d,.calv x xs ss,none⟩::os) b σ K=CO G f (σ.gets xs++cs) b ss σ (fun v σ1=>WpO G os b (σ1.put d v) K):=by
 refine propext ⟨fun ⟨n,σ',h,k⟩=>?_,fun ⟨n,v,σ1,h1,m,σ',h2,k⟩=>?_⟩
 ·cases n with
  | zero=>simp [J8,wantedO,evO] at h
  | succ n =>
    simp only [J8,wantedO,evO,hx] at h;cases hy:callF G n f (σ.gets xs++cs) b ss σ with
    | none=>simp [hy] at h
    | some p=>simp only [hy] at h;exact ⟨n,p.1,p.2,hy,n+1,σ',h,k⟩
 ·refine ⟨max n m+1,σ',?_,k⟩;simp only [J8,wantedO,evO,hx,(monoLe (Nat.le_max_left n m)).2.2.1 _ _ _ _ _ _ h1];exact Ss (Nat.le_trans (Nat.le_max_right n m) (Nat.le_succ _)) h2
theorem Afz {G:Prg}{d:Option Nat}{x:Opd}{l:Nat}{xs:List Opd}{ss:List Nat}{os:List Rop}{b:Nat}{σ:St}{K:St→Prop}(hx:σ.get x = .yld l) :
 WpO G (⟨d,.calv x xs ss,none⟩::os) b σ K=WpY G l (σ.gets xs) σ (fun v σ1=>WpO G os b (σ1.put d v) K):=by
 refine propext ⟨fun ⟨n,σ',h,k⟩=>?_,fun ⟨n,v,σ1,h1,m,σ',h2,k⟩=>?_⟩
 ·cases n with
  | zero=>simp [J8,wantedO,evO] at h
  | succ n =>
    simp only [J8,wantedO,evO,hx] at h;cases hy:yieldF G n l (σ.gets xs) σ with
    | none=>simp [hy] at h
    | some p=>simp only [hy] at h;exact ⟨n,p.1,p.2,hy,n+1,σ',h,k⟩
 ·refine ⟨max n m+1,σ',?_,k⟩;simp only [J8,wantedO,evO,hx,(monoLe (Nat.le_max_left n m)).2.2.2.2 _ _ _ _ h1];exact Ss (Nat.le_trans (Nat.le_max_right n m) (Nat.le_succ _)) h2
def wpI (G:Prg)(i:Ins)(b:Nat)(σ:St)(k:AV→St→Prop)(u:Tg k:=tg):Prop :=
 match i with
 | .call f xs ss=>CO G f (σ.gets xs) b ss σ k
 | .calv x xs ss=>match σ.get x with
   | .fn f cs=>CO G f (σ.gets xs++cs) b ss σ k
   | .yld l=>WpY G l (σ.gets xs) σ k
   | _=>False
 | i=>Bm (ax b i σ) (fun v h=>k v { σ with h })
def Vc (x:Option AV)(want:Bool)(A B:Prop)(u:Tg (A,B):=tg):Prop :=
 match x with
 | some (.bool v)=>(v=want→A)∧(v≠want→B)
 | some (.tup [])=>B
 | _=>False
theorem YH {G:Prg}{d:Option Nat}{i:Ins}{os:List Rop}{b:Nat}{σ:St}{K:St→Prop} :
 WpO G (⟨d,i,none⟩::os) b σ K=wpI G i b σ (fun v σ1=>WpO G os b (σ1.put d v) K):=by
 by_cases hi:i.isCall=false
 ·rw [Aej hi];cases i<;>first|rfl|(simp [Ins.isCall] at hi)
 ·cases i<;>first|exact absurd rfl hi|skip
  ·exact AfA
  ·rename_i x xs ss;show _=(match σ.get x with
    | .fn f cs=>CO G f (σ.gets xs++cs) b ss σ _
    | .yld l=>WpY G l (σ.gets xs) σ _
    | _=>False)
   cases hx:σ.get x<;>first|exact Aep hx|exact Afz hx|skip
   all_goals
    refine propext ⟨fun ⟨n,σ',h,k⟩=>?_,fun h=>h.elim⟩;cases n with
    | zero=>simp [J8,wantedO,evO] at h
    | succ n=>simp [J8,wantedO,evO,hx] at h
theorem AdV {G:Prg}{d:Option Nat}{i:Ins}{t:Nat}{want:Bool}{os:List Rop}{b:Nat}{σ:St}{K:St→Prop} :
 WpO G (⟨d,i,some (t,want)⟩::os) b σ K=Vc σ.t[t]? want (WpO G (⟨d,i,none⟩::os) b σ K) (WpO G os b (σ.put d (.tup [])) K):=by
 unfold Vc;split
 ·rename_i v hv;rw [AbS v hv];by_cases h:v=want<;>simp [h]
 ·rename_i hv;exact AaX hv
 ·rename_i h1 h2;refine propext ⟨fun ⟨n,σ',h,k⟩=>?_,fun h=>h.elim⟩;have hw:wantedO (some (t,want)) σ=none:=by
   cases hx:σ.t[t]? with
   | none=>simp [wantedO,hx]
   | some x =>
     cases x with
     | bool v=>exact absurd hx (h1 v)
     | tup l =>
       cases l with
       | nil=>exact absurd hx h2
       | cons=>simp [wantedO,hx]
     | _=>simp [wantedO,hx]
  simp [J8,hw] at h
def Acm (x:AV)(A B:Prop)(u:Tg (A,B):=tg):Prop :=
 match x with
 | .bool v=>(v=true→A)∧(v=false→B)
 | _=>False
theorem AeG {G:Prg}{x:Opd}{c d:C}{b:Nat}{σ:St}{Q:Ex→St→Prop}:Wp G (.cond x c d) b σ Q=Acm (σ.get x) (Wp G c b σ Q) (Wp G d b σ Q):=by
 unfold Acm;split
 ·rename_i v hv;exact AhJ v hv
 ·rename_i h1;refine propext ⟨fun ⟨n,e,σ',h,q⟩=>?_,fun h=>h.elim⟩;cases n with
  | zero=>simp [evC] at h
  | succ n =>
    rw [evC] at h;split at h
    ·rename_i hv;exact absurd hv (h1 _)
    ·rename_i hv;exact absurd hv (h1 _)
    ·cases h
theorem wpO_congr {G:Prg}{ops:List Rop}{b:Nat}{σ τ:St}{K:St→Prop}(h:σ=τ):WpO G ops b σ K=WpO G ops b τ K:=by rw [h]
theorem AfU {G:Prg}{c:C}{b:Nat}{σ τ:St}{K:Ex→St→Prop}(h:σ=τ):Wp G c b σ K=Wp G c b τ K:=by rw [h]
theorem Adh {G:Prg}{i:Ins}{b:Nat}{σ τ:St}{K:AV→St→Prop}(h:σ=τ):wpI G i b σ K=wpI G i b τ K:=by rw [h]
theorem U3 {G:Prg}{f:FuncId}{xs ys:List AV}{b:Nat}{ss:List Nat}{σ τ:St}{K:AV→St→Prop}(hx:xs=ys)(h:σ=τ):CO G f xs b ss σ K=CO G f ys b ss τ K:=by rw [h,hx]
theorem Xl {r s:Option (AV×List Ob)}{k:AV→List Ob→Prop}(h:r=s):Bm r k=Bm s k:=by rw [h]
theorem V3 {r s:Option AV}{w:Bool}{A B:Prop}(h:r=s):Vc r w A B=Vc s w A B:=by rw [h]
theorem Wv {r s:AV}{A B:Prop}(h:r=s):Acm r A B=Acm s A B:=by rw [h]
attribute [congr] wpO_congr AfU Adh U3 Xl V3 Wv
def rest (nt:Nat)(L:List Nat):List Nat:=(List.range nt).filter fun i => !L.contains i
def Yd (L:List Nat):Nat→List AV→List AV
 | _,[]=>[]
 | k,v::t=>(if L.contains k then v else .undef)::Yd L (k+1) t
def Jk (S:List Nat):Nat→List Ob→List Ob
 | _,[]=>[]
 | k,o::h=>(if S.contains k then { o with c:=.gone } else o)::Jk S (k+1) h
theorem Vy {L:List Nat}:∀(t:List AV) (k i:Nat),(Yd L k t)[i]? = (t[i]?).map fun v=>if L.contains (k+i) then v else .undef:=by
 intro t;induction t with
 | nil=>intro k i;simp [Yd]
 | cons v t ih =>
   intro k i;cases i with
   | zero=>simp [Yd]
   | succ i=>simp only [Yd,List.getElem?_cons_succ];rw [ih];congr 2;funext v;rw [show k+1+i=k+(i+1) from by omega]
theorem AcS {S:List Nat}:∀(h:List Ob) (k i:Nat),(Jk S k h)[i]? = (h[i]?).map fun o=>if S.contains (k+i) then { o with c:=.gone } else o:=by
 intro h;induction h with
 | nil=>intro k i;simp [Jk]
 | cons v t ih =>
   intro k i;cases i with
   | zero=>simp [Jk]
   | succ i=>simp only [Jk,List.getElem?_cons_succ];rw [ih];congr 2;funext v;rw [show k+1+i=k+(i+1) from by omega]
theorem AfJ:∀(ts:List Nat) (t:List AV) (i:Nat),(kill ts t)[i]? = (t[i]?).map fun v=>if i∈ts then .undef else v:=by
 intro ts;induction ts with
 | nil=>intro t i;simp [kill]
 | cons k ts ih =>
   intro t i;show (kill ts (t.set k .undef))[i]? = _;rw [ih,List.getElem?_set];by_cases hk:k=i
   ·subst hk;by_cases hl:k<t.length
    ·simp [hl]
    ·simp [hl]
   ·simp only [hk,if_false,List.mem_cons];have:¬i=k:=fun h=>hk h.symm;simp [this]
theorem MF {nt:Nat}{L:List Nat}{t:List AV}(h:t.length=nt):kill (rest nt L) t=Yd L 0 t:=by
 apply List.ext_getElem?;intro i;rw [AfJ,Vy];cases hx:t[i]? with
 | none=>rfl
 | some v =>
   have hlt:i<nt:=by
    rcases Nat.lt_or_ge i t.length with h1|h1
    ·omega
    ·rw [List.getElem?_eq_none h1] at hx;cases hx
   simp only [Option.map_some,Nat.zero_add,rest,List.mem_filter,List.mem_range,hlt,true_and];cases L.contains i<;>simp
theorem Fj {S:List Nat}{h:List Ob}:freeSites 0 S h=Jk S 0 h:=by
 apply List.ext_getElem?;intro i;rw [AcS];simp only [freeSites,Nat.zero_add,List.map_id'];cases hx:h[i]? with
 | none =>
   have:h.length≤i:=by
    rcases Nat.lt_or_ge i h.length with h1|h1
    ·rw [List.getElem?_eq_getElem h1] at hx;cases hx
    ·exact h1
   rw [List.getElem?_eq_none (by rw [dropRoots_len];exact this)];rfl
 | some o =>
   rw [Hl S h i o hx];simp
def Kl (d:AV)(k:Nat):List (Nat×AV)→AV
 | []=>d
 | (j,v)::l=>if j=k then v else Kl d k l
def aT (d:AV)(nt:Nat)(l:List (Nat×AV)):List AV:=(List.range nt).map fun k=>Kl d k l
def Afw:Nat→List AV→List (Nat×AV)
 | _,[]=>[]
 | k,x::xs=>(k,x)::Afw (k+1) xs
theorem aT_len {d:AV}{nt:Nat}{l:List (Nat×AV)}:(aT d nt l).length=nt:=by simp [aT]
theorem aT_get {d:AV}{nt k:Nat}{l:List (Nat×AV)}(h:k<nt):(aT d nt l)[k]? = some (Kl d k l):=by simp [aT,h]
theorem aT_getD {d u:AV}{nt k:Nat}{l:List (Nat×AV)}(h:k<nt):(aT d nt l).getD k u=Kl d k l:=by
 rw [List.getD_eq_getElem?_getD,aT_get h];rfl
theorem aT_set {d v:AV}{nt k:Nat}{l:List (Nat×AV)}(h:k<nt):(aT d nt l).set k v=aT d nt ((k,v)::l):=by
 apply List.ext_getElem?;intro i;rw [List.getElem?_set];by_cases hi:i<nt
 ·rw [aT_get hi,aT_get hi,aT_len];by_cases e:k=i
  ·subst e;simp [Kl,hi]
  ·simp [Kl,e]
 ·rw [List.getElem?_eq_none (by rw [aT_len];omega),List.getElem?_eq_none (by rw [aT_len];omega)];have:¬k=i:=by omega
  simp [this]
theorem AbC {d:AV}:∀(xs:List AV) (k i:Nat),k≤i→Kl d i (Afw k xs)=xs.getD (i-k) d:=by
 intro xs;induction xs with
 | nil=>intro k i _;rfl
 | cons x xs ih =>
   intro k i h;simp only [Afw,Kl];by_cases e:k=i
   ·subst e;simp
   ·rw [if_neg e,ih (k+1) i (by omega)];have:i-k=(i-(k+1))+1:=by omega
    rw [this];simp
theorem Jn {nt:Nat}{xs:List AV}(h:xs.length≤nt):xs++List.replicate (nt-xs.length) (.tup [])=aT (.tup []) nt (Afw 0 xs):=by
 apply List.ext_getElem?;intro i;by_cases hi:i<nt
 ·rw [aT_get hi,AbC xs 0 i (Nat.zero_le _)];by_cases hx:i<xs.length
  ·rw [List.getElem?_append_left hx];simp [hx]
  ·rw [List.getElem?_append_right (by omega),List.getElem?_replicate];have:i-xs.length<nt-xs.length:=by omega
   simp [this,List.getElem?_eq_none (Nat.le_of_not_lt hx)]
 ·have h1:(aT (.tup []) nt (Afw 0 xs))[i]? = none:=List.getElem?_eq_none (by rw [aT_len];omega);rw [h1,List.getElem?_eq_none (by simp;omega)]
theorem Ph {L:List Nat}{d:AV}{nt:Nat}{l:List (Nat×AV)}:Yd L 0 (aT d nt l)=aT .undef nt (L.map fun k=>(k,Kl d k l)):=by
 have key:∀(L:List Nat) (i:Nat),Kl .undef i (L.map fun k=>(k,Kl d k l))=if L.contains i then Kl d i l else .undef:=by
  intro L i;induction L with
  | nil=>rfl
  | cons k L ih =>
    simp only [List.map_cons,Kl,List.contains_cons];by_cases e:k=i
    ·subst e;simp
    ·have:(i==k)=false:=by simp;omega
     rw [if_neg e,ih,this,Bool.false_or]
 apply List.ext_getElem?;intro i;rw [Vy];by_cases hi:i<nt
 ·rw [aT_get hi,aT_get hi,key];simp
 ·rw [List.getElem?_eq_none (by rw [aT_len];omega),List.getElem?_eq_none (by rw [aT_len];omega)];rfl
def Ae1 (nt ns:Nat)(xs:List AV):St:={ t:=xs++List.replicate (nt-xs.length) (.tup []),h:=List.replicate ns Jv,lp:=[] }
def Ajn (res:List (Nat×Option (Bool×Nat)))(R:List AV→List Ob→Prop)(e:Ex)(σ:St):Prop :=
 match e with
 | .ext _=>False
 | _=>match resT σ res with
   | some rs=>R rs σ.h
   | none=>False
structure FnP (G:Prg)(f:FuncId)(xs:List AV)(R:List AV→List Ob→Prop):Prop where
 ok:∃F n rs σ1,G f=some F∧xs.length=F.np∧F.pure=true∧F.fo=false∧splits F xs=false∧runF G n F xs [] []=some (rs,σ1)∧R rs σ1.h
def Fn (G:Prg)(f:FuncId)(xs:List AV)(r:AV):Prop:=FnP G f xs fun rs h=>packV (treeBL 0 h rs)=r
def FnT (G:Prg)(f:FuncId)(xs:List AV)(r:AV):Prop:=FnP G f xs fun rs h=>packV (treeBL 0 h rs)=r∧rs.all AV.flats=true
theorem FnP.mk' {G:Prg}{f:FuncId}{xs:List AV}{R:List AV→List Ob→Prop}{np nt ns:Nat}{c:C}{res:List (Nat×Option (Bool×Nat))}{sp:Bool}(hf:G f=some ⟨np,nt,ns,c,res,true,false,sp⟩)
 (h1:xs.length=np) (h4:splits ⟨np,nt,ns,c,res,true,false,sp⟩ xs=false) (h:Wp G c 0 (Ae1 nt ns xs) (Ajn res R)):FnP G f xs R:=by
 obtain ⟨n,e,σ1,hx,hd⟩:=h;have hx':evC G n c ([]:List Ob).length { t:=xs++List.replicate (nt-np) (.tup []),h:=[]++List.replicate ns Jv,lp:=[] }=some (e,σ1):=by rw [←h1];exact hx
 unfold Ajn at hd;cases e with
 | ext i=>exact hd.elim
 | nrm =>
   simp only at hd;cases hr:resT σ1 res with
   | none=>simp [hr] at hd
   | some rs=>simp only [hr] at hd;exact ⟨_,n+1,rs,σ1,hf,h1,rfl,rfl,h4,by rw [runF,hx'];simp only [hr],hd⟩
 | ret =>
   simp only at hd;cases hr:resT σ1 res with
   | none=>simp [hr] at hd
   | some rs=>simp only [hr] at hd;exact ⟨_,n+1,rs,σ1,hf,h1,rfl,rfl,h4,by rw [runF,hx'];simp only [hr],hd⟩
theorem NZ (B:Nat)(h:List Ob)(xs:List AV):(treeBL B h xs).length=xs.length:=by rw [treeBL_map];simp
theorem FnP.call {G:Prg}{f:FuncId}{ys:List AV}{b:Nat}{ss:List Nat}{σ:St}{K:AV→St→Prop}{R:List AV→List Ob→Prop}(h:FnP G f (treeBL 0 σ.h ys) R)
 (hk:∀rs h1,R rs h1→K (packV (treeBL 0 h1 rs)) { σ with h:=if ys.all AV.free||rs.all AV.flats then σ.h else At σ.h (rootsL ys) }):CO G f ys b ss σ K:=by
 obtain ⟨F,n,rs,σ1,hf,h1,h2,h3,h4,hr,hR⟩:=h;rw [NZ] at h1;refine ⟨n+1,_,_,?_,hk rs σ1.h hR⟩;rw [callF,hf];simp only [h1,h2,h3,h4,if_true,hr,NQ,Bool.false_and,Bool.false_eq_true,if_false]
theorem FnT.call {G:Prg}{f:FuncId}{ys:List AV}{b:Nat}{ss:List Nat}{σ:St}{K:AV→St→Prop}{r:AV}(h:FnT G f (treeBL 0 σ.h ys) r)(hk:K r σ):CO G f ys b ss σ K:=by
 refine FnP.call h (fun rs h1 hr=>?_);rw [hr.1,hr.2,Bool.or_true,if_pos rfl];exact hk
theorem Fn.call {G:Prg}{f:FuncId}{ys:List AV}{b:Nat}{ss:List Nat}{σ:St}{K:AV→St→Prop}{r:AV}(h:Fn G f (treeBL 0 σ.h ys) r)(ha:ys.all AV.free=true)(hk:K r σ):CO G f ys b ss σ K:=by
 refine FnP.call h (fun rs h1 hr=>?_);rw [hr,ha,Bool.true_or,if_pos rfl];exact hk
theorem Ahk (bs:ByteArray):∀(n i:Nat) (r:List UInt8),bs.size-i=n→ByteArray.toList.loop bs i r=r.reverse++bs.data.toList.drop i:=by
 intro n;induction n with
 | zero =>
   intro i r h;unfold ByteArray.toList.loop;have:¬i<bs.size:=by omega
   rw [if_neg this];have h2:bs.data.toList.length≤i:=by have:bs.data.size=bs.size:=rfl;simp;omega
   rw [List.drop_eq_nil_of_le h2];simp
 | succ n ih =>
   intro i r h;unfold ByteArray.toList.loop;have hi:i<bs.size:=by omega
   rw [if_pos hi,ih (i+1) _ (by omega)];have h2:i<bs.data.toList.length:=by have:bs.data.size=bs.size:=rfl;simp;omega
   rw [List.drop_eq_getElem_cons h2];have:bs.get! i=bs.data.toList[i]:=by
    show bs.data[i]! = _;rw [getElem!_pos bs.data i (by simpa using h2)];simp
   simp [this]
theorem U1 (s:ByteArray):s.toList=s.data.toList:=by
 unfold ByteArray.toList;rw [Ahk s _ 0 [] rfl];simp
theorem Ai4 (s t:ByteArray):(s.toList==t.toList)=decide (s=t):=by
 rw [U1,U1,Bool.eq_iff_iff];simp only [beq_iff_eq,decide_eq_true_eq];exact ⟨fun h=>ByteArray.ext (Array.ext' h),fun h=>by rw [h]⟩
theorem AjB (s:ByteArray)(n:Nat):s[n]? = s.data.toList[n]? := by
 by_cases h:n<s.size
 ·have h1:s[n]? = some s[n]:=by simp [h]
  have h2:n<s.data.toList.length:=by have:s.data.size=s.size:=rfl;simp;omega
  rw [h1,List.getElem?_eq_getElem h2];rfl
 ·have h1:s[n]? = none:=by simp [h]
  have h2:s.data.toList.length≤n:=by have:s.data.size=s.size:=rfl;simp;omega
  rw [h1,List.getElem?_eq_none h2]
section
variable {G:Prg}{b:Nat}{σ:St}{k:AV→St→Prop}
theorem AhA {x:Opd}:wpI G (.mov x) b σ k=k (σ.get x) σ:=(rfl)
def AdB (c:AV)(x y:AV)(k:AV→Prop)(u:Tg k:=tg):Prop:=match c with | .bool v=>k (if v then x else y)|_=>False
theorem Agf {c x y:Opd}:wpI G (.pick c x y) b σ k=AdB (σ.get c) (σ.get x) (σ.get y) (fun v=>k v σ):=by
 simp only [wpI,ax,AdB];cases σ.get c<;>first|rfl|skip
 rename_i v;cases v<;>rfl
theorem ZO {v:Bool}{x y:AV}{k:AV→Prop}:AdB (.bool v) x y k=k (if v then x else y):=(rfl)
def KP (op:BinOp)(x y:AV)(k:AV→Prop)(u:Tg k:=tg):Prop:=match binAV op x y with|some v=>k v|none=>False
theorem Ahs {op:BinOp}{x y:Opd}:wpI G (.bin op x y) b σ k=KP op (σ.get x) (σ.get y) (fun v=>k v σ):=by
 simp only [wpI,ax,KP];cases binAV op (σ.get x) (σ.get y)<;>rfl
section
variable {κ:IntKind}{x y:Int}{q:AV→Prop}
theorem Aid:KP .add (.int κ x) (.int κ y) q=q (.int κ (κ.wrap (x+y))):=by simp [KP,binAV]
theorem Ahx:KP .sub (.int κ x) (.int κ y) q=q (.int κ (κ.wrap (x-y))):=by simp [KP,binAV]
theorem Ahq:KP .mul (.int κ x) (.int κ y) q=q (.int κ (κ.wrap (x*y))):=by simp [KP,binAV]
def Afg (κ:IntKind)(x y:Int):Int:=κ.wrap (BitVec.ofInt κ.bits x&&&BitVec.ofInt κ.bits y).toNat
def bor (κ:IntKind)(x y:Int):Int:=κ.wrap (BitVec.ofInt κ.bits x|||BitVec.ofInt κ.bits y).toNat
def Akx (κ:IntKind)(x y:Int):Int:=κ.wrap (BitVec.ofInt κ.bits x ^^^ BitVec.ofInt κ.bits y).toNat
def bandn (κ:IntKind)(x y:Int):Int:=κ.wrap (BitVec.ofInt κ.bits x &&& ~~~(BitVec.ofInt κ.bits y)).toNat
def Aj2 (κ:IntKind)(x y:Int):Int:=κ.wrap (x*2 ^ (min y.toNat κ.bits))
def Aj0 (κ:IntKind)(x y:Int):Int:=x.fdiv (2 ^ (min y.toNat κ.bits))
theorem Ail:KP .and (.int κ x) (.int κ y) q=q (.int κ (Afg κ x y)):=by simp [KP,binAV,Afg]
theorem Ajp:KP .or (.int κ x) (.int κ y) q=q (.int κ (bor κ x y)):=by simp [KP,binAV,bor]
theorem AaS:KP .andNot (.int κ x) (.int κ y) q=q (.int κ (bandn κ x y)):=by simp [KP,binAV,bandn]
theorem Ain {κ':IntKind}:KP .shl (.int κ x) (.int κ' y) q=(0≤y∧q (.int κ (Aj2 κ x y))):=by by_cases h:0≤y<;>simp [KP,binAV,h,Aj2]
theorem AiC {κ':IntKind}:KP .shr (.int κ x) (.int κ' y) q=(0≤y∧q (.int κ (Aj0 κ x y))):=by by_cases h:0≤y<;>simp [KP,binAV,h,Aj0]
theorem Aho:KP .eql (.int κ x) (.int κ y) q=q (.bool (x==y)):=by simp [KP,binAV]
theorem Ah4:KP .neq (.int κ x) (.int κ y) q=q (.bool (x != y)):=by simp [KP,binAV]
theorem Aig:KP .lss (.int κ x) (.int κ y) q=q (.bool (decide (x<y))):=by simp [KP,binAV]
theorem AiH:KP .leq (.int κ x) (.int κ y) q=q (.bool (decide (x≤y))):=by simp [KP,binAV]
theorem Aiv:KP .gtr (.int κ x) (.int κ y) q=q (.bool (decide (y<x))):=by simp [KP,binAV]
theorem AhB:KP .geq (.int κ x) (.int κ y) q=q (.bool (decide (y≤x))):=by simp [KP,binAV]
theorem AeR {s t:ByteArray}:KP .eql (.str s) (.str t) q=q (.bool (decide (s=t))):=by simp only [KP,binAV,Ai4]
theorem Aes {s t:ByteArray}:KP .neq (.str s) (.str t) q=q (.bool (!decide (s=t))):=by simp only [KP,binAV,Ai4]
end
def Akm (neg:Bool)(x y:AV)(k:AV→Prop)(u:Tg k:=tg):Prop:=match x,y with | .bool a,.bool b=>k (.bool ((a==b) != neg))|_,_=>False
def unK (op:UnOp)(x:AV)(k:AV→Prop)(u:Tg k:=tg):Prop:=match unAV op x with|some v=>k v|none=>False
theorem Aja {op:UnOp}{x:Opd}:wpI G (.un op x) b σ k=unK op (σ.get x) (fun v=>k v σ):=by
 simp only [wpI,ax,unK];cases unAV op (σ.get x)<;>rfl
theorem AjH {v:Bool}{q:AV→Prop}:unK .not (.bool v) q=q (.bool (!v)):=(rfl)
def Akq (κ:IntKind)(x:AV)(k:AV→Prop)(u:Tg k:=tg):Prop:=match x with | .int _ n=>k (.int κ (κ.wrap n))|_=>False
theorem Ahf {f:FuncId}{cs:List Opd}:wpI G (.mkf f cs) b σ k=k (.fn f (σ.gets cs)) σ:=(rfl)
def AiW (neg:Bool)(ks:List Nat)(x y:AV)(k:AV→Prop)(u:Tg k:=tg):Prop:=match x,y with | .agg xs,.agg ys=>(match eqCells ks xs ys with|some c=>k (.bool (c != neg))|none=>False)|_,_=>False
theorem AhD {neg:Bool}{ks:List Nat}{x y:Opd}:wpI G (.eqa neg ks x y) b σ k=AiW neg ks (σ.get x) (σ.get y) (fun v=>k v σ):=by
 simp only [wpI,ax,AiW];cases σ.get x<;>cases σ.get y<;>first|rfl|skip
 rename_i xs ys;simp only;cases eqCells ks xs ys<;>simp [Bm]
theorem AhX {neg:Bool}{x y x' y':Int}{κ κ':IntKind}{q:AV→Prop}:AiW neg [1,1] (.agg [.int κ x,.int κ' x']) (.agg [.int κ y,.int κ' y']) q=q (.bool ((x==y&&x'==y') != neg)):=by
 simp only [AiW,eqCells,CP,if_true];cases x==y<;>cases x'==y'<;>rfl
def Ahm (x:AV)(i:Nat)(k:AV→Prop)(u:Tg k:=tg):Prop:=match x with | .tup vs=>(match vs[i]? with|some v=>k v|none=>False)|_=>False
theorem Aij {x:Opd}{i:Nat}:wpI G (.ext x i) b σ k=Ahm (σ.get x) i (fun v=>k v σ):=by
 simp only [wpI,ax,Ahm];cases σ.get x<;>first|rfl|skip
 rename_i vs;simp only;cases h:vs[i]? <;> simp [Bm]
theorem Ajz {v:AV}{vs:List AV}{q:AV→Prop}:Ahm (.tup (v::vs)) 0 q=q v:=(rfl)
theorem AjZ {v:AV}{vs:List AV}{i:Nat}{q:AV→Prop}:Ahm (.tup (v::vs)) (i+1) q=Ahm (.tup vs) i q:=(rfl)
def AcK (x:AV)(k:AV→Prop)(u:Tg k:=tg):Prop:=match x with | .str s=>k (.int .i64 s.size)|_=>False
theorem AfK {x:Opd}:wpI G (.lens x) b σ k=AcK (σ.get x) (fun v=>k v σ):=by
 simp only [wpI,ax,AcK];cases σ.get x<;>rfl
theorem AdM {s:ByteArray}{q:AV→Prop}:AcK (.str s) q=q (.int .i64 s.size):=(rfl)
def S7 (h:List Ob)(x:AV)(k:AV→Prop)(u:Tg k:=tg):Prop :=
 match x with
 | .nils | .emp | .ne=>k (.int .i64 0)
 | .lst xs=>k (.int .i64 xs.length)
 | .sl r st p ss off len=>match node h r st p ss with
   | some (.own ..)=>k (.int .i64 len)
   | _=>False
 | _=>False
theorem Ago {x:Opd}:wpI G (.lenl x) b σ k=S7 σ.h (σ.get x) (fun v=>k v σ):=by
 simp only [wpI,ax,S7];cases σ.get x<;>first|rfl|skip
 rename_i r st p ss off len;simp only;cases node σ.h r st p ss with
 | none=>rfl
 | some nd=>cases nd<;>rfl
theorem AdI {h:List Ob}{xs:List AV}{q:AV→Prop}:S7 h (.lst xs) q=q (.int .i64 xs.length):=(rfl)
theorem AaE {h:List Ob}{q:AV→Prop}:S7 h .nils q=q (.int .i64 0):=(rfl)
def Br (h:List Ob)(r st:Nat)(p:Path)(ss:Nat)(k:AV→Prop)(u:Tg k:=tg):Prop :=
 match node h r st p ss with
 | some nd=>k nd
 | none=>False
def Jl (x:AV)(k:Nat→List AV→Prop)(u:Tg k:=tg):Prop:=match x with | .own es xs=>k es xs|_=>False
theorem Af6 {es:Nat}{xs:List AV}{q:Nat→List AV→Prop}:Jl (.own es xs) q=q es xs:=(rfl)
theorem YW {h:List Ob}{r st:Nat}{p:Path}{ss off len:Nat}{q:AV→Prop}:S7 h (.sl r st p ss off len) q=Br h r st p ss (fun nd=>Jl nd (fun _ _=>q (.int .i64 len))):=by
 simp only [S7,Br,Jl];cases node h r st p ss with
 | none=>rfl
 | some nd=>cases nd<;>rfl
def obK (o:Option Ob)(k:Ob→Prop)(u:Tg k:=tg):Prop:=match o with|some o=>k o|none=>False
theorem Afb {o:Ob}{q:Ob→Prop}:obK (some o) q=q o:=(rfl)
def Abs (x:AV)(p:Path)(k:AV→Prop)(u:Tg k:=tg):Prop:=match nav x p with|some y=>k y|none=>False
theorem Afr {h:List Ob}{r st:Nat}{p:Path}{ss:Nat}{q:AV→Prop}:Br h r st p ss q=obK h[r]? (fun o=>(o.st=st∧(p = []∨o.ss=ss))∧Abs o.c p q):=by
 simp only [Br,node,obK,Abs];cases h[r]? with
 | none=>rfl
 | some o =>
   simp only;by_cases hc:o.st=st∧(p = []∨o.ss=ss)
   ·rw [if_pos hc];simp [hc]
   ·rw [if_neg hc];simp [hc]
def elK (xs:List AV)(i:Nat)(k:AV→Prop)(u:Tg k:=tg):Prop:=match xs[i]? with|some e=>k e|none=>False
theorem AfY {x:AV}{q:AV→Prop}:Abs x [] q=q x:=by simp [Abs,nav]
theorem AbG {es:Nat}{xs:List AV}{i j:Nat}{p:Path}{q:AV→Prop}:Abs (.own es xs) ((i,j)::p) q=elK xs i (fun e=>elK e.cells j (fun c=>Abs c p q)):=by
 simp only [Abs,nav,elK];cases xs[i]? with
 | none=>rfl
 | some e=>simp only;cases e.cells[j]? <;> rfl
theorem Ahi {α:Type}[Inhabited α]{l:List α}{f:α→AV}{i:Nat}{q:AV→Prop}:elK (l.map f) i q=(i<l.length∧q (f l[i]!)):=by
 simp only [elK,List.getElem?_map];by_cases h:i<l.length
 ·simp [h,List.getElem?_eq_getElem h,getElem!_pos]
 ·simp [h,List.getElem?_eq_none (Nat.le_of_not_lt h)]
theorem Aj9 {x:AV}{xs:List AV}{q:AV→Prop}:elK (x::xs) 0 q=q x:=(rfl)
theorem Aj8 {x:AV}{xs:List AV}{i:Nat}{q:AV→Prop}:elK (x::xs) (i+1) q=elK xs i q:=(rfl)
def Ah0 (h:List Ob)(es:Nat)(x i:AV)(k:AV→Prop)(u:Tg k:=tg):Prop :=
 match x,i with
 | .lst xs,.int _ i=>0≤i∧elK xs i.toNat (fun e=>e.cells.length=es∧k (.pfro e.cells))
 | .sl r st p ss off len,.int _ i=>(0≤i∧i<(len:Int))∧Br h r st p ss (fun nd=>Jl nd (fun es' _=>es'=es∧k (.ptr r st p ss (off+i.toNat) 0)))
 | _,_=>False
theorem Ah9 {es:Nat}{x i:Opd}:wpI G (.iad es x i) b σ k=Ah0 σ.h es (σ.get x) (σ.get i) (fun v=>k v σ):=by
 simp only [wpI,ax,Ah0];cases σ.get x<;>cases σ.get i<;>first|rfl|skip
 ·rename_i xs κ n;simp only [elK];by_cases hn:0≤n
  ·rw [if_pos hn];cases xs[n.toNat]? with
   | none=>simp [Bm]
   | some e=>by_cases he:e.cells.length=es<;>simp [he,hn,Bm]
  ·rw [if_neg hn];simp [hn,Bm]
 ·rename_i r st p ss off len κ n;simp only [Br,Jl];by_cases hn:0≤n∧n<(len:Int)
  ·rw [if_pos hn];cases node σ.h r st p ss with
   | none=>simp [Bm]
   | some nd =>
     cases nd<;>simp [Bm,hn];rename_i es' xs;by_cases he:es'=es<;>simp [he]
  ·rw [if_neg hn];simp [hn,Bm]
theorem AgI {h:List Ob}{es:Nat}{xs:List AV}{κ:IntKind}{n:Int}{q:AV→Prop}:Ah0 h es (.lst xs) (.int κ n) q=(0≤n∧elK xs n.toNat (fun e=>e.cells.length=es∧q (.pfro e.cells))):=(rfl)
theorem Adj {h:List Ob}{es r st:Nat}{p:Path}{ss off len:Nat}{κ:IntKind}{n:Int}{q:AV→Prop}:Ah0 h es (.sl r st p ss off len) (.int κ n) q =
 ((0≤n∧n<(len:Int))∧Br h r st p ss (fun nd=>Jl nd (fun es' _=>es'=es∧q (.ptr r st p ss (off+n.toNat) 0)))):=(rfl)
def AiR (x i:AV)(k:AV→Prop)(u:Tg k:=tg):Prop :=
 match x,i with
 | .str s,.int _ i=>0≤i∧(match s[i.toNat]? with|some c=>k (.int .u8 c.toNat)|none=>False)
 | _,_=>False
theorem Ahy {x i:Opd}:wpI G (.idx x i) b σ k=AiR (σ.get x) (σ.get i) (fun v=>k v σ):=by
 simp only [wpI,ax,AiR];cases σ.get x<;>cases σ.get i<;>first|rfl|skip
 rename_i s κ n;simp only;by_cases hn:0≤n
 ·rw [if_pos hn];cases s[n.toNat]? <;> simp [Bm,hn]
 ·rw [if_neg hn];simp [hn,Bm]
theorem AgF {s:ByteArray}{κ:IntKind}{n:Int}{q:AV→Prop}:AiR (.str s) (.int κ n) q=(0≤n∧n.toNat<s.data.toList.length∧q (.int .u8 (s.data.toList[n.toNat]!).toNat)):=by
 simp only [AiR,AjB];by_cases hn:n.toNat<s.data.toList.length
 ·rw [List.getElem?_eq_getElem hn,getElem!_pos s.data.toList n.toNat hn];simp only [hn,true_and]
 ·rw [List.getElem?_eq_none (by omega)];simp only [hn,false_and]
end
end Go.Mw
