/- How simp steps through code: memory. -/
import Derived.Test.YtondemeliogjmaaGreatM15
set_option linter.unusedVariables false
set_option linter.unusedSimpArgs false
namespace Go.Mw
section
variable {G:Prg}{b:Nat}{σ:St}{k:AV→St→Prop}
def LX (h:List Ob)(r:Nat)(c:AV)(k:List Ob→Nat→Prop)(u:Tg k:=tg):Prop:=match newOb h r c with|some (h',st)=>k h' st|none=>False
def Up (c:AV)(p:Prop)(u:Tg p:=tg):Prop:=match c with | .gone=>p|_=>False
theorem goneK_gone {p:Prop}:Up .gone p=p:=(rfl)
theorem newK_eq {h:List Ob}{r:Nat}{c:AV}{q:List Ob→Nat→Prop}:LX h r c q=obK h[r]? (fun o=>Up o.c (q (h.set r ⟨o.st+1,0,c⟩) (o.st+1))):=by
 simp only [LX,newOb,obK,Up];cases h[r]? with
 | none=>rfl
 | some o=>simp only;cases o.c<;>rfl
def HY (cs:List AV):Prop:=cs.all AV.plain=true
theorem allPlain_nil:HY []=True:=by simp [HY]
theorem allPlain_cons {c:AV}{cs:List AV}:HY (c::cs)=(c.plain=true∧HY cs):=by simp [HY]
theorem wpI_alc {s es:Nat}{z:AV}:wpI G (.alc s es z) b σ k=((z.cells.length=es∧0<es∧HY z.cells)∧LX σ.h (b+s) (.own es [z]) (fun h st=>k (.ptr (b+s) st [] 0 0 0) { σ with h })):=by
 simp only [wpI,ax,LX,HY];by_cases hc:z.cells.length=es∧0<es∧z.cells.all AV.plain=true
 ·rw [if_pos hc];simp only [hc,true_and];cases newOb σ.h (b+s) (.own es [z])<;>simp [Bj]
 ·rw [if_neg hc];simp only [hc,false_and,Bj]
def FD (h:List Ob)(r:Nat)(p:Path)(v:AV)(bump:Bool)(k:List Ob→Prop)(u:Tg k:=tg):Prop:=match setOb h r p v bump with|some h'=>k h'|none=>False
def Vs (x:AV)(p:Path)(v:AV)(k:AV→Prop)(u:Tg k:=tg):Prop:=match upd x p v with|some c=>k c|none=>False
theorem updK_nil {x v:AV}{q:AV→Prop}:Vs x [] v q=q v:=by simp [Vs,upd]
theorem updK_cons {es:Nat}{xs:List AV}{i j:Nat}{p:Path}{v:AV}{q:AV→Prop}:Vs (.own es xs) ((i,j)::p) v q=elK xs i (fun e=>elK e.cells j (fun c=>Vs c p v (fun c'=>q (.own es (xs.set i (setCellOf e j c')))))):=by
 simp only [Vs,upd,elK];cases xs[i]? with
 | none=>rfl
 | some e =>
   simp only;cases e.cells[j]? with
   | none=>rfl
   | some c=>simp only;cases upd c p v<;>rfl
theorem setObK_eq {h:List Ob}{r:Nat}{p:Path}{v:AV}{bump:Bool}{q:List Ob→Prop}:FD h r p v bump q=obK h[r]? (fun o=>Vs o.c p v (fun c=>q (h.set r ⟨o.st,if bump then o.ss+1 else o.ss,c⟩))):=by
 simp only [FD,setOb,obK,Vs];cases h[r]? with
 | none=>rfl
 | some o=>simp only;cases upd o.c p v<;>rfl
def Et (h:List Ob)(n:Nat)(v:AV)(k:List AV→Prop)(u:Tg k:=tg):Prop:=match vcells h n v with|some vs=>k vs|none=>False
def Ph (h:List Ob)(v:AV):Prop:=KI h v=true
def BJ (h:List Ob)(v:AV)(k:AV→List Ob→Prop)(u:Tg k:=tg):Prop:=match takeCell h v with|some (c,h')=>k c h'|none=>False
def Ca (h:List Ob)(vs:List AV)(k:List AV→List Ob→Prop)(u:Tg k:=tg):Prop:=match takeCells h vs with|some (cs,h')=>k cs h'|none=>False
def Hd (h:List Ob)(n:Nat)(v:AV)(k:AV→List Ob→Prop)(u:Tg k:=tg):Prop:=match takeVal h n v with|some (c,h')=>k c h'|none=>False
def EL (h:List Ob)(n:Nat)(vs:List AV)(k:List AV→List Ob→Prop)(u:Tg k:=tg):Prop:=match takeVals h n vs with|some (cs,h')=>k cs h'|none=>False
theorem vcellsK_agg {h:List Ob}{n:Nat}{cs:List AV}{q:List AV→Prop}:Et h n (.agg cs) q=(cs.length=n∧q cs):=by
 simp only [Et,vcells];by_cases hc:cs.length=n<;>simp [hc]
theorem vcellsK_one {h:List Ob}{n:Nat}{v:AV}{q:List AV→Prop}(hv:v.cells = [v]):Et h n v q=((n=1∧Ph h v)∧q [v]):=by
 simp only [Et,vcells,Ph];split
 ·rename_i he;split at he
  ·rename_i xs cs;simp only [AV.cells] at hv;have h2:=congrArg SizeOf.sizeOf hv;simp at h2;omega
  ·split at he
   ·rename_i hc;cases he;simp [hc]
   ·cases he
 ·rename_i he;split at he
  ·rename_i xs cs;simp only [AV.cells] at hv;have h2:=congrArg SizeOf.sizeOf hv;simp at h2;omega
  ·split at he
   ·cases he
   ·rename_i hc;simp [hc]
theorem takeCellK_plain {h:List Ob}{v:AV}{q:AV→List Ob→Prop}(hv:v.plain=true):BJ h v q=q v h:=by
 cases v<;>first|(simp [AV.plain] at hv;done)|rfl|skip
 simp only [BJ,takeCell];rw [if_pos hv]
theorem takeCellK_sl {h:List Ob}{r st:Nat}{p:Path}{ss off len:Nat}{q:AV→List Ob→Prop} :
 BJ h (.sl r st p ss off len) q=Bd h r st p ss (fun nd=>FX nd (fun es xs=>(off=0∧len≤xs.length)∧FD h r p .gone false (fun h'=>q (.own es (xs.take len)) h'))):=by
 simp only [BJ,takeCell,Bd,FX,FD];cases node h r st p ss with
 | none=>rfl
 | some nd =>
   cases nd<;>first|rfl|skip
   rename_i es xs;simp only;by_cases hc:off=0∧len≤xs.length
   ·rw [if_pos hc];simp only [hc,true_and];cases setOb h r p .gone false<;>simp
   ·rw [if_neg hc];simp only [hc,false_and]
theorem takeCellsK_nil {h:List Ob}{q:List AV→List Ob→Prop}:Ca h [] q=q [] h:=(rfl)
theorem takeCellsK_cons {h:List Ob}{v:AV}{vs:List AV}{q:List AV→List Ob→Prop}:Ca h (v::vs) q=BJ h v (fun c h1=>Ca h1 vs (fun cs h2=>q (c::cs) h2)):=by
 simp only [Ca,takeCells,BJ];cases takeCell h v with
 | none=>rfl
 | some p=>simp only;cases takeCells p.2 vs<;>rfl
theorem takeValK_eq {h:List Ob}{n:Nat}{v:AV}{q:AV→List Ob→Prop}:Hd h n v q=Et h n v (fun vs=>Ca h vs (fun cs h'=>q (PX v cs) h')):=by
 simp only [Hd,takeVal,Et,Ca];cases vcells h n v with
 | none=>rfl
 | some vs=>simp only;cases takeCells h vs<;>rfl
theorem takeValsK_nil {h:List Ob}{n:Nat}{q:List AV→List Ob→Prop}:EL h n [] q=q [] h:=(rfl)
theorem takeValsK_cons {h:List Ob}{n:Nat}{v:AV}{vs:List AV}{q:List AV→List Ob→Prop}:EL h n (v::vs) q=Hd h n v (fun c h1=>EL h1 n vs (fun cs h2=>q (c::cs) h2)):=by
 simp only [EL,takeVals,Hd];cases takeVal h n v with
 | none=>rfl
 | some p=>simp only;cases takeVals p.2 n vs<;>rfl
theorem remake_agg {cs ds:List AV}:PX (.agg cs) ds = .agg ds:=(rfl)
theorem remake_one {v:AV}{d:AV}(hv:v.cells = [v]):PX v [d]=d:=by
 cases v<;>first|rfl|skip
 rename_i cs;simp only [AV.cells] at hv;have h2:=congrArg SizeOf.sizeOf hv;simp at h2;omega
theorem wpI_box {s es:Nat}{x:Opd}:wpI G (.box s es x) b σ k=(0<es∧Hd σ.h es (σ.get x) (fun v h1=>LX h1 (b+s) (.own es [v]) (fun h st=>k (.ptr (b+s) st [] 0 0 0) { σ with h }))):=by
 simp only [wpI,ax,Hd,LX];by_cases hc:0<es
 ·rw [if_pos hc];simp only [hc,true_and];cases takeVal σ.h es (σ.get x) with
  | none=>rfl
  | some p=>simp only;cases newOb p.2 (b+s) (.own es [p.1])<;>simp [Bj]
 ·rw [if_neg hc];simp only [hc,false_and,Bj]
theorem wpI_bsl {s es n:Nat}{xs:List Opd}:wpI G (.bsl s es n xs) b σ k=((xs.length=n∧0<es)∧if n=0 then k .emp σ else EL σ.h es (σ.gets xs) (fun vs h1=>LX h1 (b+s) (.own es vs) (fun h st=>k (.sl (b+s) st [] 0 0 n) { σ with h }))):=by
 simp only [wpI,ax,EL,LX];by_cases hc:xs.length=n∧0<es
 ·rw [if_pos hc];simp only [hc,true_and];by_cases h0:n=0
  ·rw [if_pos h0,if_pos h0];simp [Bj]
  ·rw [if_neg h0,if_neg h0];cases takeVals σ.h es (σ.gets xs) with
   | none=>simp [Bj]
   | some p=>simp only;cases newOb p.2 (b+s) (.own es p.1)<;>simp [Bj]
 ·rw [if_neg hc];simp only [hc,false_and,Bj]
theorem wpI_mkm {s:Nat}:wpI G (.mkm s) b σ k=LX σ.h (b+s) (.ownm []) (fun h st=>k (.mp (b+s) st [] 0) { σ with h }):=by
 simp only [wpI,ax,LX];cases newOb σ.h (b+s) (.ownm [])<;>simp [Bj]
def AfO (l c:AV)(k:Int→Prop)(u:Tg k:=tg):Prop:=match l,c with | .int .i64 l,.int .i64 c=>l=c∧k l|_,_=>False
theorem mksK_int {l c:Int}{q:Int→Prop}:AfO (.int .i64 l) (.int .i64 c) q=(l=c∧q l):=(rfl)
theorem wpI_mks {s es bytes:Nat}{z:AV}{l c:Opd}:wpI G (.mks s es bytes z l c) b σ k=AfO (σ.get l) (σ.get c) (fun n=>(0≤n∧n≤4294967296∧bytes≤4096∧0<es) ∧
 LX σ.h (b+s) (.own es (List.replicate n.toNat z)) (fun h st=>k (.sl (b+s) st [] 0 0 n.toNat) { σ with h })):=by
 simp only [wpI,ax,AfO,LX];generalize σ.get l=u;generalize σ.get c=v;cases u<;>first|rfl|skip
 rename_i κ n;cases κ<;>first|rfl|skip
 cases v<;>first|rfl|skip
 rename_i κ' n';cases κ'<;>first|rfl|skip
 simp only;by_cases hc:n=n'∧0≤n∧n≤4294967296∧bytes≤4096∧0<es
 ·rw [if_pos hc];obtain ⟨rfl,h1,h2,h3,h4⟩:=hc;cases newOb σ.h (b+s) (.own es (List.replicate n.toNat z))<;>simp [Bj,h1,h2,h3,h4]
 ·rw [if_neg hc];by_cases h1:n=n'
  ·simp only [h1,true_and] at hc ⊢;simp only [hc,false_and,Bj]
  ·simp only [h1,false_and,Bj]
def QF (r st:Nat)(p:Path)(ss:Nat)(c:AV)(k:AV→Prop)(u:Tg k:=tg):Prop:=match outv r st p ss c with|some v=>k v|none=>False
theorem outvK_own {r st:Nat}{p:Path}{ss es:Nat}{xs:List AV}{q:AV→Prop}:QF r st p ss (.own es xs) q=q (.sl r st p ss 0 xs.length):=(rfl)
theorem outvK_ownm {r st:Nat}{p:Path}{ss:Nat}{es:List (AV×AV)}{q:AV→Prop}:QF r st p ss (.ownm es) q=q (.mp r st p ss):=(rfl)
theorem outvK_plain {r st:Nat}{p:Path}{ss:Nat}{c:AV}{q:AV→Prop}(hc:c.plain=true):QF r st p ss c q=q c:=by
 cases c<;>first|rfl|(simp [AV.plain] at hc)
def QM (r st:Nat)(p:Path)(ss i j:Nat)(cs:List AV)(k:List AV→Prop)(u:Tg k:=tg):Prop:=match outL r st p ss i j cs with|some vs=>k vs|none=>False
theorem outLK_nil {r st:Nat}{p:Path}{ss i j:Nat}{q:List AV→Prop}:QM r st p ss i j [] q=q []:=(rfl)
theorem outLK_cons {r st:Nat}{p:Path}{ss i j:Nat}{c:AV}{cs:List AV}{q:List AV→Prop}:QM r st p ss i j (c::cs) q=QF r st (p++[(i,j)]) ss c (fun v=>QM r st p ss i (j+1) cs (fun vs=>q (v::vs))):=by
 simp only [QM,outL,QF];cases outv r st (p++[(i,j)]) ss c with
 | none=>rfl
 | some v=>simp only;cases outL r st p ss i (j+1) cs<;>rfl
def N7 (cs:List AV)(k:AV→Prop)(u:Tg k:=tg):Prop:=match cs with|c::_=>k c | []=>False
theorem headK_cons {c:AV}{cs:List AV}{q:AV→Prop}:N7 (c::cs) q=q c:=(rfl)
def ldK (h:List Ob)(ag:Bool)(n:Nat)(a:AV)(k:AV→Prop)(u:Tg k:=tg):Prop :=
 match a with
 | .pfro cs=>n≤cs.length∧if ag then k (.agg (cs.take n)) else N7 cs k
 | .ptr r st p ss i j=>Bd h r st p ss (fun nd=>FX nd (fun _ xs=>elK xs i (fun e=>j+n≤e.cells.length∧obK h[r]? (fun o=>QM r st p o.ss i j ((e.cells.drop j).take n) (fun cs=>if ag then k (.agg cs) else cs.length=1∧N7 cs k)))))
 | _=>False
theorem wpI_ld {ag:Bool}{n:Nat}{a:Opd}:wpI G (.ld ag n a) b σ k=ldK σ.h ag n (σ.get a) (fun v=>k v σ):=by
 simp only [wpI,ax,ldK];cases σ.get a<;>first|rfl|skip
 ·rename_i cs;simp only;by_cases hc:n≤cs.length
  ·rw [if_pos hc];cases ag
   ·cases cs with
    | nil=>simp [Bj,N7]
    | cons c cs=>simp only [hc,true_and,Bool.false_eq_true,if_false,N7];rfl
   ·simp [Bj,hc]
  ·rw [if_neg hc];simp only [hc,false_and,Bj]
 ·rename_i r st p ss i j;simp only [Bd,FX,elK,obK,QM,N7];cases hn:node σ.h r st p ss with
  | none=>rfl
  | some nd =>
    obtain ⟨o,ho,_⟩:=Bm.1 hn;cases nd with
    | own es xs =>
      simp only [ho];cases xs[i]? with
      | none=>rfl
      | some e =>
        simp only;by_cases hc:j+n≤e.cells.length
        ·rw [if_pos hc];simp only [hc,true_and];cases outL r st p o.ss i j ((e.cells.drop j).take n) with
         | none=>rfl
         | some cs =>
           simp only;cases ag
           ·simp only [Bool.false_eq_true,if_false];cases cs with
            | nil=>simp [Bj]
            | cons c cs=>cases cs<;>simp [Bj]
           ·rfl
        ·rw [if_neg hc];simp only [hc,false_and,Bj]
    | _=>rfl
theorem ldK_pfro {h:List Ob}{ag:Bool}{n:Nat}{cs:List AV}{q:AV→Prop}:ldK h ag n (.pfro cs) q=(n≤cs.length∧if ag then q (.agg (cs.take n)) else N7 cs q):=(rfl)
theorem ldK_ptr {h:List Ob}{ag:Bool}{n r st:Nat}{p:Path}{ss i j:Nat}{q:AV→Prop}:ldK h ag n (.ptr r st p ss i j) q =
 Bd h r st p ss (fun nd=>FX nd (fun _ xs=>elK xs i (fun e=>j+n≤e.cells.length∧obK h[r]? (fun o=>QM r st p o.ss i j ((e.cells.drop j).take n) (fun cs=>if ag then q (.agg cs) else cs.length=1∧N7 cs q))))):=(rfl)
def AfT (h:List Ob)(n:Nat)(a x:AV)(k:List Ob→Prop)(u:Tg k:=tg):Prop :=
 match a with
 | .ptr r st p ss i j=>Bd h r st p ss (fun nd=>FX nd (fun es0 _=>Et h n x (fun vs=>Ca h vs (fun cs h1=>obK h1[r]? (fun o=>YQ o.c p (fun nd1=>FX nd1 (fun es xs=>elK xs i (fun e =>
    (es0=es∧j+n≤e.cells.length)∧FD h1 r p (.own es (xs.set i (setCells e j cs))) (cs.any isNode||((e.cells.drop j).take n).any isNode) k))))))))
 | _=>False
theorem wpI_sto {n:Nat}{a x:Opd}:wpI G (.sto n a x) b σ k=AfT σ.h n (σ.get a) (σ.get x) (fun h=>k .undef { σ with h }):=by
 simp only [wpI,ax,AfT];cases σ.get a<;>first|rfl|skip
 rename_i r st p ss i j;simp only [Bd,FX,Et,Ca,obK,YQ,elK,FD];cases node σ.h r st p ss with
 | none=>rfl
 | some nd =>
   cases nd<;>first|rfl|skip
   rename_i es0 xs0;simp only;cases vcells σ.h n (σ.get x) with
   | none=>rfl
   | some vs =>
     simp only;cases takeCells σ.h vs with
     | none=>rfl
     | some p1 =>
       obtain ⟨cs,h1⟩:=p1;simp only [nodeAt];cases h1[r]? with
       | none=>rfl
       | some o =>
         simp only;cases nav o.c p with
         | none=>rfl
         | some nd1 =>
           cases nd1<;>first|rfl|skip
           rename_i es xs;simp only;cases xs[i]? with
           | none=>rfl
           | some e =>
             simp only;by_cases hc:es0=es∧j+n≤e.cells.length
             ·rw [if_pos hc];simp only [hc,true_and];cases setOb h1 r p (.own es (xs.set i (setCells e j cs))) (cs.any isNode||((e.cells.drop j).take n).any isNode)<;>simp [Bj]
             ·rw [if_neg hc];simp only [hc,false_and,Bj]
theorem stoK_ptr {h:List Ob}{n r st:Nat}{p:Path}{ss i j:Nat}{x:AV}{q:List Ob→Prop}:AfT h n (.ptr r st p ss i j) x q =
 Bd h r st p ss (fun nd=>FX nd (fun es0 _=>Et h n x (fun vs=>Ca h vs (fun cs h1=>obK h1[r]? (fun o=>YQ o.c p (fun nd1=>FX nd1 (fun es xs=>elK xs i (fun e =>
 (es0=es∧j+n≤e.cells.length)∧FD h1 r p (.own es (xs.set i (setCells e j cs))) (cs.any isNode||((e.cells.drop j).take n).any isNode) q)))))))):=(rfl)
def Afj (h:List Ob)(off:Nat)(x:AV)(k:AV→Prop)(u:Tg k:=tg):Prop :=
 match x with
 | .pfro cs=>off≤cs.length∧k (.pfro (cs.drop off))
 | .ptr r st p ss i j=>Bd h r st p ss (fun nd=>FX nd (fun _ _=>k (.ptr r st p ss i (j+off))))
 | _=>False
theorem wpI_fad {off:Nat}{x:Opd}:wpI G (.fad off x) b σ k=Afj σ.h off (σ.get x) (fun v=>k v σ):=by
 simp only [wpI,ax,Afj];cases σ.get x<;>first|rfl|skip
 ·rename_i cs;simp only;by_cases hc:off≤cs.length
  ·rw [if_pos hc];simp [Bj,hc]
  ·rw [if_neg hc];simp [Bj,hc]
 ·rename_i r st p ss i j;simp only [Bd,FX];cases node σ.h r st p ss with
  | none=>rfl
  | some nd=>cases nd<;>rfl
theorem fadK_pfro {h:List Ob}{off:Nat}{cs:List AV}{q:AV→Prop}:Afj h off (.pfro cs) q=(off≤cs.length∧q (.pfro (cs.drop off))):=(rfl)
theorem fadK_ptr {h:List Ob}{off r st:Nat}{p:Path}{ss i j:Nat}{q:AV→Prop}:Afj h off (.ptr r st p ss i j) q=Bd h r st p ss (fun nd=>FX nd (fun _ _=>q (.ptr r st p ss i (j+off)))):=(rfl)
def Ag9 (ag:Bool)(off n:Nat)(x:AV)(k:AV→Prop)(u:Tg k:=tg):Prop :=
 match x with
 | .agg cs=>off+n≤cs.length∧if ag then k (.agg ((cs.drop off).take n)) else N7 (cs.drop off) k
 | _=>False
def AfV (h:List Ob)(len es:Nat)(x i:AV)(k:AV→Prop)(u:Tg k:=tg):Prop :=
 match x,i with
 | .pfro cs,.int _ i=>(0≤i∧i<(len:Int)∧i.toNat*es≤cs.length)∧k (.pfro (cs.drop (i.toNat*es)))
 | .ptr r st p ss m j,.int _ i=>(0≤i∧i<(len:Int))∧Bd h r st p ss (fun nd=>FX nd (fun _ _=>k (.ptr r st p ss m (j+i.toNat*es))))
 | _,_=>False
theorem wpI_iaa {len es:Nat}{x i:Opd}:wpI G (.iaa len es x i) b σ k=AfV σ.h len es (σ.get x) (σ.get i) (fun v=>k v σ):=by
 simp only [wpI,ax,AfV];cases σ.get x<;>cases σ.get i<;>first|rfl|skip
 ·rename_i cs κ n;simp only;by_cases hc:0≤n∧n<(len:Int)∧n.toNat*es≤cs.length
  ·rw [if_pos hc];simp [Bj,hc]
  ·rw [if_neg hc];simp only [hc,false_and,Bj]
 ·rename_i r st p ss m j κ n;simp only [Bd,FX];by_cases hc:0≤n∧n<(len:Int)
  ·rw [if_pos hc];simp only [hc,true_and];cases node σ.h r st p ss with
   | none=>simp [Bj]
   | some nd=>cases nd<;>simp [Bj]
  ·rw [if_neg hc];simp only [hc,false_and,Bj]
theorem iaaK_ptr {h:List Ob}{len es r st:Nat}{p:Path}{ss m j:Nat}{κ:IntKind}{n:Int}{q:AV→Prop}:AfV h len es (.ptr r st p ss m j) (.int κ n) q=((0≤n∧n<(len:Int))∧Bd h r st p ss (fun nd=>FX nd (fun _ _=>q (.ptr r st p ss m (j+n.toNat*es))))):=(rfl)
def Ag5 (ag:Bool)(len es:Nat)(x i:AV)(k:AV→Prop)(u:Tg k:=tg):Prop :=
 match x,i with
 | .agg cs,.int _ i=>(0≤i∧i<(len:Int)∧i.toNat*es+es≤cs.length)∧if ag then k (.agg ((cs.drop (i.toNat*es)).take es)) else (match cs[i.toNat*es]? with|some c=>k c|none=>False)
 | _,_=>False
def AdN (σ:St)(cs:List AV)(ps:List (Nat×Nat×Opd))(k:List AV→Prop)(u:Tg k:=tg):Prop:=match bldAV σ cs ps with|some cs=>k cs|none=>False
theorem bldK_nil {cs:List AV}{q:List AV→Prop}:AdN σ cs [] q=q cs:=(rfl)
theorem bldK_cons {cs:List AV}{off n:Nat}{x:Opd}{ps:List (Nat×Nat×Opd)}{q:List AV→Prop} :
 AdN σ cs ((off,n,x)::ps) q=Et σ.h n (σ.get x) (fun vs=>off+n≤cs.length∧AdN σ (cs.take off++vs++cs.drop (off+n)) ps q):=by
 simp only [AdN,bldAV,Et];cases vcells σ.h n (σ.get x) with
 | none=>rfl
 | some vs=>simp only;by_cases hc:off+n≤cs.length<;>simp [hc]
theorem wpI_bld {z:List AV}{ps:List (Nat×Nat×Opd)}:wpI G (.bld z ps) b σ k=AdN σ z ps (fun cs=>k (.agg cs) σ):=by
 simp only [wpI,ax,AdN];cases bldAV σ z ps<;>rfl
def Ag1 (mx:Bool)(x y:AV)(k:AV→Prop)(u:Tg k:=tg):Prop:=match x,y with | .int κ a,.int κ' c=>κ=κ'∧k (.int κ (if mx then (if c>a then c else a) else (if c<a then c else a)))|_,_=>False
def AgZ (x:AV)(k:AV→Prop)(u:Tg k:=tg):Prop:=match x with | .lst xs=>k (.pfro [.lst xs])|_=>False
def Aa8 (h:List Ob)(neg:Bool)(x y:AV)(k:AV→Prop)(u:Tg k:=tg):Prop:=match y with | .nils=>(match nilAV h x with|some c=>k (.bool (c != neg))|none=>False)|_=>False
theorem wpI_nilc {neg:Bool}{x y:Opd}:wpI G (.nilc neg x y) b σ k=Aa8 σ.h neg (σ.get x) (σ.get y) (fun v=>k v σ):=by
 simp only [wpI,ax,Aa8];cases σ.get y<;>first|rfl|skip
 simp only;cases nilAV σ.h (σ.get x)<;>simp [Bj]
theorem nilcK_lst {h:List Ob}{neg:Bool}{x:AV}{xs:List AV}{q:AV→Prop}:Aa8 h neg (.lst (x::xs)) .nils q=q (.bool (false != neg)):=(rfl)
end
end Go.Mw
namespace Go.Mw
def KC (e:AV)(es r st:Nat)(xs:List AV):AV:=if xs = [] then e else .sl r st [] 0 0 xs.length
def Mp (es:Nat)(xs:List AV):AV:=if xs = [] then .gone else .own es xs
def cellv (e:AV)(es:Nat)(xs:List AV):AV:=if xs = [] then e else .own es xs
def NF (e:AV)(xs:List AV):AV:=if xs = [] then e else .gone
def Nv (e:AV)(es r st:Nat)(p:Path)(ss:Nat)(xs:List AV):AV:=if xs = [] then e else .sl r st p ss 0 xs.length
def sta (xs:List AV)(st:Nat):Nat:=if xs = [] then st else st+1
def ssa (xs:List AV)(ss:Nat):Nat:=if xs = [] then ss else 0
section
variable {G:Prg}{b:Nat}{σ:St}{k:AV→St→Prop}
def Fx (xs:List AV):Bool:=xs.all fun e:AV=>e.cells.all AV.plain
def yob (ys:List AV)(o:Ob):Ob:=if Fx ys=true then o else ⟨o.st,o.ss,.gone⟩
theorem yob_st {ys:List AV}{o:Ob}:(yob ys o).st=o.st:=by unfold yob;split<;>rfl
def JI (es:Nat)(ys:List AV):Prop:=(ys.head?.all fun e:AV=>e.cells.length==es)=true
theorem headOk_map {α:Type}{l:List α}{f:α→AV}{es:Nat}(h:∀x,(f x).cells.length=es):JI es (l.map f)=True:=by
 cases l<;>simp [JI,h]
theorem headOk_nil {es:Nat}:JI es []=True:=by simp [JI]
theorem headOk_cons {es:Nat}{y:AV}{ys:List AV}:JI es (y::ys)=(y.cells.length=es):=by simp [JI]
def appYK (h:List Ob)(es:Nat)(y:AV)(k:List AV→List Ob→Prop)(u:Tg k:=tg):Prop:=match appY h es y with|some (ys,h1)=>k ys h1|none=>False
def PT (h:List Ob)(es:Nat)(x:AV)(k:List AV→List Ob→Prop)(u:Tg k:=tg):Prop:=match appX h es x with|some (xs,h1)=>k xs h1|none=>False
def VC (x:AV)(xs ys:List AV)(es bytes:Nat)(h:List Ob)(r:Nat)(k:AV→List Ob→Prop)(u:Tg k:=tg):Prop :=
 if xs.isEmpty=true∧ys.isEmpty=true then (match x with | .nils=>k .nils h | .emp=>k .emp h | .lst _=>k (.lst []) h|_=>False)
 else (xs.length+ys.length≤4294967296∧0<bytes∧bytes≤4096∧0<es∧x.isLst=false)∧LX h r (.own es (xs++ys)) (fun h st=>k (.sl r st [] 0 0 (xs.length+ys.length)) h)
theorem wpI_app {s es bytes:Nat}{x y:Opd}:wpI G (.app s es bytes x y) b σ k=appYK σ.h es (σ.get y) (fun ys h1=>PT h1 es (σ.get x) (fun xs h2=>VC (σ.get x) xs ys es bytes h2 (b+s) (fun v h=>k v { σ with h }))):=by
 simp only [wpI,ax,appYK,PT,VC,LX];cases appY σ.h es (σ.get y) with
 | none=>rfl
 | some p =>
   simp only;cases appX p.2 es (σ.get x) with
   | none=>rfl
   | some q =>
     simp only;by_cases h0:q.1.isEmpty=true∧p.1.isEmpty=true
     ·rw [if_pos h0,if_pos h0];cases σ.get x<;>rfl
     ·rw [if_neg h0,if_neg h0];by_cases hc:q.1.length+p.1.length≤4294967296∧0<bytes∧bytes≤4096∧0<es∧(σ.get x).isLst=false
      ·rw [if_pos hc];cases newOb q.2 (b+s) (.own es (q.1++p.1))<;>simp [Bj,hc]
      ·rw [if_neg hc];simp only [hc,false_and,Bj]
theorem appYK_nils {h:List Ob}{es:Nat}{q:List AV→List Ob→Prop}:appYK h es .nils q=q [] h:=(rfl)
theorem appYK_lst {h:List Ob}{es:Nat}{ys:List AV}{q:List AV→List Ob→Prop}:appYK h es (.lst ys) q=(JI es ys∧q ys h):=by
 simp only [appYK,appY,JI];by_cases hc:(ys.head?.all fun e:AV=>e.cells.length==es)=true
 ·rw [if_pos hc];simp only [hc,true_and]
 ·rw [if_neg hc];simp [hc]
theorem List.set_self {α:Type}{l:List α}{i:Nat}{x:α}(h:l[i]? = some x):l.set i x=l:=by
 apply List.ext_getElem?;intro j;rw [List.getElem?_set];by_cases hj:i=j
 ·subst hj;rw [if_pos rfl,h];have:=List.lt_of_some h;simp [this]
 ·rw [if_neg hj]
theorem appYK_sl {h:List Ob}{es r st ss off len:Nat}{p:Path}{q:List AV→List Ob→Prop}:appYK h es (.sl r st p ss off len) q =
 Bd h r st p ss (fun nd=>FX nd (fun es' ys=>es'=es∧if p = []∧off=0∧len=ys.length then obK h[r]? (fun o=>q ys (h.set r (yob ys o))) else appYK h es (.sl r st p ss off len) q)):=by
 conv=>lhs;unfold appYK appY
 simp only [Bd,FX];cases hn:node h r st p ss with
 | none=>rfl
 | some nd =>
   obtain ⟨o,ho,h1,h2,hnav⟩:=Bm.1 hn;cases nd with
   | own es' ys =>
     simp only;by_cases hes:es'=es
     ·simp only [hes,true_and];by_cases hc:p = []∧off=0∧len=ys.length
      ·rw [if_pos hc];obtain ⟨rfl,rfl,rfl⟩:=hc;simp only [ho,obK,Nat.zero_add,Nat.le_refl,List.drop_zero,List.take_length,true_and,and_self,if_true];by_cases hp:(ys.all fun e:AV=>e.cells.all AV.plain)=true
       ·rw [if_pos hp];simp only [yob,Fx,hp,if_true];rw [List.set_self ho]
       ·rw [if_neg hp];simp only [yob,Fx,hp,if_false];simp [setOb,ho,upd]
      ·rw [if_neg hc];unfold appYK appY;simp only [hn,hes,true_and]
     ·simp only [hes,false_and,if_false]
   | _=>rfl
theorem appXK_nils {h:List Ob}{es:Nat}{q:List AV→List Ob→Prop}:PT h es .nils q=q [] h:=(rfl)
theorem appXK_emp {h:List Ob}{es:Nat}{q:List AV→List Ob→Prop}:PT h es .emp q=q [] h:=(rfl)
theorem appXK_sl {h:List Ob}{es r st ss off len:Nat}{p:Path}{q:List AV→List Ob→Prop}:PT h es (.sl r st p ss off len) q =
 Bd h r st p ss (fun nd=>FX nd (fun es' xs=>(es'=es∧off+len≤xs.length)∧FD h r p .gone false (fun h'=>q ((xs.drop off).take len) h'))):=by
 simp only [PT,appX,Bd,FX,FD];cases node h r st p ss with
 | none=>rfl
 | some nd =>
   cases nd with
   | own es' xs =>
     simp only;by_cases hc:es'=es∧off+len≤xs.length
     ·rw [if_pos hc];simp only [hc,true_and];cases setOb h r p .gone false<;>simp
     ·rw [if_neg hc];simp only [hc,false_and]
   | _=>rfl
theorem appZ_cons {x:AV}{xs:List AV}{y:AV}{ys:List AV}{es bytes:Nat}{h:List Ob}{r:Nat}{q:AV→List Ob→Prop} :
 VC x xs (y::ys) es bytes h r q=((xs.length+(ys.length+1)≤4294967296∧0<bytes∧bytes≤4096∧0<es∧x.isLst=false)∧LX h r (.own es (xs++y::ys)) (fun h st=>q (.sl r st [] 0 0 (xs.length+(ys.length+1))) h)):=by
 simp [VC]
def S0 (o:Option Ob):Prop:=match o with|some ⟨_,_,.gone⟩=>True|_=>False
def stOf (o:Option Ob):Nat:=match o with|some o=>o.st|none=>0
def Abx (o:Option Ob):Nat:=match o with|some o=>o.ss|none=>0
theorem freeAt_gone {st ss:Nat}:S0 (some ⟨st,ss,.gone⟩)=True:=(rfl)
theorem stOf_some {o:Ob}:stOf (some o)=o.st:=(rfl)
theorem ssOf_some {o:Ob}:Abx (some o)=o.ss:=(rfl)
theorem Ou {o:Option Ob}(h:S0 o):o=some ⟨stOf o,Abx o,.gone⟩:=by
 unfold S0 at h;split at h
 ·rfl
 ·exact h.elim
theorem appZ_nils {ys:List AV}{es bytes:Nat}{h:List Ob}{r:Nat}{q:AV→List Ob→Prop}(hg:S0 h[r]?)(h1:0<bytes)(h2:bytes≤4096)(h3:0<es) :
 VC .nils [] ys es bytes h r q=(ys.length≤4294967296∧q (KC .nils es r (sta ys (stOf h[r]?)) ys) (h.set r ⟨sta ys (stOf h[r]?),ssa ys (Abx h[r]?),Mp es ys⟩)):=by
 have hg':=Ou hg;cases ys with
 | nil=>simp [VC,KC,Mp,sta,ssa];rw [List.set_self hg']
 | cons y ys =>
   simp only [appZ_cons,newK_eq];rw [hg'];simp [obK,Up,KC,Mp,sta,ssa,h1,h2,h3,AV.isLst,stOf]
theorem appZ_emp {ys:List AV}{es bytes:Nat}{h:List Ob}{r:Nat}{q:AV→List Ob→Prop}(hg:S0 h[r]?)(h1:0<bytes)(h2:bytes≤4096)(h3:0<es) :
 VC .emp [] ys es bytes h r q=(ys.length≤4294967296∧q (KC .emp es r (sta ys (stOf h[r]?)) ys) (h.set r ⟨sta ys (stOf h[r]?),ssa ys (Abx h[r]?),Mp es ys⟩)):=by
 have hg':=Ou hg;cases ys with
 | nil=>simp [VC,KC,Mp,sta,ssa];rw [List.set_self hg']
 | cons y ys =>
   simp only [appZ_cons,newK_eq];rw [hg'];simp [obK,Up,KC,Mp,sta,ssa,h1,h2,h3,AV.isLst,stOf]
def QN (o:Option Ob)(st es:Nat)(xs:List AV):Prop:=match o with|some o=>o.st=st∧o.c=Mp es xs|none=>False
theorem isRow_some {o:Ob}{st es:Nat}{xs:List AV}:QN (some o) st es xs=(o.st=st∧o.c=Mp es xs):=(rfl)
theorem Ki {h:List Ob}{r st es:Nat}{xs:List AV}(hr:QN h[r]? st es xs)(hx:xs≠[]){ss:Nat}:node h r st [] ss=some (.own es xs):=by
 unfold QN at hr;split at hr
 ·rename_i o ho;refine Bm.2 ⟨o,ho,hr.1,.inl rfl,?_⟩;rw [hr.2,Mp,if_neg hx,nav]
 ·exact hr.elim
theorem appXK_row {e:AV}{h:List Ob}{es r st:Nat}{xs:List AV}{q:List AV→List Ob→Prop}(he:e.void=true)(hr:QN h[r]? st es xs) :
 PT h es (KC e es r st xs) q=q xs (h.set r ⟨st,Abx h[r]?,.gone⟩):=by
 have hr':=hr;unfold QN at hr';split at hr'
 ·rename_i o ho;unfold KC;by_cases hx:xs = []
  ·subst hx;rw [if_pos rfl];rw [ho];have:(⟨st,Abx (some o),.gone⟩:Ob)=o:=by
    obtain ⟨a,b,c⟩:=o;obtain ⟨rfl,e2⟩:=hr';simp only [Mp,if_true] at e2;subst e2;rfl
   rw [this,List.set_self ho];cases e<;>first|rfl|(simp [AV.void] at he)
  ·rw [if_neg hx,appXK_sl];simp only [Bd,Ki hr hx,FX,Nat.zero_add,Nat.le_refl,List.drop_zero,List.take_length,true_and,setObK_eq,ho,obK,updK_nil,if_true];simp [hx,Abx,hr'.1]
 ·exact hr'.elim
theorem isLst_row {e:AV}{es r st:Nat}{xs:List AV}(he:e.void=true):(KC e es r st xs).isLst=false:=by
 unfold KC;split
 ·cases e<;>first|rfl|(simp [AV.void] at he)
 ·rfl
theorem takeCellK_row {e:AV}{h:List Ob}{r st es:Nat}{xs:List AV}{q:AV→List Ob→Prop}(he:e.void=true)(hr:QN h[r]? st es xs) :
 BJ h (KC e es r st xs) q=q (cellv e es xs) (h.set r ⟨st,Abx h[r]?,.gone⟩):=by
 have hr':=hr;unfold QN at hr';split at hr'
 ·rename_i o ho;unfold KC cellv;by_cases hx:xs = []
  ·subst hx;rw [if_pos rfl,if_pos rfl];rw [ho];have:(⟨st,Abx (some o),.gone⟩:Ob)=o:=by
    obtain ⟨a,b,c⟩:=o;obtain ⟨rfl,e2⟩:=hr';simp only [Mp,if_true] at e2;subst e2;rfl
   rw [this,List.set_self ho];cases e<;>first|rfl|(simp [AV.void] at he)
  ·rw [if_neg hx,if_neg hx,takeCellK_sl];simp only [Bd,Ki hr hx,FX,Nat.le_refl,true_and,setObK_eq,ho,obK,updK_nil,if_true,List.take_length];simp [hx,Abx,hr'.1]
 ·exact hr'.elim
theorem outvK_cell {e:AV}{r st:Nat}{p:Path}{ss es:Nat}{xs:List AV}{q:AV→Prop}(he:e.void=true):QF r st p ss (cellv e es xs) q=q (Nv e es r st p ss xs):=by
 unfold cellv Nv;by_cases hx:xs = []
 ·rw [if_pos hx,if_pos hx];cases e<;>first|rfl|(simp [AV.void] at he)
 ·rw [if_neg hx,if_neg hx];rfl
def KR (h:List Ob)(r st:Nat)(p:Path)(ss:Nat)(e:AV)(es:Nat)(xs:List AV):Prop:=Bd h r st p ss (fun nd=>nd=cellv e es xs)
theorem FW {h:List Ob}{r st ss es:Nat}{p:Path}{e:AV}{xs:List AV}(hr:KR h r st p ss e es xs)(hx:xs≠[]):node h r st p ss=some (.own es xs):=by
 unfold KR Bd at hr;split at hr
 ·rename_i nd hn;rw [hn,hr,cellv,if_neg hx]
 ·exact hr.elim
theorem lenlK_cell {e:AV}{h:List Ob}{es r st ss:Nat}{p:Path}{xs:List AV}{q:AV→Prop}(he:e.void=true)(hr:KR h r st p ss e es xs):PN h (Nv e es r st p ss xs) q=q (.int .i64 xs.length):=by
 unfold Nv;by_cases hx:xs = []
 ·subst hx;rw [if_pos rfl];cases e<;>first|rfl|(simp [AV.void] at he)
 ·rw [if_neg hx,lenlK_sl];simp only [Bd,FW hr hx,FX]
theorem WA:∀(p:Path) (x y:AV),nav x p=some y→(∀cs,y≠.agg cs)→upd x p y=some x:=by
 intro p;induction p with
 | nil=>intro x y h _;rw [nav_nil] at h;cases h;simp [upd]
 | cons a p ih =>
   intro x y h hy;obtain ⟨i,j⟩:=a;obtain ⟨es,xs,e,c,rfl,he,hc,hn⟩:=(Av ..).1 h;simp only [upd,he,hc,ih c y hn hy];have:setCellOf e j c=e:=by
    cases e with
    | agg cs=>simp only [setCellOf,AV.cells] at hc ⊢;rw [List.set_self hc]
    | _ =>
      simp only [setCellOf,AV.cells] at hc ⊢;cases j with
      | zero=>simp at hc;exact hc.symm
      | succ j=>simp at hc
   rw [this,List.set_self he]
theorem appXK_cell {e:AV}{h:List Ob}{es r st ss:Nat}{p:Path}{xs:List AV}{q:List AV→List Ob→Prop}(he:e.void=true)(hr:KR h r st p ss e es xs) :
 PT h es (Nv e es r st p ss xs) q=obK h[r]? (fun o=>Vs o.c p (NF e xs) (fun c=>q xs (h.set r ⟨o.st,o.ss,c⟩))):=by
 unfold Nv;by_cases hx:xs = []
 ·subst hx;rw [if_pos rfl];unfold KR Bd at hr;split at hr
  ·rename_i nd hn;obtain ⟨o,ho,h1,h2,hnav⟩:=Bm.1 hn;rw [hr,cellv,if_pos rfl] at hnav;simp only [ho,obK,NF,if_true,Vs];rw [WA p _ _ hnav (by intro cs h;subst h;simp [AV.void] at he)];simp only [List.set_self ho];cases e<;>first|rfl|(simp [AV.void] at he)
  ·exact hr.elim
 ·rw [if_neg hx,appXK_sl];simp only [Bd,FW hr hx,FX,Nat.zero_add,Nat.le_refl,List.drop_zero,List.take_length,true_and,setObK_eq,if_true,NF,if_neg hx];cases h[r]? with
  | none=>rfl
  | some o=>simp only [obK,Vs,if_neg hx];cases upd o.c p .gone<;>simp
theorem isLst_cell {e:AV}{es r st ss:Nat}{p:Path}{xs:List AV}(he:e.void=true):(Nv e es r st p ss xs).isLst=false:=by
 unfold Nv;split
 ·cases e<;>first|rfl|(simp [AV.void] at he)
 ·rfl
theorem isNode_cellg {e:AV}{xs:List AV}(he:e.void=true):isNode (NF e xs)=false:=by
 unfold NF;split
 ·cases e<;>first|rfl|(simp [AV.void] at he)
 ·rfl
theorem takeCellK_cell {e:AV}{h:List Ob}{r st ss es:Nat}{p:Path}{xs:List AV}{q:AV→List Ob→Prop}(he:e.void=true)(hr:KR h r st p ss e es xs) :
 BJ h (Nv e es r st p ss xs) q=obK h[r]? (fun o=>Vs o.c p (NF e xs) (fun c=>q (cellv e es xs) (h.set r ⟨o.st,o.ss,c⟩))):=by
 unfold Nv;by_cases hx:xs = []
 ·subst hx;rw [if_pos rfl];unfold KR Bd at hr;split at hr
  ·rename_i nd hn;obtain ⟨o,ho,h1,h2,hnav⟩:=Bm.1 hn;rw [hr,cellv,if_pos rfl] at hnav;simp only [ho,obK,NF,if_true,Vs];rw [WA p _ _ hnav (by intro cs h;subst h;simp [AV.void] at he)];simp only [List.set_self ho];cases e<;>first|rfl|(simp [AV.void] at he)
  ·exact hr.elim
 ·rw [if_neg hx,takeCellK_sl];simp only [Bd,FW hr hx,FX,Nat.le_refl,true_and,setObK_eq,if_true,NF,if_neg hx,cellv,List.take_length];cases h[r]? with
  | none=>rfl
  | some o=>simp only [obK,Vs,if_neg hx];cases upd o.c p .gone<;>simp [List.take_length]
end
end Go.Mw
namespace Go.Mw
def P2 (x:Option AV)(w:Bool)(A B C:Prop)(u:Tg (A,B,C):=tg):Prop :=
 match x with
 | some (.bool v)=>(v=w→A)∧(v = !w→B)
 | some (.tup [])=>C
 | _=>False
theorem guardS_tup {w:Bool}{A B C:Prop}:P2 (some (.tup [])) w A B C=C:=(rfl)
def Hi (v w:Bool)(A B:Prop)(u:Tg (A,B):=tg):Prop:=(v=w→A)∧(v = !w→B)
theorem guardS_T {v w:Bool}{A B C:Prop}:P2 (some (.bool v)) w A B C=Hi v w A B:=(rfl)
theorem gA {A B:Prop}:Hi true true A B=A:=by simp [Hi]
theorem gB {A B:Prop}:Hi true false A B=B:=by simp [Hi]
theorem gC {A B:Prop}:Hi false true A B=B:=by simp [Hi]
theorem gD {A B:Prop}:Hi false false A B=A:=by simp [Hi]
theorem guardT_bool {v w:Bool}{A B:Prop}:Hi v w A B=((v=w→A)∧(v = !w→B)):=(rfl)
def Ty (v:Bool)(A B:Prop)(u:Tg (A,B):=tg):Prop:=(v=true→A)∧(v=false→B)
theorem condK_T {v:Bool}{A B:Prop}:Abf (.bool v) A B=Ty v A B:=(rfl)
theorem cA {A B:Prop}:Ty true A B=A:=by simp [Ty]
theorem cB {A B:Prop}:Ty false A B=B:=by simp [Ty]
theorem Aa:(∀A B:Prop,Hi true true A B=A)∧(∀A B:Prop,Hi true false A B=B)∧(∀A B:Prop,Hi false true A B=B)∧(∀A B:Prop,Hi false false A B=A)∧(∀A B:Prop,Ty true A B=A)∧∀A B:Prop,Ty false A B=B:=⟨fun _ _=>gA,fun _ _=>gB,fun _ _=>gC,fun _ _=>gD,fun _ _=>cA,fun _ _=>cB⟩
theorem condT_bool {v:Bool}{A B:Prop}:Ty v A B=((v=true→A)∧(v=false→B)):=(rfl)
theorem wpO_consS {G:Prg}{d:Option Nat}{i:Ins}{t:Nat}{want:Bool}{os:List Rop}{b:Nat}{T:List AV}{h:List Ob}{lp:List Lp}{K:St→Prop} :
 WpO G (⟨d,i,some (t,want)⟩::os) b ⟨T,h,lp⟩ K=P2 T[t]? want (WpO G (⟨d,i,none⟩::os) b ⟨T.set t (.bool want),h,lp⟩ K) (WpO G os b (St.put ⟨T.set t (.bool !want),h,lp⟩ d (.tup [])) K) (WpO G os b (St.put ⟨T,h,lp⟩ d (.tup [])) K):=by
 rw [AaD];unfold TB P2;simp only;cases hx:T[t]? with
 | none=>rfl
 | some x =>
   cases x with
   | bool v =>
     simp only;cases v<;>cases want<;>simp only [reduceCtorEq,ne_eq,not_false_eq_true,not_true_eq_false,false_implies,true_implies,and_true,true_and,Bool.not_true,Bool.not_false,Bool.false_eq_true,Bool.true_eq_false,forall_const]
     all_goals rw [List.set_self hx]
   | tup l=>cases l<;>rfl
   | _=>rfl
def TQ (σ:St)(res:List (Nat×Option (Bool×Nat)))(k:List AV→Prop)(u:Tg k:=tg):Prop:=match resT σ res with|some rs=>k rs|none=>False
theorem Done_ret {res:List (Nat×Option (Bool×Nat))}{R:List AV→List Ob→Prop}{σ:St}:Agv res R .ret σ=TQ σ res (fun rs=>R rs σ.h):=(rfl)
theorem resK_nil {σ:St}{k:List AV→Prop}:TQ σ [] k=k []:=(rfl)
theorem resK_t {σ:St}{t:Nat}{rs:List (Nat×Option (Bool×Nat))}{k:List AV→Prop}:TQ σ ((t,none)::rs) k=elK σ.t t (fun v=>TQ σ rs (fun vs=>k (v::vs))):=by
 simp only [TQ,resT,elK];cases σ.t[t]? with
 | none=>rfl
 | some v=>simp only;cases resT σ rs<;>rfl
theorem resK_c {σ:St}{t:Nat}{ag:Bool}{n:Nat}{rs:List (Nat×Option (Bool×Nat))}{k:List AV→Prop}:TQ σ ((t,some (ag,n))::rs) k=ldK σ.h ag n (σ.get (.t t)) (fun v=>TQ σ rs (fun vs=>k (v::vs))):=by
 have h:=wpI_ld (G:=fun _=>none) (b:=0) (σ:=σ) (ag:=ag) (n:=n) (a:=.t t) (k:=fun v _=>TQ σ rs (fun vs=>k (v::vs)));rw [←h];simp only [wpI,TQ,resT];have hb:ax 0 (.ld ag n (.t t)) σ=ax 0 (.ld ag n (.t t)) σ:=(rfl);cases hx:ax 0 (.ld ag n (.t t)) σ with
 | none=>rfl
 | some p =>
   obtain ⟨v,hh⟩:=p;simp only [Bj];cases resT σ rs<;>rfl
theorem UF {k:AV→Prop}{x x':AV}{y y':AV}{z z':AV}(h0:x=x')(h1:y=y')(h2:z=z'):Aba x y z k=Aba x' y' z' k:=by cases h0;cases h1;cases h2;rfl
theorem WI {op:BinOp}{k:AV→Prop}{x x':AV}{y y':AV}(h0:x=x')(h1:y=y'):HR op x y k=HR op x' y' k:=by cases h0;cases h1;rfl
theorem X5 {n:Bool}{k:AV→Prop}{x x':AV}{y y':AV}(h0:x=x')(h1:y=y'):AgY n x y k=AgY n x' y' k:=by cases h0;cases h1;rfl
theorem Abg {op:UnOp}{k:AV→Prop}{x x':AV}(h0:x=x'):unK op x k=unK op x' k:=by cases h0;rfl
theorem Xu {κ:IntKind}{k:AV→Prop}{x x':AV}(h0:x=x'):Af5 κ x k=Af5 κ x' k:=by cases h0;rfl
theorem X3 {n:Bool}{ks:List Nat}{k:AV→Prop}{x x':AV}{y y':AV}(h0:x=x')(h1:y=y'):Afl n ks x y k=Afl n ks x' y' k:=by cases h0;cases h1;rfl
theorem XI {i:Nat}{k:AV→Prop}{x x':AV}(h0:x=x'):Ae5 x i k=Ae5 x' i k:=by cases h0;rfl
theorem UW {k:AV→Prop}{x x':AV}(h0:x=x'):Abr x k=Abr x' k:=by cases h0;rfl
theorem Vv {k:AV→Prop}{h h':List Ob}{x x':AV}(h0:h=h')(h1:x=x'):PN h x k=PN h' x' k:=by cases h0;cases h1;rfl
theorem UT {r:Nat}{st:Nat}{p:Path}{ss:Nat}{k:AV→Prop}{h h':List Ob}(h0:h=h'):Bd h r st p ss k=Bd h' r st p ss k:=by cases h0;rfl
theorem YN {k:Nat→List AV→Prop}{x x':AV}(h0:x=x'):FX x k=FX x' k:=by cases h0;rfl
theorem YW {k:Ob→Prop}{o o':Option Ob}(h0:o=o'):obK o k=obK o' k:=by cases h0;rfl
theorem Xl {k:AV→Prop}{x x':AV}{p p':Path}(h0:x=x')(h1:p=p'):YQ x p k=YQ x' p' k:=by cases h0;cases h1;rfl
theorem Y7 {k:AV→Prop}{xs xs':List AV}{i i':Nat}(h0:xs=xs')(h1:i=i'):elK xs i k=elK xs' i' k:=by cases h0;cases h1;rfl
theorem YH {es:Nat}{k:AV→Prop}{h h':List Ob}{x x':AV}{y y':AV}(h0:h=h')(h1:x=x')(h2:y=y'):Aeh h es x y k=Aeh h' es x' y' k:=by cases h0;cases h1;cases h2;rfl
theorem YK {k:AV→Prop}{x x':AV}{y y':AV}(h0:x=x')(h1:y=y'):Afo x y k=Afo x' y' k:=by cases h0;cases h1;rfl
theorem Yi {k:List Ob→Nat→Prop}{h h':List Ob}{r r':Nat}{c c':AV}(h0:h=h')(h1:r=r')(h2:c=c'):LX h r c k=LX h' r' c' k:=by cases h0;cases h1;cases h2;rfl
theorem Uw {p:Prop}{c c':AV}(h0:c=c'):Up c p=Up c' p:=by cases h0;rfl
theorem TL {k:List Ob→Prop}{h h':List Ob}{r r':Nat}{p p':Path}{v v':AV}{bump bump':Bool}(h0:h=h')(h1:r=r')(h2:p=p')(h3:v=v')(h4:bump=bump'):FD h r p v bump k=FD h' r' p' v' bump' k:=by cases h0;cases h1;cases h2;cases h3;cases h4;rfl
theorem updK_congr {k:AV→Prop}{x x':AV}{p p':Path}{v v':AV}(h0:x=x')(h1:p=p')(h2:v=v'):Vs x p v k=Vs x' p' v' k:=by cases h0;cases h1;cases h2;rfl
theorem vcellsK_congr {n:Nat}{k:List AV→Prop}{h h':List Ob}{v v':AV}(h0:h=h')(h1:v=v'):Et h n v k=Et h' n v' k:=by cases h0;cases h1;rfl
theorem takeCellK_congr {k:AV→List Ob→Prop}{h h':List Ob}{v v':AV}(h0:h=h')(h1:v=v'):BJ h v k=BJ h' v' k:=by cases h0;cases h1;rfl
theorem takeCellsK_congr {k:List AV→List Ob→Prop}{h h':List Ob}{vs vs':List AV}(h0:h=h')(h1:vs=vs'):Ca h vs k=Ca h' vs' k:=by cases h0;cases h1;rfl
theorem takeValK_congr {n:Nat}{k:AV→List Ob→Prop}{h h':List Ob}{v v':AV}(h0:h=h')(h1:v=v'):Hd h n v k=Hd h' n v' k:=by cases h0;cases h1;rfl
theorem takeValsK_congr {n:Nat}{k:List AV→List Ob→Prop}{h h':List Ob}{vs vs':List AV}(h0:h=h')(h1:vs=vs'):EL h n vs k=EL h' n vs' k:=by cases h0;cases h1;rfl
theorem mksK_congr {k:Int→Prop}{x x':AV}{y y':AV}(h0:x=x')(h1:y=y'):AfO x y k=AfO x' y' k:=by cases h0;cases h1;rfl
theorem outvK_congr {r:Nat}{k:AV→Prop}{st st':Nat}{p p':Path}{ss ss':Nat}{c c':AV}(h0:st=st')(h1:p=p')(h2:ss=ss')(h3:c=c'):QF r st p ss c k=QF r st' p' ss' c' k:=by cases h0;cases h1;cases h2;cases h3;rfl
theorem outLK_congr {r:Nat}{k:List AV→Prop}{st st':Nat}{p p':Path}{ss ss':Nat}{i i':Nat}{j j':Nat}{cs cs':List AV}(h0:st=st')(h1:p=p')(h2:ss=ss')(h3:i=i')(h4:j=j')(h5:cs=cs'):QM r st p ss i j cs k=QM r st' p' ss' i' j' cs' k:=by cases h0;cases h1;cases h2;cases h3;cases h4;cases h5;rfl
theorem headK_congr {k:AV→Prop}{cs cs':List AV}(h0:cs=cs'):N7 cs k=N7 cs' k:=by cases h0;rfl
theorem ldK_congr {ag:Bool}{n:Nat}{k:AV→Prop}{h h':List Ob}{a a':AV}(h0:h=h')(h1:a=a'):ldK h ag n a k=ldK h' ag n a' k:=by cases h0;cases h1;rfl
theorem stoK_congr {n:Nat}{k:List Ob→Prop}{h h':List Ob}{a a':AV}{x x':AV}(h0:h=h')(h1:a=a')(h2:x=x'):AfT h n a x k=AfT h' n a' x' k:=by cases h0;cases h1;cases h2;rfl
theorem fadK_congr {off:Nat}{k:AV→Prop}{h h':List Ob}{x x':AV}(h0:h=h')(h1:x=x'):Afj h off x k=Afj h' off x' k:=by cases h0;cases h1;rfl
theorem fldK_congr {ag:Bool}{off:Nat}{n:Nat}{k:AV→Prop}{x x':AV}(h0:x=x'):Ag9 ag off n x k=Ag9 ag off n x' k:=by cases h0;rfl
theorem iaaK_congr {len:Nat}{es:Nat}{k:AV→Prop}{h h':List Ob}{x x':AV}{y y':AV}(h0:h=h')(h1:x=x')(h2:y=y'):AfV h len es x y k=AfV h' len es x' y' k:=by cases h0;cases h1;cases h2;rfl
theorem ixaK_congr {ag:Bool}{len:Nat}{es:Nat}{k:AV→Prop}{x x':AV}{y y':AV}(h0:x=x')(h1:y=y'):Ag5 ag len es x y k=Ag5 ag len es x' y' k:=by cases h0;cases h1;rfl
theorem bldK_congr {ps:List (Nat×Nat×Opd)}{k:List AV→Prop}{σ σ':St}{cs cs':List AV}(h0:σ=σ')(h1:cs=cs'):AdN σ cs ps k=AdN σ' cs' ps k:=by cases h0;cases h1;rfl
theorem mxnK_congr {mx:Bool}{k:AV→Prop}{x x':AV}{y y':AV}(h0:x=x')(h1:y=y'):Ag1 mx x y k=Ag1 mx x' y' k:=by cases h0;cases h1;rfl
theorem nilcK_congr {n:Bool}{k:AV→Prop}{h h':List Ob}{x x':AV}{y y':AV}(h0:h=h')(h1:x=x')(h2:y=y'):Aa8 h n x y k=Aa8 h' n x' y' k:=by cases h0;cases h1;cases h2;rfl
theorem appYK_congr {es:Nat}{k:List AV→List Ob→Prop}{h h':List Ob}{y y':AV}(h0:h=h')(h1:y=y'):appYK h es y k=appYK h' es y' k:=by cases h0;cases h1;rfl
theorem appXK_congr {es:Nat}{k:List AV→List Ob→Prop}{h h':List Ob}{x x':AV}(h0:h=h')(h1:x=x'):PT h es x k=PT h' es x' k:=by cases h0;cases h1;rfl
theorem appZ_congr {es:Nat}{bytes:Nat}{k:AV→List Ob→Prop}{x x':AV}{xs xs':List AV}{ys ys':List AV}{h h':List Ob}{r r':Nat}(h0:x=x')(h1:xs=xs')(h2:ys=ys')(h3:h=h')(h4:r=r'):VC x xs ys es bytes h r k=VC x' xs' ys' es bytes h' r' k:=by cases h0;cases h1;cases h2;cases h3;cases h4;rfl
theorem resK_congr {res:List (Nat×Option (Bool×Nat))}{k:List AV→Prop}{σ σ':St}(h0:σ=σ'):TQ σ res k=TQ σ' res k:=by cases h0;rfl
theorem guardS_congr {w:Bool}{A:Prop}{B:Prop}{C:Prop}{x x':Option AV}(h0:x=x'):P2 x w A B C=P2 x' w A B C:=by cases h0;rfl
theorem W9 {k:AV→Prop}{x x':AV}(h0:x=x'):AgZ x k=AgZ x' k:=by cases h0;rfl
attribute [congr] W9 UF WI X5 Abg Xu X3 XI UW Vv UT YN YW Xl Y7 YH YK Yi Uw TL updK_congr vcellsK_congr takeCellK_congr takeCellsK_congr takeValK_congr takeValsK_congr mksK_congr outvK_congr outLK_congr headK_congr ldK_congr stoK_congr fadK_congr fldK_congr iaaK_congr ixaK_congr bldK_congr mxnK_congr nilcK_congr appYK_congr appXK_congr appZ_congr resK_congr guardS_congr
def boundK (x:Option AV)(d m:Nat)(k:Nat→Prop)(u:Tg k:=tg):Prop:=match bound x d m with|some i=>k i|none=>False
theorem boundK_none {d m:Nat}{q:Nat→Prop}:boundK none d m q=q d:=(rfl)
theorem boundK_some {κ:IntKind}{i:Int}{d m:Nat}{q:Nat→Prop}:boundK (some (.int κ i)) d m q=((0≤i∧i≤(m:Int))∧q i.toNat):=by
 simp only [boundK,bound];by_cases h:0≤i∧i≤(m:Int)
 ·rw [if_pos h];simp [h]
 ·rw [if_neg h];simp only [h,false_and]
theorem SU {x x':Option AV}{d d' m m':Nat}{k:Nat→Prop}(h1:x=x')(h2:d=d')(h3:m=m'):boundK x d m k=boundK x' d' m' k:=by cases h1;cases h2;cases h3;rfl
def Afe (h:List Ob)(es:Nat)(x:AV)(lo hi mx:Option AV)(k:AV→Prop)(u:Tg k:=tg):Prop :=
 match x with
 | .lst xs=>match mx with
   | none=>boundK hi xs.length xs.length (fun a=>boundK lo 0 a (fun l=>JI es xs∧k (.lst ((xs.take a).drop l))))
   | some m=>match m with
     | .int _ 0=>boundK hi 1 0 (fun a=>a=0∧boundK lo 0 0 (fun _=>k .emp))
     | _=>False
 | .nils=>match mx with
   | none=>boundK hi 0 0 (fun _=>boundK lo 0 0 (fun _=>k .nils))
   | some m=>match m with
     | .int _ 0=>boundK hi 0 0 (fun _=>boundK lo 0 0 (fun _=>hi.isSome=true∧k .nils))
     | _=>False
 | .emp=>match mx with
   | none=>boundK hi 0 0 (fun _=>boundK lo 0 0 (fun _=>k .emp))
   | some m=>match m with
     | .int _ 0=>boundK hi 0 0 (fun _=>boundK lo 0 0 (fun _=>hi.isSome=true∧k .emp))
     | _=>False
 | .sl r st p ss off len=>Bd h r st p ss (fun nd=>FX nd (fun es' _=>es'=es∧match mx with
   | none=>boundK hi len len (fun a=>boundK lo 0 a (fun l=>k (.sl r st p ss (off+l) (a-l))))
   | some m=>match m with
     | .int _ 0=>boundK hi 1 0 (fun a=>a=0∧boundK lo 0 0 (fun _=>k .emp))
     | _=>False))
 | _=>False
theorem wpI_sli {G:Prg}{b:Nat}{σ:St}{k:AV→St→Prop}{es:Nat}{x:Opd}{lo hi mx:Option Opd}(hm:mx=none) :
 wpI G (.sli es x lo hi mx) b σ k=Afe σ.h es (σ.get x) (lo.map σ.get) (hi.map σ.get) none (fun v=>k v σ):=by
 subst hm;simp only [wpI,ax,Afe,boundK,JI];cases σ.get x<;>first|rfl|skip
 ·simp only [Option.map_none];cases bound (hi.map σ.get) 0 0 with
  | none=>rfl
  | some a=>simp only;cases bound (lo.map σ.get) 0 0<;>rfl
 ·simp only [Option.map_none];cases bound (hi.map σ.get) 0 0 with
  | none=>rfl
  | some a=>simp only;cases bound (lo.map σ.get) 0 0<;>rfl
 ·rename_i xs;simp only;cases bound (hi.map σ.get) xs.length xs.length with
  | none=>rfl
  | some a =>
    simp only;cases bound (lo.map σ.get) 0 a with
    | none=>rfl
    | some l =>
      simp only;by_cases hc:(xs.head?.all fun e:AV=>e.cells.length==es)=true
      ·rw [if_pos hc];simp [hc,Bj]
      ·rw [if_neg hc];simp [hc,Bj]
 ·rename_i r st p ss off len;simp only [Bd,FX];cases node σ.h r st p ss with
  | none=>rfl
  | some nd =>
    cases nd with
    | own es' xs =>
      simp only;by_cases he:es'=es
      ·rw [if_pos he];simp only [he,true_and];cases bound (hi.map σ.get) len len with
       | none=>rfl
       | some a=>simp only;cases bound (lo.map σ.get) 0 a<;>rfl
      ·rw [if_neg he];simp only [he,false_and,Bj]
    | _=>rfl
theorem sliK_lst {h:List Ob}{es:Nat}{xs:List AV}{lo hi:Option AV}{q:AV→Prop}:Afe h es (.lst xs) lo hi none q=boundK hi xs.length xs.length (fun a=>boundK lo 0 a (fun l=>JI es xs∧q (.lst ((xs.take a).drop l)))):=(rfl)
theorem sliK_sl {h:List Ob}{es r st ss off len:Nat}{p:Path}{lo hi:Option AV}{q:AV→Prop}:Afe h es (.sl r st p ss off len) lo hi none q=Bd h r st p ss (fun nd=>FX nd (fun es' _=>es'=es∧boundK hi len len (fun a=>boundK lo 0 a (fun l=>q (.sl r st p ss (off+l) (a-l)))))):=(rfl)
theorem YP {h h':List Ob}{es:Nat}{x x':AV}{lo lo' hi hi' mx mx':Option AV}{k:AV→Prop}(h1:h=h')(h2:x=x')(h3:lo=lo')(h4:hi=hi')(h5:mx=mx'):Afe h es x lo hi mx k=Afe h' es x' lo' hi' mx' k:=by cases h1;cases h2;cases h3;cases h4;cases h5;rfl
attribute [congr] YP SU
theorem Abo {G:Prg}{l:Nat}{xs ys:List AV}{σ τ:St}{K:AV→St→Prop}(hx:xs=ys)(h:σ=τ):WpY G l xs σ K=WpY G l ys τ K:=by rw [h,hx]
attribute [congr] Abo
section
variable {G:Prg}{b:Nat}{σ:St}{k:AV→St→Prop}
theorem wpI_call {f:FuncId}{xs:List Opd}{ss:List Nat}:wpI G (.call f xs ss) b σ k=AM G f (σ.gets xs) b ss σ k:=(rfl)
def Xy (G:Prg)(x:AV)(xs:List AV)(b:Nat)(ss:List Nat)(σ:St)(k:AV→St→Prop)(u:Tg k:=tg):Prop :=
 match x with
 | .fn f cs=>AM G f (xs++cs) b ss σ k
 | .yld l=>WpY G l xs σ k
 | _=>False
theorem wpI_calv {x:Opd}{xs:List Opd}{ss:List Nat}:wpI G (.calv x xs ss) b σ k=Xy G (σ.get x) (σ.gets xs) b ss σ k:=(rfl)
theorem calvK_fn {f:FuncId}{cs xs:List AV}{ss:List Nat}:Xy G (.fn f cs) xs b ss σ k=AM G f (xs++cs) b ss σ k:=(rfl)
theorem calvK_yld {l:Nat}{xs:List AV}{ss:List Nat}:Xy G (.yld l) xs b ss σ k=WpY G l xs σ k:=(rfl)
theorem UR {x x':AV}{xs xs':List AV}{ss:List Nat}{τ:St}(h1:x=x')(h2:xs=xs')(h3:σ=τ):Xy G x xs b ss σ k=Xy G x' xs' b ss τ k:=by rw [h1,h2,h3]
attribute [congr] UR
end
theorem get_t {T:List AV}{h:List Ob}{lp:List Lp}{n:Nat}:St.get ⟨T,h,lp⟩ (.t n)=T.getD n .undef:=(rfl)
theorem get_c {σ:St}{v:AV}:σ.get (.c v)=v:=(rfl)
theorem put_some {T:List AV}{h:List Ob}{lp:List Lp}{d:Nat}{v:AV}:St.put ⟨T,h,lp⟩ (some d) v=⟨T.set d v,h,lp⟩:=(rfl)
theorem put_none {T:List AV}{h:List Ob}{lp:List Lp}{v:AV}:St.put ⟨T,h,lp⟩ none v=⟨T,h,lp⟩:=(rfl)
theorem gets_nil {σ:St}:σ.gets [] = []:=(rfl)
theorem gets_cons {σ:St}{x:Opd}{xs:List Opd}:σ.gets (x::xs)=σ.get x::σ.gets xs:=(rfl)
theorem headS_eq {nt:Nat}{L ks:List Nat}{d:AV}{l:List (Nat×AV)}{h:List Ob}{lp:List Lp}:Mr (rest nt L) ks 0 ⟨aT d nt l,h,lp⟩=⟨aT .undef nt (L.map fun k=>(k,AA d k l)),F2 ks 0 h,lp⟩:=by
 simp only [Mr,LI aT_len,Ey,NB]
theorem cells_agg {cs:List AV}:(AV.agg cs).cells=cs:=(rfl)
theorem cells_int {κ:IntKind}{n:Int}:(AV.int κ n).cells = [.int κ n]:=(rfl)
theorem cells_bool {v:Bool}:(AV.bool v).cells = [.bool v]:=(rfl)
theorem cells_str {v:ByteArray}:(AV.str v).cells = [.str v]:=(rfl)
theorem cells_lst {v:List AV}:(AV.lst v).cells = [.lst v]:=(rfl)
theorem cells_nils:AV.nils.cells = [.nils]:=(rfl)
theorem cells_own {es:Nat}{xs:List AV}:(AV.own es xs).cells = [.own es xs]:=(rfl)
theorem cells_ownm {es:List (AV×AV)}:(AV.ownm es).cells = [.ownm es]:=(rfl)
theorem cells_sl {r st:Nat}{p:Path}{ss off len:Nat}:(AV.sl r st p ss off len).cells = [.sl r st p ss off len]:=(rfl)
theorem cells_fn {f:FuncId}{cs:List AV}:(AV.fn f cs).cells = [.fn f cs]:=(rfl)
theorem cells_gone:AV.gone.cells = [.gone]:=(rfl)
theorem QO {e:AV}(he:e.void=true):e.cells = [e]:=by cases e<;>first|rfl|(simp [AV.void] at he)
theorem cells_cellv {e:AV}{es:Nat}{xs:List AV}(he:e.void=true):(cellv e es xs).cells = [cellv e es xs]:=by
 unfold cellv;split
 ·exact QO he
 ·rfl
theorem cells_cellg {e:AV}{xs:List AV}(he:e.void=true):(NF e xs).cells = [NF e xs]:=by
 unfold NF;split
 ·exact QO he
 ·rfl
theorem cells_rowv {e:AV}{es r st:Nat}{xs:List AV}(he:e.void=true):(KC e es r st xs).cells = [KC e es r st xs]:=by
 unfold KC;split
 ·exact QO he
 ·rfl
theorem void_nils:AV.nils.void=true:=(rfl)
theorem plain_int {κ:IntKind}{n:Int}:(AV.int κ n).plain=true:=(rfl)
theorem plain_bool {v:Bool}:(AV.bool v).plain=true:=(rfl)
theorem plain_str {v:ByteArray}:(AV.str v).plain=true:=(rfl)
theorem plain_lst {v:List AV}:(AV.lst v).plain=true:=(rfl)
theorem plain_nils:AV.nils.plain=true:=(rfl)
theorem one_int {h:List Ob}{κ:IntKind}{n:Int}:Ph h (.int κ n)=True:=by simp [Ph,KI,AV.plain]
theorem one_bool {h:List Ob}{v:Bool}:Ph h (.bool v)=True:=by simp [Ph,KI,AV.plain]
theorem one_str {h:List Ob}{v:ByteArray}:Ph h (.str v)=True:=by simp [Ph,KI,AV.plain]
theorem one_lst {h:List Ob}{v:List AV}:Ph h (.lst v)=True:=by simp [Ph,KI,AV.plain]
theorem one_nils {h:List Ob}:Ph h .nils=True:=by simp [Ph,KI,AV.plain]
theorem one_emp {h:List Ob}:Ph h .emp=True:=by simp [Ph,KI,AV.plain]
theorem one_sl {h:List Ob}{r st:Nat}{p:Path}{ss off len:Nat}:Ph h (.sl r st p ss off len)=Bd h r st p ss (fun nd=>FX nd (fun _ _=>True)):=by
 simp only [Ph,KI,Bd,FX];cases node h r st p ss with
 | none=>simp
 | some nd=>cases nd<;>simp
theorem one_row {e:AV}{h:List Ob}{es r st:Nat}{xs:List AV}(he:e.void=true)(hr:QN h[r]? st es xs):Ph h (KC e es r st xs)=True:=by
 unfold KC;by_cases hx:xs = []
 ·rw [if_pos hx];cases e<;>first|exact one_nils|exact one_emp|(simp [AV.void] at he)
 ·rw [if_neg hx,one_sl];simp only [Bd,Ki hr hx,FX]
theorem isNode_int {κ:IntKind}{n:Int}:isNode (.int κ n)=false:=(rfl)
theorem isNode_bool {v:Bool}:isNode (.bool v)=false:=(rfl)
theorem isNode_lst {v:List AV}:isNode (.lst v)=false:=(rfl)
theorem isNode_nils:isNode .nils=false:=(rfl)
theorem isNode_fn {f:FuncId}{v:List AV}:isNode (.fn f v)=false:=(rfl)
theorem isNode_own {es:Nat}{xs:List AV}:isNode (.own es xs)=true:=(rfl)
theorem isNode_gone:isNode .gone=false:=(rfl)
theorem setCellOf_agg {cs:List AV}{j:Nat}{c:AV}:setCellOf (.agg cs) j c = .agg (cs.set j c):=(rfl)
theorem setCellOf_one' {e:AV}(he:e.cells = [e]){j:Nat}{c:AV}:setCellOf e j c=c:=by
 cases e<;>first|rfl|skip
 rename_i cs;simp only [AV.cells] at he;have h2:=congrArg SizeOf.sizeOf he;simp at h2;omega
theorem setCells_nil {e:AV}{j:Nat}:setCells e j []=e:=(rfl)
theorem setCells_cons {e:AV}{j:Nat}{c:AV}{cs:List AV}:setCells e j (c::cs)=setCells (setCellOf e j c) (j+1) cs:=(rfl)
theorem packV_one {v:AV}:packV [v]=v:=(rfl)
theorem packV_nil:packV [] = .tup []:=(rfl)
theorem packV_two {v w:AV}{vs:List AV}:packV (v::w::vs) = .tup (v::w::vs):=(rfl)
section
variable {B:Nat}{h:List Ob}
theorem treeBL_nil:treeBL B h [] = []:=(rfl)
theorem treeBL_cons {x:AV}{xs:List AV}:treeBL B h (x::xs)=treeB B h x::treeBL B h xs:=(rfl)
theorem treeB_int {κ:IntKind}{n:Int}:treeB B h (.int κ n) = .int κ n:=(rfl)
theorem treeB_bool {v:Bool}:treeB B h (.bool v) = .bool v:=(rfl)
theorem treeB_str {v:ByteArray}:treeB B h (.str v) = .str v:=(rfl)
theorem treeB_lst {v:List AV}:treeB B h (.lst v) = .lst v:=(rfl)
theorem treeB_pfro {v:List AV}:treeB B h (.pfro v) = .pfro v:=(rfl)
theorem treeB_nils:treeB B h .nils = .lst []:=(rfl)
theorem treeB_emp:treeB B h .emp = .lst []:=(rfl)
theorem treeB_agg {v:List AV}:treeB B h (.agg v) = .agg (treeBL B h v):=(rfl)
theorem treeB_fn {f:FuncId}{v:List AV}:treeB B h (.fn f v) = .fn f (treeBL B h v):=(rfl)
def slV (nd:Option AV)(off len:Nat):AV:=match nd with|some (.own _ xs)=>if off+len≤xs.length then .lst (((xs.drop off).take len).map frz) else .undef|_=>.undef
def AgS (nd:Option AV)(i j:Nat):AV:=match nd with|some (.own _ xs)=>(match xs[i]? with|some e=>.pfro ((e.cells.drop j).map frz)|none=>.undef)|_=>.undef
theorem treeB_sl {r st:Nat}{p:Path}{ss off len:Nat}:treeB 0 h (.sl r st p ss off len)=slV (node h r st p ss) off len:=by
 simp only [treeB,Nat.not_lt_zero,if_false,YR,slV];cases node h r st p ss with
 | none=>rfl
 | some nd=>cases nd<;>rfl
theorem treeB_ptr {r st:Nat}{p:Path}{ss i j:Nat}:treeB 0 h (.ptr r st p ss i j)=AgS (node h r st p ss) i j:=by
 simp only [treeB,Nat.not_lt_zero,if_false,YR,AgS];cases node h r st p ss with
 | none=>rfl
 | some nd=>cases nd<;>rfl
theorem slV_own {es:Nat}{xs:List AV}{off len:Nat}:slV (some (.own es xs)) off len=if off+len≤xs.length then .lst (((xs.drop off).take len).map frz) else .undef:=(rfl)
theorem ptrV_0 {es:Nat}{e:AV}{xs:List AV}{j:Nat}:AgS (some (.own es (e::xs))) 0 j = .pfro ((e.cells.drop j).map frz):=(rfl)
theorem treeB_row {e:AV}{es r st:Nat}{xs:List AV}(he:e.void=true)(hr:QN h[r]? st es xs):treeB 0 h (KC e es r st xs) = .lst (xs.map frz):=by
 unfold KC;by_cases hx:xs = []
 ·subst hx;rw [if_pos rfl];cases e<;>first|rfl|(simp [AV.void] at he)
 ·rw [if_neg hx,treeB_sl,Ki hr hx,slV_own];simp
theorem treeB_cell {e:AV}{es r st ss:Nat}{p:Path}{xs:List AV}(he:e.void=true)(hr:KR h r st p ss e es xs):treeB 0 h (Nv e es r st p ss xs) = .lst (xs.map frz):=by
 unfold Nv;by_cases hx:xs = []
 ·subst hx;rw [if_pos rfl];cases e<;>first|rfl|(simp [AV.void] at he)
 ·rw [if_neg hx,treeB_sl,FW hr hx,slV_own];simp
end
theorem frz_int {κ:IntKind}{n:Int}:frz (.int κ n) = .int κ n:=(rfl)
theorem frz_bool {v:Bool}:frz (.bool v) = .bool v:=(rfl)
theorem frz_str {v:ByteArray}:frz (.str v) = .str v:=(rfl)
theorem frz_lst {v:List AV}:frz (.lst v) = .lst v:=(rfl)
theorem frz_nils:frz .nils = .lst []:=(rfl)
theorem frz_agg {v:List AV}:frz (.agg v) = .agg (v.map frz):=by simp [frz,Fl]
theorem frz_own {es:Nat}{v:List AV}:frz (.own es v) = .lst (v.map frz):=by simp [frz,Fl]
theorem frz_fn {f:FuncId}{v:List AV}:frz (.fn f v) = .fn f (v.map frz):=by simp [frz,Fl]
theorem frz_cellv {e:AV}{es:Nat}{xs:List AV}(he:e.void=true):frz (cellv e es xs) = .lst (xs.map frz):=by
 unfold cellv;by_cases hx:xs = []
 ·subst hx;rw [if_pos rfl];cases e<;>first|rfl|(simp [AV.void] at he)
 ·rw [if_neg hx,frz_own]
theorem node_eval {h:List Ob}{r st:Nat}{p:Path}{ss:Nat}:node h r st p ss=match h[r]? with|some o=>if o.st=st∧(p = []∨o.ss=ss) then nav o.c p else none|none=>none:=(rfl)
theorem nav_nil' {x:AV}:nav x []=some x:=by simp [nav]
theorem nav_own {es:Nat}{xs:List AV}{i j:Nat}{p:Path}:nav (.own es xs) ((i,j)::p)=match xs[i]? with|some e=>(match e.cells[j]? with|some c=>nav c p|none=>none)|none=>none:=(rfl)
theorem flats_int {κ:IntKind}{n:Int}:(AV.int κ n).flats=true:=(rfl)
theorem flats_bool {v:Bool}:(AV.bool v).flats=true:=(rfl)
theorem freeL_nil {L:List Nat}{k:Nat}:F2 L k [] = []:=(rfl)
theorem freeL_cons {L:List Nat}{k:Nat}{o:Ob}{t:List Ob}:F2 L k (o::t)=(if L.contains k then { o with c:=.gone } else o)::F2 L (k+1) t:=(rfl)
theorem entry_eq {nt ns:Nat}{xs:List AV}(h:xs.length≤nt):Acx nt ns xs = { t:=aT (.tup []) nt (Acw 0 xs),h:=List.replicate ns Eg,lp:=[] }:=by
 unfold Acx;rw [AI h]
theorem idxL_nil {k:Nat}:Acw k [] = []:=(rfl)
theorem idxL_cons {k:Nat}{x:AV}{xs:List AV}:Acw k (x::xs)=(k,x)::Acw (k+1) xs:=(rfl)
theorem look_cons {d:AV}{k j:Nat}{v:AV}{l:List (Nat×AV)}:AA d k ((j,v)::l)=if j=k then v else AA d k l:=(rfl)
theorem look_nil {d:AV}{k:Nat}:AA d k []=d:=(rfl)
theorem elK_aT {d:AV}{nt k:Nat}{l:List (Nat×AV)}{q:AV→Prop}(h:k<nt):elK (aT d nt l) k q=q (AA d k l):=by
 simp only [elK,aT_get h]
theorem isCell_eq {h:List Ob}{r st ss es:Nat}{p:Path}{e:AV}{xs:List AV}:KR h r st p ss e es xs=Bd h r st p ss (fun nd=>nd=cellv e es xs):=(rfl)
theorem rowv_app {e:AV}{es r st:Nat}{xs:List AV}{y:AV}:KC e es r st (xs++[y]) = .sl r st [] 0 0 (xs.length+1):=by simp [KC]
theorem rowo_app {es:Nat}{xs:List AV}{y:AV}:Mp es (xs++[y]) = .own es (xs++[y]):=by simp [Mp]
theorem cellv_app {e:AV}{es:Nat}{xs:List AV}{y:AV}:cellv e es (xs++[y]) = .own es (xs++[y]):=by simp [cellv]
theorem rowv_nil {e:AV}{es r st:Nat}:KC e es r st []=e:=by simp [KC]
theorem rowo_nil {es:Nat}:Mp es [] = .gone:=by simp [Mp]
theorem cellv_nil {e:AV}{es:Nat}:cellv e es []=e:=by simp [cellv]
theorem ownK_cellv {e:AV}{es:Nat}{xs:List AV}{q:Nat→List AV→Prop}(he:e.void=true):FX (cellv e es xs) q=(xs≠[]∧q es xs):=by
 unfold cellv;by_cases h:xs = []
 ·cases e<;>first|(simp [AV.void] at he;done)|simp [h,FX]
 ·simp [h,FX]
theorem iadK_cell {e:AV}{h:List Ob}{es r st ss:Nat}{p:Path}{xs:List AV}{κ:IntKind}{i:Int}{q:AV→Prop}(he:e.void=true)(hr:KR h r st p ss e es xs) :
 Aeh h es (Nv e es r st p ss xs) (.int κ i) q=((0≤i∧i<(xs.length:Int))∧q (.ptr r st p ss i.toNat 0)):=by
 unfold Nv;by_cases hx:xs = []
 ·subst hx;rw [if_pos rfl];have h0:¬(0≤i∧i<(([]:List AV).length:Int)):=by simp
  simp only [h0,false_and];cases e<;>first|(simp [AV.void] at he;done)|rfl
 ·rw [if_neg hx,iadK_sl];simp only [Bd,FW hr hx,FX,true_and,Nat.zero_add]
theorem yob_plain {ys:List AV}{o:Ob}(h:Fx ys=true):yob ys o=o:=by simp [yob,h]
theorem yob_ss {ys:List AV}{o:Ob}:(yob ys o).ss=o.ss:=by unfold yob;split<;>rfl
theorem take_all {xs:List AV}{n:Nat}(h:xs.length=n):xs.take n=xs:=by rw [List.take_of_length_le (by omega)]
theorem allPlain2_nil:Fx []=true:=(rfl)
theorem allPlain2_cons {y:AV}{ys:List AV}:Fx (y::ys)=(y.cells.all AV.plain&&Fx ys):=(rfl)
theorem map_frz {α:Type}{f:α→AV}{l:List α}(h:∀x,frz (f x)=f x):(l.map f).map frz=l.map f:=by
 rw [List.map_map];exact List.map_congr_left (fun x _=>h x)
theorem goneOb_eq:Eg=⟨0,0,.gone⟩:=(rfl)
end Go.Mw
