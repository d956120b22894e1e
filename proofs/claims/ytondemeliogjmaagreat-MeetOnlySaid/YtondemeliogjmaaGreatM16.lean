/- How simp steps through code: memory. -/
import Derived.Test.YtondemeliogjmaaGreatM15
set_option linter.unusedVariables false
set_option linter.unusedSimpArgs false
namespace Go.Mw
section
variable {G:Prg}{b:Nat}{σ:St}{k:AV→St→Prop}
def OC (h:List Ob)(r:Nat)(c:AV)(k:List Ob→Nat→Prop)(u:Tg k:=tg):Prop:=match newOb h r c with|some (h',st)=>k h' st|none=>False
def Aav (c:AV)(p:Prop)(u:Tg p:=tg):Prop:=match c with | .gone=>p|_=>False
theorem Zf {p:Prop}:Aav .gone p=p:=(rfl)
theorem Xn {h:List Ob}{r:Nat}{c:AV}{q:List Ob→Nat→Prop}:OC h r c q=obK h[r]? (fun o=>Aav o.c (q (h.set r ⟨o.st+1,0,c⟩) (o.st+1))):=by
 simp only [OC,newOb,obK,Aav];cases h[r]? with
 | none=>rfl
 | some o=>simp only;cases o.c<;>rfl
def Ka (cs:List AV):Prop:=cs.all AV.plain=true
theorem Wc:Ka []=True:=by simp [Ka]
theorem SS {c:AV}{cs:List AV}:Ka (c::cs)=(c.plain=true∧Ka cs):=by simp [Ka]
theorem AhP {s es:Nat}{z:AV}:wpI G (.alc s es z) b σ k=((z.cells.length=es∧0<es∧Ka z.cells)∧OC σ.h (b+s) (.own es [z]) (fun h st=>k (.ptr (b+s) st [] 0 0 0) { σ with h })):=by
 simp only [wpI,ax,OC,Ka];by_cases hc:z.cells.length=es∧0<es∧z.cells.all AV.plain=true
 ·rw [if_pos hc];simp only [hc,true_and];cases newOb σ.h (b+s) (.own es [z])<;>simp [Bm]
 ·rw [if_neg hc];simp only [hc,false_and,Bm]
def HR (h:List Ob)(r:Nat)(p:Path)(v:AV)(bump:Bool)(k:List Ob→Prop)(u:Tg k:=tg):Prop:=match setOb h r p v bump with|some h'=>k h'|none=>False
def XG (x:AV)(p:Path)(v:AV)(k:AV→Prop)(u:Tg k:=tg):Prop:=match upd x p v with|some c=>k c|none=>False
theorem Th {x v:AV}{q:AV→Prop}:XG x [] v q=q v:=by simp [XG,upd]
theorem Ab8 {es:Nat}{xs:List AV}{i j:Nat}{p:Path}{v:AV}{q:AV→Prop}:XG (.own es xs) ((i,j)::p) v q=elK xs i (fun e=>elK e.cells j (fun c=>XG c p v (fun c'=>q (.own es (xs.set i (setCellOf e j c')))))):=by
 simp only [XG,upd,elK];cases xs[i]? with
 | none=>rfl
 | some e =>
   simp only;cases e.cells[j]? with
   | none=>rfl
   | some c=>simp only;cases upd c p v<;>rfl
theorem KT {h:List Ob}{r:Nat}{p:Path}{v:AV}{bump:Bool}{q:List Ob→Prop}:HR h r p v bump q=obK h[r]? (fun o=>XG o.c p v (fun c=>q (h.set r ⟨o.st,if bump then o.ss+1 else o.ss,c⟩))):=by
 simp only [HR,setOb,obK,XG];cases h[r]? with
 | none=>rfl
 | some o=>simp only;cases upd o.c p v<;>rfl
def FD (h:List Ob)(n:Nat)(v:AV)(k:List AV→Prop)(u:Tg k:=tg):Prop:=match vcells h n v with|some vs=>k vs|none=>False
def QU (h:List Ob)(v:AV):Prop:=LP h v=true
def BM (h:List Ob)(v:AV)(k:AV→List Ob→Prop)(u:Tg k:=tg):Prop:=match takeCell h v with|some (c,h')=>k c h'|none=>False
def Cb (h:List Ob)(vs:List AV)(k:List AV→List Ob→Prop)(u:Tg k:=tg):Prop:=match takeCells h vs with|some (cs,h')=>k cs h'|none=>False
def Js (h:List Ob)(n:Nat)(v:AV)(k:AV→List Ob→Prop)(u:Tg k:=tg):Prop:=match takeVal h n v with|some (c,h')=>k c h'|none=>False
def FW (h:List Ob)(n:Nat)(vs:List AV)(k:List AV→List Ob→Prop)(u:Tg k:=tg):Prop:=match takeVals h n vs with|some (cs,h')=>k cs h'|none=>False
theorem vcellsK_agg {h:List Ob}{n:Nat}{cs:List AV}{q:List AV→Prop}:FD h n (.agg cs) q=(cs.length=n∧q cs):=by
 simp only [FD,vcells];by_cases hc:cs.length=n<;>simp [hc]
theorem vcellsK_one {h:List Ob}{n:Nat}{v:AV}{q:List AV→Prop}(hv:v.cells = [v]):FD h n v q=((n=1∧QU h v)∧q [v]):=by
 simp only [FD,vcells,QU];split
 ·rename_i he;split at he
  ·rename_i xs cs;simp only [AV.cells] at hv;have h2:=congrArg SizeOf.sizeOf hv;simp at h2;omega
  ·split at he
   ·rename_i hc;cases he;simp [hc]
   ·cases he
 ·rename_i he;split at he
  ·rename_i xs cs;simp only [AV.cells] at hv;have h2:=congrArg SizeOf.sizeOf hv;simp at h2;omega
  ·split at he
   ·cases he
   ·rename_i hc;simp [hc]
theorem takeCellK_plain {h:List Ob}{v:AV}{q:AV→List Ob→Prop}(hv:v.plain=true):BM h v q=q v h:=by
 cases v<;>first|(simp [AV.plain] at hv;done)|rfl|skip
 simp only [BM,takeCell];rw [if_pos hv]
theorem takeCellK_sl {h:List Ob}{r st:Nat}{p:Path}{ss off len:Nat}{q:AV→List Ob→Prop} :
 BM h (.sl r st p ss off len) q=Br h r st p ss (fun nd=>Jl nd (fun es xs=>(off=0∧len≤xs.length)∧HR h r p .gone false (fun h'=>q (.own es (xs.take len)) h'))):=by
 simp only [BM,takeCell,Br,Jl,HR];cases node h r st p ss with
 | none=>rfl
 | some nd =>
   cases nd<;>first|rfl|skip
   rename_i es xs;simp only;by_cases hc:off=0∧len≤xs.length
   ·rw [if_pos hc];simp only [hc,true_and];cases setOb h r p .gone false<;>simp
   ·rw [if_neg hc];simp only [hc,false_and]
theorem takeCellsK_nil {h:List Ob}{q:List AV→List Ob→Prop}:Cb h [] q=q [] h:=(rfl)
theorem takeCellsK_cons {h:List Ob}{v:AV}{vs:List AV}{q:List AV→List Ob→Prop}:Cb h (v::vs) q=BM h v (fun c h1=>Cb h1 vs (fun cs h2=>q (c::cs) h2)):=by
 simp only [Cb,takeCells,BM];cases takeCell h v with
 | none=>rfl
 | some p=>simp only;cases takeCells p.2 vs<;>rfl
theorem takeValK_eq {h:List Ob}{n:Nat}{v:AV}{q:AV→List Ob→Prop}:Js h n v q=FD h n v (fun vs=>Cb h vs (fun cs h'=>q (R2 v cs) h')):=by
 simp only [Js,takeVal,FD,Cb];cases vcells h n v with
 | none=>rfl
 | some vs=>simp only;cases takeCells h vs<;>rfl
theorem takeValsK_nil {h:List Ob}{n:Nat}{q:List AV→List Ob→Prop}:FW h n [] q=q [] h:=(rfl)
theorem takeValsK_cons {h:List Ob}{n:Nat}{v:AV}{vs:List AV}{q:List AV→List Ob→Prop}:FW h n (v::vs) q=Js h n v (fun c h1=>FW h1 n vs (fun cs h2=>q (c::cs) h2)):=by
 simp only [FW,takeVals,Js];cases takeVal h n v with
 | none=>rfl
 | some p=>simp only;cases takeVals p.2 n vs<;>rfl
theorem remake_agg {cs ds:List AV}:R2 (.agg cs) ds = .agg ds:=(rfl)
theorem remake_one {v:AV}{d:AV}(hv:v.cells = [v]):R2 v [d]=d:=by
 cases v<;>first|rfl|skip
 rename_i cs;simp only [AV.cells] at hv;have h2:=congrArg SizeOf.sizeOf hv;simp at h2;omega
theorem wpI_box {s es:Nat}{x:Opd}:wpI G (.box s es x) b σ k=(0<es∧Js σ.h es (σ.get x) (fun v h1=>OC h1 (b+s) (.own es [v]) (fun h st=>k (.ptr (b+s) st [] 0 0 0) { σ with h }))):=by
 simp only [wpI,ax,Js,OC];by_cases hc:0<es
 ·rw [if_pos hc];simp only [hc,true_and];cases takeVal σ.h es (σ.get x) with
  | none=>rfl
  | some p=>simp only;cases newOb p.2 (b+s) (.own es [p.1])<;>simp [Bm]
 ·rw [if_neg hc];simp only [hc,false_and,Bm]
theorem wpI_bsl {s es n:Nat}{xs:List Opd}:wpI G (.bsl s es n xs) b σ k=((xs.length=n∧0<es)∧if n=0 then k .emp σ else FW σ.h es (σ.gets xs) (fun vs h1=>OC h1 (b+s) (.own es vs) (fun h st=>k (.sl (b+s) st [] 0 0 n) { σ with h }))):=by
 simp only [wpI,ax,FW,OC];by_cases hc:xs.length=n∧0<es
 ·rw [if_pos hc];simp only [hc,true_and];by_cases h0:n=0
  ·rw [if_pos h0,if_pos h0];simp [Bm]
  ·rw [if_neg h0,if_neg h0];cases takeVals σ.h es (σ.gets xs) with
   | none=>simp [Bm]
   | some p=>simp only;cases newOb p.2 (b+s) (.own es p.1)<;>simp [Bm]
 ·rw [if_neg hc];simp only [hc,false_and,Bm]
theorem wpI_mkm {s:Nat}:wpI G (.mkm s) b σ k=OC σ.h (b+s) (.ownm []) (fun h st=>k (.mp (b+s) st [] 0) { σ with h }):=by
 simp only [wpI,ax,OC];cases newOb σ.h (b+s) (.ownm [])<;>simp [Bm]
def Ajv (l c:AV)(k:Int→Prop)(u:Tg k:=tg):Prop:=match l,c with | .int .i64 l,.int .i64 c=>l=c∧k l|_,_=>False
theorem mksK_int {l c:Int}{q:Int→Prop}:Ajv (.int .i64 l) (.int .i64 c) q=(l=c∧q l):=(rfl)
theorem wpI_mks {s es bytes:Nat}{z:AV}{l c:Opd}:wpI G (.mks s es bytes z l c) b σ k=Ajv (σ.get l) (σ.get c) (fun n=>(0≤n∧n≤4294967296∧bytes≤4096∧0<es) ∧
 OC σ.h (b+s) (.own es (List.replicate n.toNat z)) (fun h st=>k (.sl (b+s) st [] 0 0 n.toNat) { σ with h })):=by
 simp only [wpI,ax,Ajv,OC];generalize σ.get l=u;generalize σ.get c=v;cases u<;>first|rfl|skip
 rename_i κ n;cases κ<;>first|rfl|skip
 cases v<;>first|rfl|skip
 rename_i κ' n';cases κ'<;>first|rfl|skip
 simp only;by_cases hc:n=n'∧0≤n∧n≤4294967296∧bytes≤4096∧0<es
 ·rw [if_pos hc];obtain ⟨rfl,h1,h2,h3,h4⟩:=hc;cases newOb σ.h (b+s) (.own es (List.replicate n.toNat z))<;>simp [Bm,h1,h2,h3,h4]
 ·rw [if_neg hc];by_cases h1:n=n'
  ·simp only [h1,true_and] at hc ⊢;simp only [hc,false_and,Bm]
  ·simp only [h1,false_and,Bm]
def SR (r st:Nat)(p:Path)(ss:Nat)(c:AV)(k:AV→Prop)(u:Tg k:=tg):Prop:=match outv r st p ss c with|some v=>k v|none=>False
theorem outvK_own {r st:Nat}{p:Path}{ss es:Nat}{xs:List AV}{q:AV→Prop}:SR r st p ss (.own es xs) q=q (.sl r st p ss 0 xs.length):=(rfl)
theorem outvK_ownm {r st:Nat}{p:Path}{ss:Nat}{es:List (AV×AV)}{q:AV→Prop}:SR r st p ss (.ownm es) q=q (.mp r st p ss):=(rfl)
theorem outvK_plain {r st:Nat}{p:Path}{ss:Nat}{c:AV}{q:AV→Prop}(hc:c.plain=true):SR r st p ss c q=q c:=by
 cases c<;>first|rfl|(simp [AV.plain] at hc)
def SD (r st:Nat)(p:Path)(ss i j:Nat)(cs:List AV)(k:List AV→Prop)(u:Tg k:=tg):Prop:=match outL r st p ss i j cs with|some vs=>k vs|none=>False
theorem outLK_nil {r st:Nat}{p:Path}{ss i j:Nat}{q:List AV→Prop}:SD r st p ss i j [] q=q []:=(rfl)
theorem outLK_cons {r st:Nat}{p:Path}{ss i j:Nat}{c:AV}{cs:List AV}{q:List AV→Prop}:SD r st p ss i j (c::cs) q=SR r st (p++[(i,j)]) ss c (fun v=>SD r st p ss i (j+1) cs (fun vs=>q (v::vs))):=by
 simp only [SD,outL,SR];cases outv r st (p++[(i,j)]) ss c with
 | none=>rfl
 | some v=>simp only;cases outL r st p ss i (j+1) cs<;>rfl
def NL (cs:List AV)(k:AV→Prop)(u:Tg k:=tg):Prop:=match cs with|c::_=>k c | []=>False
theorem headK_cons {c:AV}{cs:List AV}{q:AV→Prop}:NL (c::cs) q=q c:=(rfl)
def ldK (h:List Ob)(ag:Bool)(n:Nat)(a:AV)(k:AV→Prop)(u:Tg k:=tg):Prop :=
 match a with
 | .pfro cs=>n≤cs.length∧if ag then k (.agg (cs.take n)) else NL cs k
 | .ptr r st p ss i j=>Br h r st p ss (fun nd=>Jl nd (fun _ xs=>elK xs i (fun e=>j+n≤e.cells.length∧obK h[r]? (fun o=>SD r st p o.ss i j ((e.cells.drop j).take n) (fun cs=>if ag then k (.agg cs) else cs.length=1∧NL cs k)))))
 | _=>False
theorem wpI_ld {ag:Bool}{n:Nat}{a:Opd}:wpI G (.ld ag n a) b σ k=ldK σ.h ag n (σ.get a) (fun v=>k v σ):=by
 simp only [wpI,ax,ldK];cases σ.get a<;>first|rfl|skip
 ·rename_i cs;simp only;by_cases hc:n≤cs.length
  ·rw [if_pos hc];cases ag
   ·cases cs with
    | nil=>simp [Bm,NL]
    | cons c cs=>simp only [hc,true_and,Bool.false_eq_true,if_false,NL];rfl
   ·simp [Bm,hc]
  ·rw [if_neg hc];simp only [hc,false_and,Bm]
 ·rename_i r st p ss i j;simp only [Br,Jl,elK,obK,SD,NL];cases hn:node σ.h r st p ss with
  | none=>rfl
  | some nd =>
    obtain ⟨o,ho,_⟩:=Bf.1 hn;cases nd with
    | own es xs =>
      simp only [ho];cases xs[i]? with
      | none=>rfl
      | some e =>
        simp only;by_cases hc:j+n≤e.cells.length
        ·rw [if_pos hc];simp only [hc,true_and];cases outL r st p o.ss i j ((e.cells.drop j).take n) with
         | none=>rfl
         | some cs =>
           simp only;cases ag
           ·simp only [Bool.false_eq_true,if_false];cases cs with
            | nil=>simp [Bm]
            | cons c cs=>cases cs<;>simp [Bm]
           ·rfl
        ·rw [if_neg hc];simp only [hc,false_and,Bm]
    | _=>rfl
theorem ldK_pfro {h:List Ob}{ag:Bool}{n:Nat}{cs:List AV}{q:AV→Prop}:ldK h ag n (.pfro cs) q=(n≤cs.length∧if ag then q (.agg (cs.take n)) else NL cs q):=(rfl)
theorem ldK_ptr {h:List Ob}{ag:Bool}{n r st:Nat}{p:Path}{ss i j:Nat}{q:AV→Prop}:ldK h ag n (.ptr r st p ss i j) q =
 Br h r st p ss (fun nd=>Jl nd (fun _ xs=>elK xs i (fun e=>j+n≤e.cells.length∧obK h[r]? (fun o=>SD r st p o.ss i j ((e.cells.drop j).take n) (fun cs=>if ag then q (.agg cs) else cs.length=1∧NL cs q))))):=(rfl)
def Ajf (h:List Ob)(n:Nat)(a x:AV)(k:List Ob→Prop)(u:Tg k:=tg):Prop :=
 match a with
 | .ptr r st p ss i j=>Br h r st p ss (fun nd=>Jl nd (fun es0 _=>FD h n x (fun vs=>Cb h vs (fun cs h1=>obK h1[r]? (fun o=>Abs o.c p (fun nd1=>Jl nd1 (fun es xs=>elK xs i (fun e =>
    (es0=es∧j+n≤e.cells.length)∧HR h1 r p (.own es (xs.set i (setCells e j cs))) (cs.any isNode||((e.cells.drop j).take n).any isNode) k))))))))
 | _=>False
theorem wpI_sto {n:Nat}{a x:Opd}:wpI G (.sto n a x) b σ k=Ajf σ.h n (σ.get a) (σ.get x) (fun h=>k .undef { σ with h }):=by
 simp only [wpI,ax,Ajf];cases σ.get a<;>first|rfl|skip
 rename_i r st p ss i j;simp only [Br,Jl,FD,Cb,obK,Abs,elK,HR];cases node σ.h r st p ss with
 | none=>rfl
 | some nd =>
   cases nd<;>first|rfl|skip
   rename_i es0 xs0;simp only;cases vcells σ.h n (σ.get x) with
   | none=>rfl
   | some vs =>
     simp only;cases takeCells σ.h vs with
     | none=>rfl
     | some p1 =>
       obtain ⟨cs,h1⟩:=p1;simp only [nodeAt];cases h1[r]? with
       | none=>rfl
       | some o =>
         simp only;cases nav o.c p with
         | none=>rfl
         | some nd1 =>
           cases nd1<;>first|rfl|skip
           rename_i es xs;simp only;cases xs[i]? with
           | none=>rfl
           | some e =>
             simp only;by_cases hc:es0=es∧j+n≤e.cells.length
             ·rw [if_pos hc];simp only [hc,true_and];cases setOb h1 r p (.own es (xs.set i (setCells e j cs))) (cs.any isNode||((e.cells.drop j).take n).any isNode)<;>simp [Bm]
             ·rw [if_neg hc];simp only [hc,false_and,Bm]
theorem stoK_ptr {h:List Ob}{n r st:Nat}{p:Path}{ss i j:Nat}{x:AV}{q:List Ob→Prop}:Ajf h n (.ptr r st p ss i j) x q =
 Br h r st p ss (fun nd=>Jl nd (fun es0 _=>FD h n x (fun vs=>Cb h vs (fun cs h1=>obK h1[r]? (fun o=>Abs o.c p (fun nd1=>Jl nd1 (fun es xs=>elK xs i (fun e =>
 (es0=es∧j+n≤e.cells.length)∧HR h1 r p (.own es (xs.set i (setCells e j cs))) (cs.any isNode||((e.cells.drop j).take n).any isNode) q)))))))):=(rfl)
def AiM (h:List Ob)(off:Nat)(x:AV)(k:AV→Prop)(u:Tg k:=tg):Prop :=
 match x with
 | .pfro cs=>off≤cs.length∧k (.pfro (cs.drop off))
 | .ptr r st p ss i j=>Br h r st p ss (fun nd=>Jl nd (fun _ _=>k (.ptr r st p ss i (j+off))))
 | _=>False
theorem wpI_fad {off:Nat}{x:Opd}:wpI G (.fad off x) b σ k=AiM σ.h off (σ.get x) (fun v=>k v σ):=by
 simp only [wpI,ax,AiM];cases σ.get x<;>first|rfl|skip
 ·rename_i cs;simp only;by_cases hc:off≤cs.length
  ·rw [if_pos hc];simp [Bm,hc]
  ·rw [if_neg hc];simp [Bm,hc]
 ·rename_i r st p ss i j;simp only [Br,Jl];cases node σ.h r st p ss with
  | none=>rfl
  | some nd=>cases nd<;>rfl
theorem fadK_pfro {h:List Ob}{off:Nat}{cs:List AV}{q:AV→Prop}:AiM h off (.pfro cs) q=(off≤cs.length∧q (.pfro (cs.drop off))):=(rfl)
theorem fadK_ptr {h:List Ob}{off r st:Nat}{p:Path}{ss i j:Nat}{q:AV→Prop}:AiM h off (.ptr r st p ss i j) q=Br h r st p ss (fun nd=>Jl nd (fun _ _=>q (.ptr r st p ss i (j+off)))):=(rfl)
def AjV (ag:Bool)(off n:Nat)(x:AV)(k:AV→Prop)(u:Tg k:=tg):Prop :=
 match x with
 | .agg cs=>off+n≤cs.length∧if ag then k (.agg ((cs.drop off).take n)) else NL (cs.drop off) k
 | _=>False
theorem wpI_fld {ag:Bool}{off n:Nat}{x:Opd}:wpI G (.fld ag off n x) b σ k=AjV ag off n (σ.get x) (fun v=>k v σ):=by
 simp only [wpI,ax,AjV];cases σ.get x<;>first|rfl|skip
 rename_i cs;simp only;by_cases hc:off+n≤cs.length
 ·rw [if_pos hc];cases ag
  ·simp only [hc,true_and,Bool.false_eq_true,if_false,NL];cases h1:cs[off]? with
   | none =>
     have:cs.drop off = []:=List.drop_eq_nil_of_le (List.getElem?_eq_none_iff.1 h1);rw [this];rfl
   | some c =>
     obtain ⟨hl,rfl⟩:=List.getElem?_eq_some_iff.1 h1;rw [List.drop_eq_getElem_cons hl];rfl
  ·simp [Bm,hc]
 ·rw [if_neg hc];simp only [hc,false_and,Bm]
theorem fldK_agg {ag:Bool}{off n:Nat}{cs:List AV}{q:AV→Prop}:AjV ag off n (.agg cs) q=(off+n≤cs.length∧if ag then q (.agg ((cs.drop off).take n)) else NL (cs.drop off) q):=(rfl)
def AiT (h:List Ob)(len es:Nat)(x i:AV)(k:AV→Prop)(u:Tg k:=tg):Prop :=
 match x,i with
 | .pfro cs,.int _ i=>(0≤i∧i<(len:Int)∧i.toNat*es≤cs.length)∧k (.pfro (cs.drop (i.toNat*es)))
 | .ptr r st p ss m j,.int _ i=>(0≤i∧i<(len:Int))∧Br h r st p ss (fun nd=>Jl nd (fun _ _=>k (.ptr r st p ss m (j+i.toNat*es))))
 | _,_=>False
theorem wpI_iaa {len es:Nat}{x i:Opd}:wpI G (.iaa len es x i) b σ k=AiT σ.h len es (σ.get x) (σ.get i) (fun v=>k v σ):=by
 simp only [wpI,ax,AiT];cases σ.get x<;>cases σ.get i<;>first|rfl|skip
 ·rename_i cs κ n;simp only;by_cases hc:0≤n∧n<(len:Int)∧n.toNat*es≤cs.length
  ·rw [if_pos hc];simp [Bm,hc]
  ·rw [if_neg hc];simp only [hc,false_and,Bm]
 ·rename_i r st p ss m j κ n;simp only [Br,Jl];by_cases hc:0≤n∧n<(len:Int)
  ·rw [if_pos hc];simp only [hc,true_and];cases node σ.h r st p ss with
   | none=>simp [Bm]
   | some nd=>cases nd<;>simp [Bm]
  ·rw [if_neg hc];simp only [hc,false_and,Bm]
theorem iaaK_pfro {h:List Ob}{len es:Nat}{cs:List AV}{κ:IntKind}{n:Int}{q:AV→Prop}:AiT h len es (.pfro cs) (.int κ n) q=((0≤n∧n<(len:Int)∧n.toNat*es≤cs.length)∧q (.pfro (cs.drop (n.toNat*es)))):=(rfl)
theorem iaaK_ptr {h:List Ob}{len es r st:Nat}{p:Path}{ss m j:Nat}{κ:IntKind}{n:Int}{q:AV→Prop}:AiT h len es (.ptr r st p ss m j) (.int κ n) q=((0≤n∧n<(len:Int))∧Br h r st p ss (fun nd=>Jl nd (fun _ _=>q (.ptr r st p ss m (j+n.toNat*es))))):=(rfl)
def Akl (ag:Bool)(len es:Nat)(x i:AV)(k:AV→Prop)(u:Tg k:=tg):Prop :=
 match x,i with
 | .agg cs,.int _ i=>(0≤i∧i<(len:Int)∧i.toNat*es+es≤cs.length)∧if ag then k (.agg ((cs.drop (i.toNat*es)).take es)) else (match cs[i.toNat*es]? with|some c=>k c|none=>False)
 | _,_=>False
def AgX (σ:St)(cs:List AV)(ps:List (Nat×Nat×Opd))(k:List AV→Prop)(u:Tg k:=tg):Prop:=match bldAV σ cs ps with|some cs=>k cs|none=>False
theorem bldK_nil {cs:List AV}{q:List AV→Prop}:AgX σ cs [] q=q cs:=(rfl)
theorem bldK_cons {cs:List AV}{off n:Nat}{x:Opd}{ps:List (Nat×Nat×Opd)}{q:List AV→Prop} :
 AgX σ cs ((off,n,x)::ps) q=FD σ.h n (σ.get x) (fun vs=>off+n≤cs.length∧AgX σ (cs.take off++vs++cs.drop (off+n)) ps q):=by
 simp only [AgX,bldAV,FD];cases vcells σ.h n (σ.get x) with
 | none=>rfl
 | some vs=>simp only;by_cases hc:off+n≤cs.length<;>simp [hc]
theorem wpI_bld {z:List AV}{ps:List (Nat×Nat×Opd)}:wpI G (.bld z ps) b σ k=AgX σ z ps (fun cs=>k (.agg cs) σ):=by
 simp only [wpI,ax,AgX];cases bldAV σ z ps<;>rfl
def Akh (mx:Bool)(x y:AV)(k:AV→Prop)(u:Tg k:=tg):Prop:=match x,y with | .int κ a,.int κ' c=>κ=κ'∧k (.int κ (if mx then (if c>a then c else a) else (if c<a then c else a)))|_,_=>False
def Akp (x:AV)(k:AV→Prop)(u:Tg k:=tg):Prop:=match x with | .lst xs=>k (.pfro [.lst xs])|_=>False
def Acy (h:List Ob)(neg:Bool)(x y:AV)(k:AV→Prop)(u:Tg k:=tg):Prop:=match y with | .nils=>(match nilAV h x with|some c=>k (.bool (c != neg))|none=>False)|_=>False
theorem wpI_nilc {neg:Bool}{x y:Opd}:wpI G (.nilc neg x y) b σ k=Acy σ.h neg (σ.get x) (σ.get y) (fun v=>k v σ):=by
 simp only [wpI,ax,Acy];cases σ.get y<;>first|rfl|skip
 simp only;cases nilAV σ.h (σ.get x)<;>simp [Bm]
theorem nilcK_lst {h:List Ob}{neg:Bool}{x:AV}{xs:List AV}{q:AV→Prop}:Acy h neg (.lst (x::xs)) .nils q=q (.bool (false != neg)):=(rfl)
end
end Go.Mw
namespace Go.Mw
def Mo (e:AV)(es r st:Nat)(xs:List AV):AV:=if xs = [] then e else .sl r st [] 0 0 xs.length
def Pa (es:Nat)(xs:List AV):AV:=if xs = [] then .gone else .own es xs
def cellv (e:AV)(es:Nat)(xs:List AV):AV:=if xs = [] then e else .own es xs
def Qd (e:AV)(xs:List AV):AV:=if xs = [] then e else .gone
def On (e:AV)(es r st:Nat)(p:Path)(ss:Nat)(xs:List AV):AV:=if xs = [] then e else .sl r st p ss 0 xs.length
def sta (xs:List AV)(st:Nat):Nat:=if xs = [] then st else st+1
def ssa (xs:List AV)(ss:Nat):Nat:=if xs = [] then ss else 0
section
variable {G:Prg}{b:Nat}{σ:St}{k:AV→St→Prop}
def H0 (xs:List AV):Bool:=xs.all fun e:AV=>e.cells.all AV.plain
def yob (ys:List AV)(o:Ob):Ob:=if H0 ys=true then o else ⟨o.st,o.ss,.gone⟩
theorem yob_st {ys:List AV}{o:Ob}:(yob ys o).st=o.st:=by unfold yob;split<;>rfl
def MH (es:Nat)(ys:List AV):Prop:=(ys.head?.all fun e:AV=>e.cells.length==es)=true
theorem headOk_map {α:Type}{l:List α}{f:α→AV}{es:Nat}(h:∀x,(f x).cells.length=es):MH es (l.map f)=True:=by
 cases l<;>simp [MH,h]
theorem headOk_cons {es:Nat}{y:AV}{ys:List AV}:MH es (y::ys)=(y.cells.length=es):=by simp [MH]
def appYK (h:List Ob)(es:Nat)(y:AV)(k:List AV→List Ob→Prop)(u:Tg k:=tg):Prop:=match appY h es y with|some (ys,h1)=>k ys h1|none=>False
def Rv (h:List Ob)(es:Nat)(x:AV)(k:List AV→List Ob→Prop)(u:Tg k:=tg):Prop:=match appX h es x with|some (xs,h1)=>k xs h1|none=>False
def Ag4 (x:AV)(xs ys:List AV)(es bytes:Nat)(h:List Ob)(r:Nat)(k:AV→List Ob→Prop)(u:Tg k:=tg):Prop :=
 if xs.isEmpty=true∧ys.isEmpty=true then (match x with | .nils=>k .nils h | .emp=>k .emp h | .lst _=>k (.lst []) h|_=>False)
 else (xs.length+ys.length≤4294967296*(32768 / bytes)∧0<bytes∧bytes≤4096∧0<es∧x.isLst=false)∧OC h r (.own es (xs++ys)) (fun h st=>k (.sl r st [] 0 0 (xs.length+ys.length)) h)
theorem wpI_app {s es bytes:Nat}{x y:Opd}:wpI G (.app s es bytes x y) b σ k=appYK σ.h es (σ.get y) (fun ys h1=>Rv h1 es (σ.get x) (fun xs h2=>Ag4 (σ.get x) xs ys es bytes h2 (b+s) (fun v h=>k v { σ with h }))):=by
 simp only [wpI,ax,appYK,Rv,Ag4,OC];cases appY σ.h es (σ.get y) with
 | none=>rfl
 | some p =>
   simp only;cases appX p.2 es (σ.get x) with
   | none=>rfl
   | some q =>
     simp only;by_cases h0:q.1.isEmpty=true∧p.1.isEmpty=true
     ·rw [if_pos h0,if_pos h0];cases σ.get x<;>rfl
     ·rw [if_neg h0,if_neg h0];by_cases hc:q.1.length+p.1.length≤4294967296*(32768 / bytes)∧0<bytes∧bytes≤4096∧0<es∧(σ.get x).isLst=false
      ·rw [if_pos hc];cases newOb q.2 (b+s) (.own es (q.1++p.1))<;>simp [Bm,hc]
      ·rw [if_neg hc];simp only [hc,false_and,Bm]
theorem appYK_lst {h:List Ob}{es:Nat}{ys:List AV}{q:List AV→List Ob→Prop}:appYK h es (.lst ys) q=(MH es ys∧q ys h):=by
 simp only [appYK,appY,MH];by_cases hc:(ys.head?.all fun e:AV=>e.cells.length==es)=true
 ·rw [if_pos hc];simp only [hc,true_and]
 ·rw [if_neg hc];simp [hc]
theorem List.set_self {α:Type}{l:List α}{i:Nat}{x:α}(h:l[i]? = some x):l.set i x=l:=by
 apply List.ext_getElem?;intro j;rw [List.getElem?_set];by_cases hj:i=j
 ·subst hj;rw [if_pos rfl,h];have:=List.lt_of_some h;simp [this]
 ·rw [if_neg hj]
theorem appYK_sl {h:List Ob}{es r st ss off len:Nat}{p:Path}{q:List AV→List Ob→Prop}:appYK h es (.sl r st p ss off len) q =
 Br h r st p ss (fun nd=>Jl nd (fun es' ys=>es'=es∧if p = []∧off=0∧len=ys.length then obK h[r]? (fun o=>q ys (h.set r (yob ys o))) else appYK h es (.sl r st p ss off len) q)):=by
 conv=>lhs;unfold appYK appY
 simp only [Br,Jl];cases hn:node h r st p ss with
 | none=>rfl
 | some nd =>
   obtain ⟨o,ho,h1,h2,hnav⟩:=Bf.1 hn;cases nd with
   | own es' ys =>
     simp only;by_cases hes:es'=es
     ·simp only [hes,true_and];by_cases hc:p = []∧off=0∧len=ys.length
      ·rw [if_pos hc];obtain ⟨rfl,rfl,rfl⟩:=hc;simp only [ho,obK,Nat.zero_add,Nat.le_refl,List.drop_zero,List.take_length,true_and,and_self,if_true];by_cases hp:(ys.all fun e:AV=>e.cells.all AV.plain)=true
       ·rw [if_pos hp];simp only [yob,H0,hp,if_true];rw [List.set_self ho]
       ·rw [if_neg hp];simp only [yob,H0,hp,if_false];simp [setOb,ho,upd]
      ·rw [if_neg hc];unfold appYK appY;simp only [hn,hes,true_and]
     ·simp only [hes,false_and,if_false]
   | _=>rfl
theorem appXK_nils {h:List Ob}{es:Nat}{q:List AV→List Ob→Prop}:Rv h es .nils q=q [] h:=(rfl)
theorem appXK_emp {h:List Ob}{es:Nat}{q:List AV→List Ob→Prop}:Rv h es .emp q=q [] h:=(rfl)
theorem appXK_sl {h:List Ob}{es r st ss off len:Nat}{p:Path}{q:List AV→List Ob→Prop}:Rv h es (.sl r st p ss off len) q =
 Br h r st p ss (fun nd=>Jl nd (fun es' xs=>(es'=es∧off+len≤xs.length)∧HR h r p .gone false (fun h'=>q ((xs.drop off).take len) h'))):=by
 simp only [Rv,appX,Br,Jl,HR];cases node h r st p ss with
 | none=>rfl
 | some nd =>
   cases nd with
   | own es' xs =>
     simp only;by_cases hc:es'=es∧off+len≤xs.length
     ·rw [if_pos hc];simp only [hc,true_and];cases setOb h r p .gone false<;>simp
     ·rw [if_neg hc];simp only [hc,false_and]
   | _=>rfl
theorem appZ_cons {x:AV}{xs:List AV}{y:AV}{ys:List AV}{es bytes:Nat}{h:List Ob}{r:Nat}{q:AV→List Ob→Prop} :
 Ag4 x xs (y::ys) es bytes h r q=((xs.length+(ys.length+1)≤4294967296*(32768 / bytes)∧0<bytes∧bytes≤4096∧0<es∧x.isLst=false)∧OC h r (.own es (xs++y::ys)) (fun h st=>q (.sl r st [] 0 0 (xs.length+(ys.length+1))) h)):=by
 simp [Ag4]
def Yz (o:Option Ob):Prop:=match o with|some ⟨_,_,.gone⟩=>True|_=>False
def stOf (o:Option Ob):Nat:=match o with|some o=>o.st|none=>0
def Aga (o:Option Ob):Nat:=match o with|some o=>o.ss|none=>0
theorem freeAt_gone {st ss:Nat}:Yz (some ⟨st,ss,.gone⟩)=True:=(rfl)
theorem stOf_some {o:Ob}:stOf (some o)=o.st:=(rfl)
theorem ssOf_some {o:Ob}:Aga (some o)=o.ss:=(rfl)
theorem WP {o:Option Ob}(h:Yz o):o=some ⟨stOf o,Aga o,.gone⟩:=by
 unfold Yz at h;split at h
 ·rfl
 ·exact h.elim
theorem appZ_nils {ys:List AV}{es bytes:Nat}{h:List Ob}{r:Nat}{q:AV→List Ob→Prop}(hg:Yz h[r]?)(h1:0<bytes)(h2:bytes≤4096)(h3:0<es) :
 Ag4 .nils [] ys es bytes h r q=(ys.length≤4294967296*(32768 / bytes)∧q (Mo .nils es r (sta ys (stOf h[r]?)) ys) (h.set r ⟨sta ys (stOf h[r]?),ssa ys (Aga h[r]?),Pa es ys⟩)):=by
 have hg':=WP hg;cases ys with
 | nil=>simp [Ag4,Mo,Pa,sta,ssa];rw [List.set_self hg']
 | cons y ys =>
   simp only [appZ_cons,Xn];rw [hg'];simp [obK,Aav,Mo,Pa,sta,ssa,h1,h2,h3,AV.isLst,stOf]
def Uk (o:Option Ob)(st es:Nat)(xs:List AV):Prop:=match o with|some o=>o.st=st∧o.c=Pa es xs|none=>False
theorem isRow_some {o:Ob}{st es:Nat}{xs:List AV}:Uk (some o) st es xs=(o.st=st∧o.c=Pa es xs):=(rfl)
theorem Lu {h:List Ob}{r st es:Nat}{xs:List AV}(hr:Uk h[r]? st es xs)(hx:xs≠[]){ss:Nat}:node h r st [] ss=some (.own es xs):=by
 unfold Uk at hr;split at hr
 ·rename_i o ho;refine Bf.2 ⟨o,ho,hr.1,.inl rfl,?_⟩;rw [hr.2,Pa,if_neg hx,nav]
 ·exact hr.elim
theorem appXK_row {e:AV}{h:List Ob}{es r st:Nat}{xs:List AV}{q:List AV→List Ob→Prop}(he:e.void=true)(hr:Uk h[r]? st es xs) :
 Rv h es (Mo e es r st xs) q=q xs (h.set r ⟨st,Aga h[r]?,.gone⟩):=by
 have hr':=hr;unfold Uk at hr';split at hr'
 ·rename_i o ho;unfold Mo;by_cases hx:xs = []
  ·subst hx;rw [if_pos rfl];rw [ho];have:(⟨st,Aga (some o),.gone⟩:Ob)=o:=by
    obtain ⟨a,b,c⟩:=o;obtain ⟨rfl,e2⟩:=hr';simp only [Pa,if_true] at e2;subst e2;rfl
   rw [this,List.set_self ho];cases e<;>first|rfl|(simp [AV.void] at he)
  ·rw [if_neg hx,appXK_sl];simp only [Br,Lu hr hx,Jl,Nat.zero_add,Nat.le_refl,List.drop_zero,List.take_length,true_and,KT,ho,obK,Th,if_true];simp [hx,Aga,hr'.1]
 ·exact hr'.elim
theorem isLst_row {e:AV}{es r st:Nat}{xs:List AV}(he:e.void=true):(Mo e es r st xs).isLst=false:=by
 unfold Mo;split
 ·cases e<;>first|rfl|(simp [AV.void] at he)
 ·rfl
theorem takeCellK_row {e:AV}{h:List Ob}{r st es:Nat}{xs:List AV}{q:AV→List Ob→Prop}(he:e.void=true)(hr:Uk h[r]? st es xs) :
 BM h (Mo e es r st xs) q=q (cellv e es xs) (h.set r ⟨st,Aga h[r]?,.gone⟩):=by
 have hr':=hr;unfold Uk at hr';split at hr'
 ·rename_i o ho;unfold Mo cellv;by_cases hx:xs = []
  ·subst hx;rw [if_pos rfl,if_pos rfl];rw [ho];have:(⟨st,Aga (some o),.gone⟩:Ob)=o:=by
    obtain ⟨a,b,c⟩:=o;obtain ⟨rfl,e2⟩:=hr';simp only [Pa,if_true] at e2;subst e2;rfl
   rw [this,List.set_self ho];cases e<;>first|rfl|(simp [AV.void] at he)
  ·rw [if_neg hx,if_neg hx,takeCellK_sl];simp only [Br,Lu hr hx,Jl,Nat.le_refl,true_and,KT,ho,obK,Th,if_true,List.take_length];simp [hx,Aga,hr'.1]
 ·exact hr'.elim
theorem outvK_cell {e:AV}{r st:Nat}{p:Path}{ss es:Nat}{xs:List AV}{q:AV→Prop}(he:e.void=true):SR r st p ss (cellv e es xs) q=q (On e es r st p ss xs):=by
 unfold cellv On;by_cases hx:xs = []
 ·rw [if_pos hx,if_pos hx];cases e<;>first|rfl|(simp [AV.void] at he)
 ·rw [if_neg hx,if_neg hx];rfl
def KC (h:List Ob)(r st:Nat)(p:Path)(ss:Nat)(e:AV)(es:Nat)(xs:List AV):Prop:=Br h r st p ss (fun nd=>nd=cellv e es xs)
theorem HN {h:List Ob}{r st ss es:Nat}{p:Path}{e:AV}{xs:List AV}(hr:KC h r st p ss e es xs)(hx:xs≠[]):node h r st p ss=some (.own es xs):=by
 unfold KC Br at hr;split at hr
 ·rename_i nd hn;rw [hn,hr,cellv,if_neg hx]
 ·exact hr.elim
theorem lenlK_cell {e:AV}{h:List Ob}{es r st ss:Nat}{p:Path}{xs:List AV}{q:AV→Prop}(he:e.void=true)(hr:KC h r st p ss e es xs):S7 h (On e es r st p ss xs) q=q (.int .i64 xs.length):=by
 unfold On;by_cases hx:xs = []
 ·subst hx;rw [if_pos rfl];cases e<;>first|rfl|(simp [AV.void] at he)
 ·rw [if_neg hx,YW];simp only [Br,HN hr hx,Jl]
theorem YP:∀(p:Path) (x y:AV),nav x p=some y→(∀cs,y≠.agg cs)→upd x p y=some x:=by
 intro p;induction p with
 | nil=>intro x y h _;rw [nav_nil] at h;cases h;simp [upd]
 | cons a p ih =>
   intro x y h hy;obtain ⟨i,j⟩:=a;obtain ⟨es,xs,e,c,rfl,he,hc,hn⟩:=(AF ..).1 h;simp only [upd,he,hc,ih c y hn hy];have:setCellOf e j c=e:=by
    cases e with
    | agg cs=>simp only [setCellOf,AV.cells] at hc ⊢;rw [List.set_self hc]
    | _ =>
      simp only [setCellOf,AV.cells] at hc ⊢;cases j with
      | zero=>simp at hc;exact hc.symm
      | succ j=>simp at hc
   rw [this,List.set_self he]
theorem appXK_cell {e:AV}{h:List Ob}{es r st ss:Nat}{p:Path}{xs:List AV}{q:List AV→List Ob→Prop}(he:e.void=true)(hr:KC h r st p ss e es xs) :
 Rv h es (On e es r st p ss xs) q=obK h[r]? (fun o=>XG o.c p (Qd e xs) (fun c=>q xs (h.set r ⟨o.st,o.ss,c⟩))):=by
 unfold On;by_cases hx:xs = []
 ·subst hx;rw [if_pos rfl];unfold KC Br at hr;split at hr
  ·rename_i nd hn;obtain ⟨o,ho,h1,h2,hnav⟩:=Bf.1 hn;rw [hr,cellv,if_pos rfl] at hnav;simp only [ho,obK,Qd,if_true,XG];rw [YP p _ _ hnav (by intro cs h;subst h;simp [AV.void] at he)];simp only [List.set_self ho];cases e<;>first|rfl|(simp [AV.void] at he)
  ·exact hr.elim
 ·rw [if_neg hx,appXK_sl];simp only [Br,HN hr hx,Jl,Nat.zero_add,Nat.le_refl,List.drop_zero,List.take_length,true_and,KT,if_true,Qd,if_neg hx];cases h[r]? with
  | none=>rfl
  | some o=>simp only [obK,XG,if_neg hx];cases upd o.c p .gone<;>simp
theorem isLst_cell {e:AV}{es r st ss:Nat}{p:Path}{xs:List AV}(he:e.void=true):(On e es r st p ss xs).isLst=false:=by
 unfold On;split
 ·cases e<;>first|rfl|(simp [AV.void] at he)
 ·rfl
theorem isNode_cellg {e:AV}{xs:List AV}(he:e.void=true):isNode (Qd e xs)=false:=by
 unfold Qd;split
 ·cases e<;>first|rfl|(simp [AV.void] at he)
 ·rfl
theorem takeCellK_cell {e:AV}{h:List Ob}{r st ss es:Nat}{p:Path}{xs:List AV}{q:AV→List Ob→Prop}(he:e.void=true)(hr:KC h r st p ss e es xs) :
 BM h (On e es r st p ss xs) q=obK h[r]? (fun o=>XG o.c p (Qd e xs) (fun c=>q (cellv e es xs) (h.set r ⟨o.st,o.ss,c⟩))):=by
 unfold On;by_cases hx:xs = []
 ·subst hx;rw [if_pos rfl];unfold KC Br at hr;split at hr
  ·rename_i nd hn;obtain ⟨o,ho,h1,h2,hnav⟩:=Bf.1 hn;rw [hr,cellv,if_pos rfl] at hnav;simp only [ho,obK,Qd,if_true,XG];rw [YP p _ _ hnav (by intro cs h;subst h;simp [AV.void] at he)];simp only [List.set_self ho];cases e<;>first|rfl|(simp [AV.void] at he)
  ·exact hr.elim
 ·rw [if_neg hx,takeCellK_sl];simp only [Br,HN hr hx,Jl,Nat.le_refl,true_and,KT,if_true,Qd,if_neg hx,cellv,List.take_length];cases h[r]? with
  | none=>rfl
  | some o=>simp only [obK,XG,if_neg hx];cases upd o.c p .gone<;>simp [List.take_length]
end
end Go.Mw
