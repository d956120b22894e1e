/- How simp steps through code: memory. -/
import Derived.Test.YtondemeliogjmaaGreatM15
set_option linter.unusedVariables false
set_option linter.unusedSimpArgs false
namespace Go.Mw
section
variable {G:Prg}{b:Nat}{σ:St}{k:AV→St→Prop}
def Mg (h:List Ob)(r:Nat)(c:AV)(k:List Ob→Nat→Prop)(u:Tg k:=tg):Prop:=match newOb h r c with|some (h',st)=>k h' st|none=>False
def W6 (c:AV)(p:Prop)(u:Tg p:=tg):Prop:=match c with | .gone=>p|_=>False
theorem goneK_gone {p:Prop}:W6 .gone p=p:=(rfl)
theorem newK_eq {h:List Ob}{r:Nat}{c:AV}{q:List Ob→Nat→Prop}:Mg h r c q=obK h[r]? (fun o=>W6 o.c (q (h.set r ⟨o.st+1,0,c⟩) (o.st+1))):=by
 simp only [Mg,newOb,obK,W6];cases h[r]? with
 | none=>rfl
 | some o=>simp only;cases o.c<;>rfl
def Kh (cs:List AV):Prop:=cs.all AV.plain=true
theorem allPlain_nil:Kh []=True:=by simp [Kh]
theorem allPlain_cons {c:AV}{cs:List AV}:Kh (c::cs)=(c.plain=true∧Kh cs):=by simp [Kh]
theorem wpI_alc {s es:Nat}{z:AV}:wpI G (.alc s es z) b σ k=((z.cells.length=es∧0<es∧Kh z.cells)∧Mg σ.h (b+s) (.own es [z]) (fun h st=>k (.ptr (b+s) st [] 0 0 0) { σ with h })):=by
 simp only [wpI,ax,Mg,Kh];by_cases hc:z.cells.length=es∧0<es∧z.cells.all AV.plain=true
 ·rw [if_pos hc];simp only [hc,true_and];cases newOb σ.h (b+s) (.own es [z])<;>simp [BH]
 ·rw [if_neg hc];simp only [hc,false_and,BH]
def H2 (h:List Ob)(r:Nat)(p:Path)(v:AV)(bump:Bool)(k:List Ob→Prop)(u:Tg k:=tg):Prop:=match setOb h r p v bump with|some h'=>k h'|none=>False
def Xc (x:AV)(p:Path)(v:AV)(k:AV→Prop)(u:Tg k:=tg):Prop:=match upd x p v with|some c=>k c|none=>False
theorem updK_nil {x v:AV}{q:AV→Prop}:Xc x [] v q=q v:=by simp [Xc,upd]
theorem updK_cons {es:Nat}{xs:List AV}{i j:Nat}{p:Path}{v:AV}{q:AV→Prop}:Xc (.own es xs) ((i,j)::p) v q=elK xs i (fun e=>elK e.cells j (fun c=>Xc c p v (fun c'=>q (.own es (xs.set i (setCellOf e j c')))))):=by
 simp only [Xc,upd,elK];cases xs[i]? with
 | none=>rfl
 | some e =>
   simp only;cases e.cells[j]? with
   | none=>rfl
   | some c=>simp only;cases upd c p v<;>rfl
theorem setObK_eq {h:List Ob}{r:Nat}{p:Path}{v:AV}{bump:Bool}{q:List Ob→Prop}:H2 h r p v bump q=obK h[r]? (fun o=>Xc o.c p v (fun c=>q (h.set r ⟨o.st,if bump then o.ss+1 else o.ss,c⟩))):=by
 simp only [H2,setOb,obK,Xc];cases h[r]? with
 | none=>rfl
 | some o=>simp only;cases upd o.c p v<;>rfl
def Fy (h:List Ob)(n:Nat)(v:AV)(k:List AV→Prop)(u:Tg k:=tg):Prop:=match vcells h n v with|some vs=>k vs|none=>False
def Qn (h:List Ob)(v:AV):Prop:=LD h v=true
def B4 (h:List Ob)(v:AV)(k:AV→List Ob→Prop)(u:Tg k:=tg):Prop:=match takeCell h v with|some (c,h')=>k c h'|none=>False
def CK (h:List Ob)(vs:List AV)(k:List AV→List Ob→Prop)(u:Tg k:=tg):Prop:=match takeCells h vs with|some (cs,h')=>k cs h'|none=>False
def Jr (h:List Ob)(n:Nat)(v:AV)(k:AV→List Ob→Prop)(u:Tg k:=tg):Prop:=match takeVal h n v with|some (c,h')=>k c h'|none=>False
def FT (h:List Ob)(n:Nat)(vs:List AV)(k:List AV→List Ob→Prop)(u:Tg k:=tg):Prop:=match takeVals h n vs with|some (cs,h')=>k cs h'|none=>False
theorem vcellsK_agg {h:List Ob}{n:Nat}{cs:List AV}{q:List AV→Prop}:Fy h n (.agg cs) q=(cs.length=n∧q cs):=by
 simp only [Fy,vcells];by_cases hc:cs.length=n<;>simp [hc]
theorem vcellsK_one {h:List Ob}{n:Nat}{v:AV}{q:List AV→Prop}(hv:v.cells = [v]):Fy h n v q=((n=1∧Qn h v)∧q [v]):=by
 simp only [Fy,vcells,Qn];split
 ·rename_i he;split at he
  ·rename_i xs cs;simp only [AV.cells] at hv;have h2:=congrArg SizeOf.sizeOf hv;simp at h2;omega
  ·split at he
   ·rename_i hc;cases he;simp [hc]
   ·cases he
 ·rename_i he;split at he
  ·rename_i xs cs;simp only [AV.cells] at hv;have h2:=congrArg SizeOf.sizeOf hv;simp at h2;omega
  ·split at he
   ·cases he
   ·rename_i hc;simp [hc]
theorem takeCellK_plain {h:List Ob}{v:AV}{q:AV→List Ob→Prop}(hv:v.plain=true):B4 h v q=q v h:=by
 cases v<;>first|(simp [AV.plain] at hv;done)|rfl|skip
 simp only [B4,takeCell];rw [if_pos hv]
theorem takeCellK_sl {h:List Ob}{r st:Nat}{p:Path}{ss off len:Nat}{q:AV→List Ob→Prop} :
 B4 h (.sl r st p ss off len) q=Bw h r st p ss (fun nd=>H3 nd (fun es xs=>(off=0∧len≤xs.length)∧H2 h r p .gone false (fun h'=>q (.own es (xs.take len)) h'))):=by
 simp only [B4,takeCell,Bw,H3,H2];cases node h r st p ss with
 | none=>rfl
 | some nd =>
   cases nd<;>first|rfl|skip
   rename_i es xs;simp only;by_cases hc:off=0∧len≤xs.length
   ·rw [if_pos hc];simp only [hc,true_and];cases setOb h r p .gone false<;>simp
   ·rw [if_neg hc];simp only [hc,false_and]
theorem takeCellsK_nil {h:List Ob}{q:List AV→List Ob→Prop}:CK h [] q=q [] h:=(rfl)
theorem takeCellsK_cons {h:List Ob}{v:AV}{vs:List AV}{q:List AV→List Ob→Prop}:CK h (v::vs) q=B4 h v (fun c h1=>CK h1 vs (fun cs h2=>q (c::cs) h2)):=by
 simp only [CK,takeCells,B4];cases takeCell h v with
 | none=>rfl
 | some p=>simp only;cases takeCells p.2 vs<;>rfl
theorem takeValK_eq {h:List Ob}{n:Nat}{v:AV}{q:AV→List Ob→Prop}:Jr h n v q=Fy h n v (fun vs=>CK h vs (fun cs h'=>q (Rf v cs) h')):=by
 simp only [Jr,takeVal,Fy,CK];cases vcells h n v with
 | none=>rfl
 | some vs=>simp only;cases takeCells h vs<;>rfl
theorem takeValsK_nil {h:List Ob}{n:Nat}{q:List AV→List Ob→Prop}:FT h n [] q=q [] h:=(rfl)
theorem takeValsK_cons {h:List Ob}{n:Nat}{v:AV}{vs:List AV}{q:List AV→List Ob→Prop}:FT h n (v::vs) q=Jr h n v (fun c h1=>FT h1 n vs (fun cs h2=>q (c::cs) h2)):=by
 simp only [FT,takeVals,Jr];cases takeVal h n v with
 | none=>rfl
 | some p=>simp only;cases takeVals p.2 n vs<;>rfl
theorem remake_agg {cs ds:List AV}:Rf (.agg cs) ds = .agg ds:=(rfl)
theorem remake_one {v:AV}{d:AV}(hv:v.cells = [v]):Rf v [d]=d:=by
 cases v<;>first|rfl|skip
 rename_i cs;simp only [AV.cells] at hv;have h2:=congrArg SizeOf.sizeOf hv;simp at h2;omega
theorem wpI_box {s es:Nat}{x:Opd}:wpI G (.box s es x) b σ k=(0<es∧Jr σ.h es (σ.get x) (fun v h1=>Mg h1 (b+s) (.own es [v]) (fun h st=>k (.ptr (b+s) st [] 0 0 0) { σ with h }))):=by
 simp only [wpI,ax,Jr,Mg];by_cases hc:0<es
 ·rw [if_pos hc];simp only [hc,true_and];cases takeVal σ.h es (σ.get x) with
  | none=>rfl
  | some p=>simp only;cases newOb p.2 (b+s) (.own es [p.1])<;>simp [BH]
 ·rw [if_neg hc];simp only [hc,false_and,BH]
theorem wpI_bsl {s es n:Nat}{xs:List Opd}:wpI G (.bsl s es n xs) b σ k=((xs.length=n∧0<es)∧if n=0 then k .emp σ else FT σ.h es (σ.gets xs) (fun vs h1=>Mg h1 (b+s) (.own es vs) (fun h st=>k (.sl (b+s) st [] 0 0 n) { σ with h }))):=by
 simp only [wpI,ax,FT,Mg];by_cases hc:xs.length=n∧0<es
 ·rw [if_pos hc];simp only [hc,true_and];by_cases h0:n=0
  ·rw [if_pos h0,if_pos h0];simp [BH]
  ·rw [if_neg h0,if_neg h0];cases takeVals σ.h es (σ.gets xs) with
   | none=>simp [BH]
   | some p=>simp only;cases newOb p.2 (b+s) (.own es p.1)<;>simp [BH]
 ·rw [if_neg hc];simp only [hc,false_and,BH]
theorem wpI_mkm {s:Nat}:wpI G (.mkm s) b σ k=Mg σ.h (b+s) (.ownm []) (fun h st=>k (.mp (b+s) st [] 0) { σ with h }):=by
 simp only [wpI,ax,Mg];cases newOb σ.h (b+s) (.ownm [])<;>simp [BH]
def AhQ (l c:AV)(k:Int→Prop)(u:Tg k:=tg):Prop:=match l,c with | .int .i64 l,.int .i64 c=>l=c∧k l|_,_=>False
theorem mksK_int {l c:Int}{q:Int→Prop}:AhQ (.int .i64 l) (.int .i64 c) q=(l=c∧q l):=(rfl)
theorem wpI_mks {s es bytes:Nat}{z:AV}{l c:Opd}:wpI G (.mks s es bytes z l c) b σ k=AhQ (σ.get l) (σ.get c) (fun n=>(0≤n∧n≤4294967296∧bytes≤4096∧0<es) ∧
 Mg σ.h (b+s) (.own es (List.replicate n.toNat z)) (fun h st=>k (.sl (b+s) st [] 0 0 n.toNat) { σ with h })):=by
 simp only [wpI,ax,AhQ,Mg];generalize σ.get l=u;generalize σ.get c=v;cases u<;>first|rfl|skip
 rename_i κ n;cases κ<;>first|rfl|skip
 cases v<;>first|rfl|skip
 rename_i κ' n';cases κ'<;>first|rfl|skip
 simp only;by_cases hc:n=n'∧0≤n∧n≤4294967296∧bytes≤4096∧0<es
 ·rw [if_pos hc];obtain ⟨rfl,h1,h2,h3,h4⟩:=hc;cases newOb σ.h (b+s) (.own es (List.replicate n.toNat z))<;>simp [BH,h1,h2,h3,h4]
 ·rw [if_neg hc];by_cases h1:n=n'
  ·simp only [h1,true_and] at hc ⊢;simp only [hc,false_and,BH]
  ·simp only [h1,false_and,BH]
def Sv (r st:Nat)(p:Path)(ss:Nat)(c:AV)(k:AV→Prop)(u:Tg k:=tg):Prop:=match outv r st p ss c with|some v=>k v|none=>False
theorem outvK_own {r st:Nat}{p:Path}{ss es:Nat}{xs:List AV}{q:AV→Prop}:Sv r st p ss (.own es xs) q=q (.sl r st p ss 0 xs.length):=(rfl)
theorem outvK_ownm {r st:Nat}{p:Path}{ss:Nat}{es:List (AV×AV)}{q:AV→Prop}:Sv r st p ss (.ownm es) q=q (.mp r st p ss):=(rfl)
theorem outvK_plain {r st:Nat}{p:Path}{ss:Nat}{c:AV}{q:AV→Prop}(hc:c.plain=true):Sv r st p ss c q=q c:=by
 cases c<;>first|rfl|(simp [AV.plain] at hc)
def Ss (r st:Nat)(p:Path)(ss i j:Nat)(cs:List AV)(k:List AV→Prop)(u:Tg k:=tg):Prop:=match outL r st p ss i j cs with|some vs=>k vs|none=>False
theorem outLK_nil {r st:Nat}{p:Path}{ss i j:Nat}{q:List AV→Prop}:Ss r st p ss i j [] q=q []:=(rfl)
theorem outLK_cons {r st:Nat}{p:Path}{ss i j:Nat}{c:AV}{cs:List AV}{q:List AV→Prop}:Ss r st p ss i j (c::cs) q=Sv r st (p++[(i,j)]) ss c (fun v=>Ss r st p ss i (j+1) cs (fun vs=>q (v::vs))):=by
 simp only [Ss,outL,Sv];cases outv r st (p++[(i,j)]) ss c with
 | none=>rfl
 | some v=>simp only;cases outL r st p ss i (j+1) cs<;>rfl
def PR (cs:List AV)(k:AV→Prop)(u:Tg k:=tg):Prop:=match cs with|c::_=>k c | []=>False
theorem headK_cons {c:AV}{cs:List AV}{q:AV→Prop}:PR (c::cs) q=q c:=(rfl)
def ldK (h:List Ob)(ag:Bool)(n:Nat)(a:AV)(k:AV→Prop)(u:Tg k:=tg):Prop :=
 match a with
 | .pfro cs=>n≤cs.length∧if ag then k (.agg (cs.take n)) else PR cs k
 | .ptr r st p ss i j=>Bw h r st p ss (fun nd=>H3 nd (fun _ xs=>elK xs i (fun e=>j+n≤e.cells.length∧obK h[r]? (fun o=>Ss r st p o.ss i j ((e.cells.drop j).take n) (fun cs=>if ag then k (.agg cs) else cs.length=1∧PR cs k)))))
 | _=>False
theorem wpI_ld {ag:Bool}{n:Nat}{a:Opd}:wpI G (.ld ag n a) b σ k=ldK σ.h ag n (σ.get a) (fun v=>k v σ):=by
 simp only [wpI,ax,ldK];cases σ.get a<;>first|rfl|skip
 ·rename_i cs;simp only;by_cases hc:n≤cs.length
  ·rw [if_pos hc];cases ag
   ·cases cs with
    | nil=>simp [BH,PR]
    | cons c cs=>simp only [hc,true_and,Bool.false_eq_true,if_false,PR];rfl
   ·simp [BH,hc]
  ·rw [if_neg hc];simp only [hc,false_and,BH]
 ·rename_i r st p ss i j;simp only [Bw,H3,elK,obK,Ss,PR];cases hn:node σ.h r st p ss with
  | none=>rfl
  | some nd =>
    obtain ⟨o,ho,_⟩:=BG.1 hn;cases nd with
    | own es xs =>
      simp only [ho];cases xs[i]? with
      | none=>rfl
      | some e =>
        simp only;by_cases hc:j+n≤e.cells.length
        ·rw [if_pos hc];simp only [hc,true_and];cases outL r st p o.ss i j ((e.cells.drop j).take n) with
         | none=>rfl
         | some cs =>
           simp only;cases ag
           ·simp only [Bool.false_eq_true,if_false];cases cs with
            | nil=>simp [BH]
            | cons c cs=>cases cs<;>simp [BH]
           ·rfl
        ·rw [if_neg hc];simp only [hc,false_and,BH]
    | _=>rfl
theorem ldK_pfro {h:List Ob}{ag:Bool}{n:Nat}{cs:List AV}{q:AV→Prop}:ldK h ag n (.pfro cs) q=(n≤cs.length∧if ag then q (.agg (cs.take n)) else PR cs q):=(rfl)
theorem ldK_ptr {h:List Ob}{ag:Bool}{n r st:Nat}{p:Path}{ss i j:Nat}{q:AV→Prop}:ldK h ag n (.ptr r st p ss i j) q =
 Bw h r st p ss (fun nd=>H3 nd (fun _ xs=>elK xs i (fun e=>j+n≤e.cells.length∧obK h[r]? (fun o=>Ss r st p o.ss i j ((e.cells.drop j).take n) (fun cs=>if ag then q (.agg cs) else cs.length=1∧PR cs q))))):=(rfl)
def Ah8 (h:List Ob)(n:Nat)(a x:AV)(k:List Ob→Prop)(u:Tg k:=tg):Prop :=
 match a with
 | .ptr r st p ss i j=>Bw h r st p ss (fun nd=>H3 nd (fun es0 _=>Fy h n x (fun vs=>CK h vs (fun cs h1=>obK h1[r]? (fun o=>AaC o.c p (fun nd1=>H3 nd1 (fun es xs=>elK xs i (fun e =>
    (es0=es∧j+n≤e.cells.length)∧H2 h1 r p (.own es (xs.set i (setCells e j cs))) (cs.any isNode||((e.cells.drop j).take n).any isNode) k))))))))
 | _=>False
theorem wpI_sto {n:Nat}{a x:Opd}:wpI G (.sto n a x) b σ k=Ah8 σ.h n (σ.get a) (σ.get x) (fun h=>k .undef { σ with h }):=by
 simp only [wpI,ax,Ah8];cases σ.get a<;>first|rfl|skip
 rename_i r st p ss i j;simp only [Bw,H3,Fy,CK,obK,AaC,elK,H2];cases node σ.h r st p ss with
 | none=>rfl
 | some nd =>
   cases nd<;>first|rfl|skip
   rename_i es0 xs0;simp only;cases vcells σ.h n (σ.get x) with
   | none=>rfl
   | some vs =>
     simp only;cases takeCells σ.h vs with
     | none=>rfl
     | some p1 =>
       obtain ⟨cs,h1⟩:=p1;simp only [nodeAt];cases h1[r]? with
       | none=>rfl
       | some o =>
         simp only;cases nav o.c p with
         | none=>rfl
         | some nd1 =>
           cases nd1<;>first|rfl|skip
           rename_i es xs;simp only;cases xs[i]? with
           | none=>rfl
           | some e =>
             simp only;by_cases hc:es0=es∧j+n≤e.cells.length
             ·rw [if_pos hc];simp only [hc,true_and];cases setOb h1 r p (.own es (xs.set i (setCells e j cs))) (cs.any isNode||((e.cells.drop j).take n).any isNode)<;>simp [BH]
             ·rw [if_neg hc];simp only [hc,false_and,BH]
theorem stoK_ptr {h:List Ob}{n r st:Nat}{p:Path}{ss i j:Nat}{x:AV}{q:List Ob→Prop}:Ah8 h n (.ptr r st p ss i j) x q =
 Bw h r st p ss (fun nd=>H3 nd (fun es0 _=>Fy h n x (fun vs=>CK h vs (fun cs h1=>obK h1[r]? (fun o=>AaC o.c p (fun nd1=>H3 nd1 (fun es xs=>elK xs i (fun e =>
 (es0=es∧j+n≤e.cells.length)∧H2 h1 r p (.own es (xs.set i (setCells e j cs))) (cs.any isNode||((e.cells.drop j).take n).any isNode) q)))))))):=(rfl)
def Ahw (h:List Ob)(off:Nat)(x:AV)(k:AV→Prop)(u:Tg k:=tg):Prop :=
 match x with
 | .pfro cs=>off≤cs.length∧k (.pfro (cs.drop off))
 | .ptr r st p ss i j=>Bw h r st p ss (fun nd=>H3 nd (fun _ _=>k (.ptr r st p ss i (j+off))))
 | _=>False
theorem wpI_fad {off:Nat}{x:Opd}:wpI G (.fad off x) b σ k=Ahw σ.h off (σ.get x) (fun v=>k v σ):=by
 simp only [wpI,ax,Ahw];cases σ.get x<;>first|rfl|skip
 ·rename_i cs;simp only;by_cases hc:off≤cs.length
  ·rw [if_pos hc];simp [BH,hc]
  ·rw [if_neg hc];simp [BH,hc]
 ·rename_i r st p ss i j;simp only [Bw,H3];cases node σ.h r st p ss with
  | none=>rfl
  | some nd=>cases nd<;>rfl
theorem fadK_pfro {h:List Ob}{off:Nat}{cs:List AV}{q:AV→Prop}:Ahw h off (.pfro cs) q=(off≤cs.length∧q (.pfro (cs.drop off))):=(rfl)
theorem fadK_ptr {h:List Ob}{off r st:Nat}{p:Path}{ss i j:Nat}{q:AV→Prop}:Ahw h off (.ptr r st p ss i j) q=Bw h r st p ss (fun nd=>H3 nd (fun _ _=>q (.ptr r st p ss i (j+off)))):=(rfl)
def Ajl (ag:Bool)(off n:Nat)(x:AV)(k:AV→Prop)(u:Tg k:=tg):Prop :=
 match x with
 | .agg cs=>off+n≤cs.length∧if ag then k (.agg ((cs.drop off).take n)) else PR (cs.drop off) k
 | _=>False
def Aif (h:List Ob)(len es:Nat)(x i:AV)(k:AV→Prop)(u:Tg k:=tg):Prop :=
 match x,i with
 | .pfro cs,.int _ i=>(0≤i∧i<(len:Int)∧i.toNat*es≤cs.length)∧k (.pfro (cs.drop (i.toNat*es)))
 | .ptr r st p ss m j,.int _ i=>(0≤i∧i<(len:Int))∧Bw h r st p ss (fun nd=>H3 nd (fun _ _=>k (.ptr r st p ss m (j+i.toNat*es))))
 | _,_=>False
theorem wpI_iaa {len es:Nat}{x i:Opd}:wpI G (.iaa len es x i) b σ k=Aif σ.h len es (σ.get x) (σ.get i) (fun v=>k v σ):=by
 simp only [wpI,ax,Aif];cases σ.get x<;>cases σ.get i<;>first|rfl|skip
 ·rename_i cs κ n;simp only;by_cases hc:0≤n∧n<(len:Int)∧n.toNat*es≤cs.length
  ·rw [if_pos hc];simp [BH,hc]
  ·rw [if_neg hc];simp only [hc,false_and,BH]
 ·rename_i r st p ss m j κ n;simp only [Bw,H3];by_cases hc:0≤n∧n<(len:Int)
  ·rw [if_pos hc];simp only [hc,true_and];cases node σ.h r st p ss with
   | none=>simp [BH]
   | some nd=>cases nd<;>simp [BH]
  ·rw [if_neg hc];simp only [hc,false_and,BH]
theorem iaaK_ptr {h:List Ob}{len es r st:Nat}{p:Path}{ss m j:Nat}{κ:IntKind}{n:Int}{q:AV→Prop}:Aif h len es (.ptr r st p ss m j) (.int κ n) q=((0≤n∧n<(len:Int))∧Bw h r st p ss (fun nd=>H3 nd (fun _ _=>q (.ptr r st p ss m (j+n.toNat*es))))):=(rfl)
def Ajc (ag:Bool)(len es:Nat)(x i:AV)(k:AV→Prop)(u:Tg k:=tg):Prop :=
 match x,i with
 | .agg cs,.int _ i=>(0≤i∧i<(len:Int)∧i.toNat*es+es≤cs.length)∧if ag then k (.agg ((cs.drop (i.toNat*es)).take es)) else (match cs[i.toNat*es]? with|some c=>k c|none=>False)
 | _,_=>False
def AfD (σ:St)(cs:List AV)(ps:List (Nat×Nat×Opd))(k:List AV→Prop)(u:Tg k:=tg):Prop:=match bldAV σ cs ps with|some cs=>k cs|none=>False
theorem bldK_nil {cs:List AV}{q:List AV→Prop}:AfD σ cs [] q=q cs:=(rfl)
theorem bldK_cons {cs:List AV}{off n:Nat}{x:Opd}{ps:List (Nat×Nat×Opd)}{q:List AV→Prop} :
 AfD σ cs ((off,n,x)::ps) q=Fy σ.h n (σ.get x) (fun vs=>off+n≤cs.length∧AfD σ (cs.take off++vs++cs.drop (off+n)) ps q):=by
 simp only [AfD,bldAV,Fy];cases vcells σ.h n (σ.get x) with
 | none=>rfl
 | some vs=>simp only;by_cases hc:off+n≤cs.length<;>simp [hc]
theorem wpI_bld {z:List AV}{ps:List (Nat×Nat×Opd)}:wpI G (.bld z ps) b σ k=AfD σ z ps (fun cs=>k (.agg cs) σ):=by
 simp only [wpI,ax,AfD];cases bldAV σ z ps<;>rfl
def Ajj (mx:Bool)(x y:AV)(k:AV→Prop)(u:Tg k:=tg):Prop:=match x,y with | .int κ a,.int κ' c=>κ=κ'∧k (.int κ (if mx then (if c>a then c else a) else (if c<a then c else a)))|_,_=>False
def Ajf (x:AV)(k:AV→Prop)(u:Tg k:=tg):Prop:=match x with | .lst xs=>k (.pfro [.lst xs])|_=>False
def Abv (h:List Ob)(neg:Bool)(x y:AV)(k:AV→Prop)(u:Tg k:=tg):Prop:=match y with | .nils=>(match nilAV h x with|some c=>k (.bool (c != neg))|none=>False)|_=>False
theorem wpI_nilc {neg:Bool}{x y:Opd}:wpI G (.nilc neg x y) b σ k=Abv σ.h neg (σ.get x) (σ.get y) (fun v=>k v σ):=by
 simp only [wpI,ax,Abv];cases σ.get y<;>first|rfl|skip
 simp only;cases nilAV σ.h (σ.get x)<;>simp [BH]
theorem nilcK_lst {h:List Ob}{neg:Bool}{x:AV}{xs:List AV}{q:AV→Prop}:Abv h neg (.lst (x::xs)) .nils q=q (.bool (false != neg)):=(rfl)
end
end Go.Mw
namespace Go.Mw
def Le (e:AV)(es r st:Nat)(xs:List AV):AV:=if xs = [] then e else .sl r st [] 0 0 xs.length
def MW (es:Nat)(xs:List AV):AV:=if xs = [] then .gone else .own es xs
def cellv (e:AV)(es:Nat)(xs:List AV):AV:=if xs = [] then e else .own es xs
def Qj (e:AV)(xs:List AV):AV:=if xs = [] then e else .gone
def OA (e:AV)(es r st:Nat)(p:Path)(ss:Nat)(xs:List AV):AV:=if xs = [] then e else .sl r st p ss 0 xs.length
def sta (xs:List AV)(st:Nat):Nat:=if xs = [] then st else st+1
def ssa (xs:List AV)(ss:Nat):Nat:=if xs = [] then ss else 0
section
variable {G:Prg}{b:Nat}{σ:St}{k:AV→St→Prop}
def HX (xs:List AV):Bool:=xs.all fun e:AV=>e.cells.all AV.plain
def yob (ys:List AV)(o:Ob):Ob:=if HX ys=true then o else ⟨o.st,o.ss,.gone⟩
theorem yob_st {ys:List AV}{o:Ob}:(yob ys o).st=o.st:=by unfold yob;split<;>rfl
def K6 (es:Nat)(ys:List AV):Prop:=(ys.head?.all fun e:AV=>e.cells.length==es)=true
theorem headOk_map {α:Type}{l:List α}{f:α→AV}{es:Nat}(h:∀x,(f x).cells.length=es):K6 es (l.map f)=True:=by
 cases l<;>simp [K6,h]
theorem headOk_nil {es:Nat}:K6 es []=True:=by simp [K6]
theorem headOk_cons {es:Nat}{y:AV}{ys:List AV}:K6 es (y::ys)=(y.cells.length=es):=by simp [K6]
def appYK (h:List Ob)(es:Nat)(y:AV)(k:List AV→List Ob→Prop)(u:Tg k:=tg):Prop:=match appY h es y with|some (ys,h1)=>k ys h1|none=>False
def QF (h:List Ob)(es:Nat)(x:AV)(k:List AV→List Ob→Prop)(u:Tg k:=tg):Prop:=match appX h es x with|some (xs,h1)=>k xs h1|none=>False
def WO (x:AV)(xs ys:List AV)(es bytes:Nat)(h:List Ob)(r:Nat)(k:AV→List Ob→Prop)(u:Tg k:=tg):Prop :=
 if xs.isEmpty=true∧ys.isEmpty=true then (match x with | .nils=>k .nils h | .emp=>k .emp h | .lst _=>k (.lst []) h|_=>False)
 else (xs.length+ys.length≤4294967296*(32768 / bytes)∧0<bytes∧bytes≤4096∧0<es∧x.isLst=false)∧Mg h r (.own es (xs++ys)) (fun h st=>k (.sl r st [] 0 0 (xs.length+ys.length)) h)
theorem wpI_app {s es bytes:Nat}{x y:Opd}:wpI G (.app s es bytes x y) b σ k=appYK σ.h es (σ.get y) (fun ys h1=>QF h1 es (σ.get x) (fun xs h2=>WO (σ.get x) xs ys es bytes h2 (b+s) (fun v h=>k v { σ with h }))):=by
 simp only [wpI,ax,appYK,QF,WO,Mg];cases appY σ.h es (σ.get y) with
 | none=>rfl
 | some p =>
   simp only;cases appX p.2 es (σ.get x) with
   | none=>rfl
   | some q =>
     simp only;by_cases h0:q.1.isEmpty=true∧p.1.isEmpty=true
     ·rw [if_pos h0,if_pos h0];cases σ.get x<;>rfl
     ·rw [if_neg h0,if_neg h0];by_cases hc:q.1.length+p.1.length≤4294967296*(32768 / bytes)∧0<bytes∧bytes≤4096∧0<es∧(σ.get x).isLst=false
      ·rw [if_pos hc];cases newOb q.2 (b+s) (.own es (q.1++p.1))<;>simp [BH,hc]
      ·rw [if_neg hc];simp only [hc,false_and,BH]
theorem appYK_nils {h:List Ob}{es:Nat}{q:List AV→List Ob→Prop}:appYK h es .nils q=q [] h:=(rfl)
theorem appYK_lst {h:List Ob}{es:Nat}{ys:List AV}{q:List AV→List Ob→Prop}:appYK h es (.lst ys) q=(K6 es ys∧q ys h):=by
 simp only [appYK,appY,K6];by_cases hc:(ys.head?.all fun e:AV=>e.cells.length==es)=true
 ·rw [if_pos hc];simp only [hc,true_and]
 ·rw [if_neg hc];simp [hc]
theorem List.set_self {α:Type}{l:List α}{i:Nat}{x:α}(h:l[i]? = some x):l.set i x=l:=by
 apply List.ext_getElem?;intro j;rw [List.getElem?_set];by_cases hj:i=j
 ·subst hj;rw [if_pos rfl,h];have:=List.lt_of_some h;simp [this]
 ·rw [if_neg hj]
theorem appYK_sl {h:List Ob}{es r st ss off len:Nat}{p:Path}{q:List AV→List Ob→Prop}:appYK h es (.sl r st p ss off len) q =
 Bw h r st p ss (fun nd=>H3 nd (fun es' ys=>es'=es∧if p = []∧off=0∧len=ys.length then obK h[r]? (fun o=>q ys (h.set r (yob ys o))) else appYK h es (.sl r st p ss off len) q)):=by
 conv=>lhs;unfold appYK appY
 simp only [Bw,H3];cases hn:node h r st p ss with
 | none=>rfl
 | some nd =>
   obtain ⟨o,ho,h1,h2,hnav⟩:=BG.1 hn;cases nd with
   | own es' ys =>
     simp only;by_cases hes:es'=es
     ·simp only [hes,true_and];by_cases hc:p = []∧off=0∧len=ys.length
      ·rw [if_pos hc];obtain ⟨rfl,rfl,rfl⟩:=hc;simp only [ho,obK,Nat.zero_add,Nat.le_refl,List.drop_zero,List.take_length,true_and,and_self,if_true];by_cases hp:(ys.all fun e:AV=>e.cells.all AV.plain)=true
       ·rw [if_pos hp];simp only [yob,HX,hp,if_true];rw [List.set_self ho]
       ·rw [if_neg hp];simp only [yob,HX,hp,if_false];simp [setOb,ho,upd]
      ·rw [if_neg hc];unfold appYK appY;simp only [hn,hes,true_and]
     ·simp only [hes,false_and,if_false]
   | _=>rfl
theorem appXK_nils {h:List Ob}{es:Nat}{q:List AV→List Ob→Prop}:QF h es .nils q=q [] h:=(rfl)
theorem appXK_emp {h:List Ob}{es:Nat}{q:List AV→List Ob→Prop}:QF h es .emp q=q [] h:=(rfl)
theorem appXK_sl {h:List Ob}{es r st ss off len:Nat}{p:Path}{q:List AV→List Ob→Prop}:QF h es (.sl r st p ss off len) q =
 Bw h r st p ss (fun nd=>H3 nd (fun es' xs=>(es'=es∧off+len≤xs.length)∧H2 h r p .gone false (fun h'=>q ((xs.drop off).take len) h'))):=by
 simp only [QF,appX,Bw,H3,H2];cases node h r st p ss with
 | none=>rfl
 | some nd =>
   cases nd with
   | own es' xs =>
     simp only;by_cases hc:es'=es∧off+len≤xs.length
     ·rw [if_pos hc];simp only [hc,true_and];cases setOb h r p .gone false<;>simp
     ·rw [if_neg hc];simp only [hc,false_and]
   | _=>rfl
theorem appZ_cons {x:AV}{xs:List AV}{y:AV}{ys:List AV}{es bytes:Nat}{h:List Ob}{r:Nat}{q:AV→List Ob→Prop} :
 WO x xs (y::ys) es bytes h r q=((xs.length+(ys.length+1)≤4294967296*(32768 / bytes)∧0<bytes∧bytes≤4096∧0<es∧x.isLst=false)∧Mg h r (.own es (xs++y::ys)) (fun h st=>q (.sl r st [] 0 0 (xs.length+(ys.length+1))) h)):=by
 simp [WO]
def TW (o:Option Ob):Prop:=match o with|some ⟨_,_,.gone⟩=>True|_=>False
def stOf (o:Option Ob):Nat:=match o with|some o=>o.st|none=>0
def Ado (o:Option Ob):Nat:=match o with|some o=>o.ss|none=>0
theorem freeAt_gone {st ss:Nat}:TW (some ⟨st,ss,.gone⟩)=True:=(rfl)
theorem stOf_some {o:Ob}:stOf (some o)=o.st:=(rfl)
theorem ssOf_some {o:Ob}:Ado (some o)=o.ss:=(rfl)
theorem O5 {o:Option Ob}(h:TW o):o=some ⟨stOf o,Ado o,.gone⟩:=by
 unfold TW at h;split at h
 ·rfl
 ·exact h.elim
theorem appZ_nils {ys:List AV}{es bytes:Nat}{h:List Ob}{r:Nat}{q:AV→List Ob→Prop}(hg:TW h[r]?)(h1:0<bytes)(h2:bytes≤4096)(h3:0<es) :
 WO .nils [] ys es bytes h r q=(ys.length≤4294967296*(32768 / bytes)∧q (Le .nils es r (sta ys (stOf h[r]?)) ys) (h.set r ⟨sta ys (stOf h[r]?),ssa ys (Ado h[r]?),MW es ys⟩)):=by
 have hg':=O5 hg;cases ys with
 | nil=>simp [WO,Le,MW,sta,ssa];rw [List.set_self hg']
 | cons y ys =>
   simp only [appZ_cons,newK_eq];rw [hg'];simp [obK,W6,Le,MW,sta,ssa,h1,h2,h3,AV.isLst,stOf]
theorem appZ_emp {ys:List AV}{es bytes:Nat}{h:List Ob}{r:Nat}{q:AV→List Ob→Prop}(hg:TW h[r]?)(h1:0<bytes)(h2:bytes≤4096)(h3:0<es) :
 WO .emp [] ys es bytes h r q=(ys.length≤4294967296*(32768 / bytes)∧q (Le .emp es r (sta ys (stOf h[r]?)) ys) (h.set r ⟨sta ys (stOf h[r]?),ssa ys (Ado h[r]?),MW es ys⟩)):=by
 have hg':=O5 hg;cases ys with
 | nil=>simp [WO,Le,MW,sta,ssa];rw [List.set_self hg']
 | cons y ys =>
   simp only [appZ_cons,newK_eq];rw [hg'];simp [obK,W6,Le,MW,sta,ssa,h1,h2,h3,AV.isLst,stOf]
def S4 (o:Option Ob)(st es:Nat)(xs:List AV):Prop:=match o with|some o=>o.st=st∧o.c=MW es xs|none=>False
theorem isRow_some {o:Ob}{st es:Nat}{xs:List AV}:S4 (some o) st es xs=(o.st=st∧o.c=MW es xs):=(rfl)
theorem Lf {h:List Ob}{r st es:Nat}{xs:List AV}(hr:S4 h[r]? st es xs)(hx:xs≠[]){ss:Nat}:node h r st [] ss=some (.own es xs):=by
 unfold S4 at hr;split at hr
 ·rename_i o ho;refine BG.2 ⟨o,ho,hr.1,.inl rfl,?_⟩;rw [hr.2,MW,if_neg hx,nav]
 ·exact hr.elim
theorem appXK_row {e:AV}{h:List Ob}{es r st:Nat}{xs:List AV}{q:List AV→List Ob→Prop}(he:e.void=true)(hr:S4 h[r]? st es xs) :
 QF h es (Le e es r st xs) q=q xs (h.set r ⟨st,Ado h[r]?,.gone⟩):=by
 have hr':=hr;unfold S4 at hr';split at hr'
 ·rename_i o ho;unfold Le;by_cases hx:xs = []
  ·subst hx;rw [if_pos rfl];rw [ho];have:(⟨st,Ado (some o),.gone⟩:Ob)=o:=by
    obtain ⟨a,b,c⟩:=o;obtain ⟨rfl,e2⟩:=hr';simp only [MW,if_true] at e2;subst e2;rfl
   rw [this,List.set_self ho];cases e<;>first|rfl|(simp [AV.void] at he)
  ·rw [if_neg hx,appXK_sl];simp only [Bw,Lf hr hx,H3,Nat.zero_add,Nat.le_refl,List.drop_zero,List.take_length,true_and,setObK_eq,ho,obK,updK_nil,if_true];simp [hx,Ado,hr'.1]
 ·exact hr'.elim
theorem isLst_row {e:AV}{es r st:Nat}{xs:List AV}(he:e.void=true):(Le e es r st xs).isLst=false:=by
 unfold Le;split
 ·cases e<;>first|rfl|(simp [AV.void] at he)
 ·rfl
theorem takeCellK_row {e:AV}{h:List Ob}{r st es:Nat}{xs:List AV}{q:AV→List Ob→Prop}(he:e.void=true)(hr:S4 h[r]? st es xs) :
 B4 h (Le e es r st xs) q=q (cellv e es xs) (h.set r ⟨st,Ado h[r]?,.gone⟩):=by
 have hr':=hr;unfold S4 at hr';split at hr'
 ·rename_i o ho;unfold Le cellv;by_cases hx:xs = []
  ·subst hx;rw [if_pos rfl,if_pos rfl];rw [ho];have:(⟨st,Ado (some o),.gone⟩:Ob)=o:=by
    obtain ⟨a,b,c⟩:=o;obtain ⟨rfl,e2⟩:=hr';simp only [MW,if_true] at e2;subst e2;rfl
   rw [this,List.set_self ho];cases e<;>first|rfl|(simp [AV.void] at he)
  ·rw [if_neg hx,if_neg hx,takeCellK_sl];simp only [Bw,Lf hr hx,H3,Nat.le_refl,true_and,setObK_eq,ho,obK,updK_nil,if_true,List.take_length];simp [hx,Ado,hr'.1]
 ·exact hr'.elim
theorem outvK_cell {e:AV}{r st:Nat}{p:Path}{ss es:Nat}{xs:List AV}{q:AV→Prop}(he:e.void=true):Sv r st p ss (cellv e es xs) q=q (OA e es r st p ss xs):=by
 unfold cellv OA;by_cases hx:xs = []
 ·rw [if_pos hx,if_pos hx];cases e<;>first|rfl|(simp [AV.void] at he)
 ·rw [if_neg hx,if_neg hx];rfl
def LS (h:List Ob)(r st:Nat)(p:Path)(ss:Nat)(e:AV)(es:Nat)(xs:List AV):Prop:=Bw h r st p ss (fun nd=>nd=cellv e es xs)
theorem Jh {h:List Ob}{r st ss es:Nat}{p:Path}{e:AV}{xs:List AV}(hr:LS h r st p ss e es xs)(hx:xs≠[]):node h r st p ss=some (.own es xs):=by
 unfold LS Bw at hr;split at hr
 ·rename_i nd hn;rw [hn,hr,cellv,if_neg hx]
 ·exact hr.elim
theorem lenlK_cell {e:AV}{h:List Ob}{es r st ss:Nat}{p:Path}{xs:List AV}{q:AV→Prop}(he:e.void=true)(hr:LS h r st p ss e es xs):Qy h (OA e es r st p ss xs) q=q (.int .i64 xs.length):=by
 unfold OA;by_cases hx:xs = []
 ·subst hx;rw [if_pos rfl];cases e<;>first|rfl|(simp [AV.void] at he)
 ·rw [if_neg hx,lenlK_sl];simp only [Bw,Jh hr hx,H3]
theorem XX:∀(p:Path) (x y:AV),nav x p=some y→(∀cs,y≠.agg cs)→upd x p y=some x:=by
 intro p;induction p with
 | nil=>intro x y h _;rw [nav_nil] at h;cases h;simp [upd]
 | cons a p ih =>
   intro x y h hy;obtain ⟨i,j⟩:=a;obtain ⟨es,xs,e,c,rfl,he,hc,hn⟩:=(AO ..).1 h;simp only [upd,he,hc,ih c y hn hy];have:setCellOf e j c=e:=by
    cases e with
    | agg cs=>simp only [setCellOf,AV.cells] at hc ⊢;rw [List.set_self hc]
    | _ =>
      simp only [setCellOf,AV.cells] at hc ⊢;cases j with
      | zero=>simp at hc;exact hc.symm
      | succ j=>simp at hc
   rw [this,List.set_self he]
theorem appXK_cell {e:AV}{h:List Ob}{es r st ss:Nat}{p:Path}{xs:List AV}{q:List AV→List Ob→Prop}(he:e.void=true)(hr:LS h r st p ss e es xs) :
 QF h es (OA e es r st p ss xs) q=obK h[r]? (fun o=>Xc o.c p (Qj e xs) (fun c=>q xs (h.set r ⟨o.st,o.ss,c⟩))):=by
 unfold OA;by_cases hx:xs = []
 ·subst hx;rw [if_pos rfl];unfold LS Bw at hr;split at hr
  ·rename_i nd hn;obtain ⟨o,ho,h1,h2,hnav⟩:=BG.1 hn;rw [hr,cellv,if_pos rfl] at hnav;simp only [ho,obK,Qj,if_true,Xc];rw [XX p _ _ hnav (by intro cs h;subst h;simp [AV.void] at he)];simp only [List.set_self ho];cases e<;>first|rfl|(simp [AV.void] at he)
  ·exact hr.elim
 ·rw [if_neg hx,appXK_sl];simp only [Bw,Jh hr hx,H3,Nat.zero_add,Nat.le_refl,List.drop_zero,List.take_length,true_and,setObK_eq,if_true,Qj,if_neg hx];cases h[r]? with
  | none=>rfl
  | some o=>simp only [obK,Xc,if_neg hx];cases upd o.c p .gone<;>simp
theorem isLst_cell {e:AV}{es r st ss:Nat}{p:Path}{xs:List AV}(he:e.void=true):(OA e es r st p ss xs).isLst=false:=by
 unfold OA;split
 ·cases e<;>first|rfl|(simp [AV.void] at he)
 ·rfl
theorem isNode_cellg {e:AV}{xs:List AV}(he:e.void=true):isNode (Qj e xs)=false:=by
 unfold Qj;split
 ·cases e<;>first|rfl|(simp [AV.void] at he)
 ·rfl
theorem takeCellK_cell {e:AV}{h:List Ob}{r st ss es:Nat}{p:Path}{xs:List AV}{q:AV→List Ob→Prop}(he:e.void=true)(hr:LS h r st p ss e es xs) :
 B4 h (OA e es r st p ss xs) q=obK h[r]? (fun o=>Xc o.c p (Qj e xs) (fun c=>q (cellv e es xs) (h.set r ⟨o.st,o.ss,c⟩))):=by
 unfold OA;by_cases hx:xs = []
 ·subst hx;rw [if_pos rfl];unfold LS Bw at hr;split at hr
  ·rename_i nd hn;obtain ⟨o,ho,h1,h2,hnav⟩:=BG.1 hn;rw [hr,cellv,if_pos rfl] at hnav;simp only [ho,obK,Qj,if_true,Xc];rw [XX p _ _ hnav (by intro cs h;subst h;simp [AV.void] at he)];simp only [List.set_self ho];cases e<;>first|rfl|(simp [AV.void] at he)
  ·exact hr.elim
 ·rw [if_neg hx,takeCellK_sl];simp only [Bw,Jh hr hx,H3,Nat.le_refl,true_and,setObK_eq,if_true,Qj,if_neg hx,cellv,List.take_length];cases h[r]? with
  | none=>rfl
  | some o=>simp only [obK,Xc,if_neg hx];cases upd o.c p .gone<;>simp [List.take_length]
end
end Go.Mw
namespace Go.Mw
def RP (x:Option AV)(w:Bool)(A B C:Prop)(u:Tg (A,B,C):=tg):Prop :=
 match x with
 | some (.bool v)=>(v=w→A)∧(v = !w→B)
 | some (.tup [])=>C
 | _=>False
theorem guardS_tup {w:Bool}{A B C:Prop}:RP (some (.tup [])) w A B C=C:=(rfl)
def Ju (v w:Bool)(A B:Prop)(u:Tg (A,B):=tg):Prop:=(v=w→A)∧(v = !w→B)
theorem guardS_T {v w:Bool}{A B C:Prop}:RP (some (.bool v)) w A B C=Ju v w A B:=(rfl)
theorem gA {A B:Prop}:Ju true true A B=A:=by simp [Ju]
theorem gB {A B:Prop}:Ju true false A B=B:=by simp [Ju]
theorem gC {A B:Prop}:Ju false true A B=B:=by simp [Ju]
theorem gD {A B:Prop}:Ju false false A B=A:=by simp [Ju]
theorem guardT_bool {v w:Bool}{A B:Prop}:Ju v w A B=((v=w→A)∧(v = !w→B)):=(rfl)
def Vs (v:Bool)(A B:Prop)(u:Tg (A,B):=tg):Prop:=(v=true→A)∧(v=false→B)
theorem condK_T {v:Bool}{A B:Prop}:Adg (.bool v) A B=Vs v A B:=(rfl)
theorem cA {A B:Prop}:Vs true A B=A:=by simp [Vs]
theorem cB {A B:Prop}:Vs false A B=B:=by simp [Vs]
theorem Aa:(∀A B:Prop,Ju true true A B=A)∧(∀A B:Prop,Ju true false A B=B)∧(∀A B:Prop,Ju false true A B=B)∧(∀A B:Prop,Ju false false A B=A)∧(∀A B:Prop,Vs true A B=A)∧∀A B:Prop,Vs false A B=B:=⟨fun _ _=>gA,fun _ _=>gB,fun _ _=>gC,fun _ _=>gD,fun _ _=>cA,fun _ _=>cB⟩
theorem condT_bool {v:Bool}{A B:Prop}:Vs v A B=((v=true→A)∧(v=false→B)):=(rfl)
theorem wpO_consS {G:Prg}{d:Option Nat}{i:Ins}{t:Nat}{want:Bool}{os:List Rop}{b:Nat}{T:List AV}{h:List Ob}{lp:List Lp}{K:St→Prop} :
 WpO G (⟨d,i,some (t,want)⟩::os) b ⟨T,h,lp⟩ K=RP T[t]? want (WpO G (⟨d,i,none⟩::os) b ⟨T.set t (.bool want),h,lp⟩ K) (WpO G os b (St.put ⟨T.set t (.bool !want),h,lp⟩ d (.tup [])) K) (WpO G os b (St.put ⟨T,h,lp⟩ d (.tup [])) K):=by
 rw [AcS];unfold UP RP;simp only;cases hx:T[t]? with
 | none=>rfl
 | some x =>
   cases x with
   | bool v =>
     simp only;cases v<;>cases want<;>simp only [reduceCtorEq,ne_eq,not_false_eq_true,not_true_eq_false,false_implies,true_implies,and_true,true_and,Bool.not_true,Bool.not_false,Bool.false_eq_true,Bool.true_eq_false,forall_const]
     all_goals rw [List.set_self hx]
   | tup l=>cases l<;>rfl
   | _=>rfl
def TV (σ:St)(res:List (Nat×Option (Bool×Nat)))(k:List AV→Prop)(u:Tg k:=tg):Prop:=match resT σ res with|some rs=>k rs|none=>False
theorem Done_ret {res:List (Nat×Option (Bool×Nat))}{R:List AV→List Ob→Prop}{σ:St}:Aid res R .ret σ=TV σ res (fun rs=>R rs σ.h):=(rfl)
theorem resK_nil {σ:St}{k:List AV→Prop}:TV σ [] k=k []:=(rfl)
theorem resK_t {σ:St}{t:Nat}{rs:List (Nat×Option (Bool×Nat))}{k:List AV→Prop}:TV σ ((t,none)::rs) k=elK σ.t t (fun v=>TV σ rs (fun vs=>k (v::vs))):=by
 simp only [TV,resT,elK];cases σ.t[t]? with
 | none=>rfl
 | some v=>simp only;cases resT σ rs<;>rfl
theorem resK_c {σ:St}{t:Nat}{ag:Bool}{n:Nat}{rs:List (Nat×Option (Bool×Nat))}{k:List AV→Prop}:TV σ ((t,some (ag,n))::rs) k=ldK σ.h ag n (σ.get (.t t)) (fun v=>TV σ rs (fun vs=>k (v::vs))):=by
 have h:=wpI_ld (G:=fun _=>none) (b:=0) (σ:=σ) (ag:=ag) (n:=n) (a:=.t t) (k:=fun v _=>TV σ rs (fun vs=>k (v::vs)));rw [←h];simp only [wpI,TV,resT];have hb:ax 0 (.ld ag n (.t t)) σ=ax 0 (.ld ag n (.t t)) σ:=(rfl);cases hx:ax 0 (.ld ag n (.t t)) σ with
 | none=>rfl
 | some p =>
   obtain ⟨v,hh⟩:=p;simp only [BH];cases resT σ rs<;>rfl
theorem Xo {k:AV→Prop}{x x':AV}{y y':AV}{z z':AV}(h0:x=x')(h1:y=y')(h2:z=z'):AcP x y z k=AcP x' y' z' k:=by cases h0;cases h1;cases h2;rfl
theorem ZM {op:BinOp}{k:AV→Prop}{x x':AV}{y y':AV}(h0:x=x')(h1:y=y'):J6 op x y k=J6 op x' y' k:=by cases h0;cases h1;rfl
theorem Z4 {n:Bool}{k:AV→Prop}{x x':AV}{y y':AV}(h0:x=x')(h1:y=y'):Ai8 n x y k=Ai8 n x' y' k:=by cases h0;cases h1;rfl
theorem Abm {op:UnOp}{k:AV→Prop}{x x':AV}(h0:x=x'):unK op x k=unK op x' k:=by cases h0;rfl
theorem Aav {κ:IntKind}{k:AV→Prop}{x x':AV}(h0:x=x'):AiM κ x k=AiM κ x' k:=by cases h0;rfl
theorem Z8 {n:Bool}{ks:List Nat}{k:AV→Prop}{x x':AV}{y y':AV}(h0:x=x')(h1:y=y'):AhA n ks x y k=AhA n ks x' y' k:=by cases h0;cases h1;rfl
theorem Aam {i:Nat}{k:AV→Prop}{x x':AV}(h0:x=x'):Agp x i k=Agp x' i k:=by cases h0;rfl
theorem V8 {k:AV→Prop}{x x':AV}(h0:x=x'):Adm x k=Adm x' k:=by cases h0;rfl
theorem Wt {k:AV→Prop}{h h':List Ob}{x x':AV}(h0:h=h')(h1:x=x'):Qy h x k=Qy h' x' k:=by cases h0;cases h1;rfl
theorem Wl {r:Nat}{st:Nat}{p:Path}{ss:Nat}{k:AV→Prop}{h h':List Ob}(h0:h=h'):Bw h r st p ss k=Bw h' r st p ss k:=by cases h0;rfl
theorem Zk {k:Nat→List AV→Prop}{x x':AV}(h0:x=x'):H3 x k=H3 x' k:=by cases h0;rfl
theorem Abk {k:Ob→Prop}{o o':Option Ob}(h0:o=o'):obK o k=obK o' k:=by cases h0;rfl
theorem Yq {k:AV→Prop}{x x':AV}{p p':Path}(h0:x=x')(h1:p=p'):AaC x p k=AaC x' p' k:=by cases h0;cases h1;rfl
theorem Ac3 {k:AV→Prop}{xs xs':List AV}{i i':Nat}(h0:xs=xs')(h1:i=i'):elK xs i k=elK xs' i' k:=by cases h0;cases h1;rfl
theorem ZP {es:Nat}{k:AV→Prop}{h h':List Ob}{x x':AV}{y y':AV}(h0:h=h')(h1:x=x')(h2:y=y'):AgJ h es x y k=AgJ h' es x' y' k:=by cases h0;cases h1;cases h2;rfl
theorem Aay {k:AV→Prop}{x x':AV}{y y':AV}(h0:x=x')(h1:y=y'):Ahr x y k=Ahr x' y' k:=by cases h0;cases h1;rfl
theorem Y0 {k:List Ob→Nat→Prop}{h h':List Ob}{r r':Nat}{c c':AV}(h0:h=h')(h1:r=r')(h2:c=c'):Mg h r c k=Mg h' r' c' k:=by cases h0;cases h1;cases h2;rfl
theorem VG {p:Prop}{c c':AV}(h0:c=c'):W6 c p=W6 c' p:=by cases h0;rfl
theorem Ui {k:List Ob→Prop}{h h':List Ob}{r r':Nat}{p p':Path}{v v':AV}{bump bump':Bool}(h0:h=h')(h1:r=r')(h2:p=p')(h3:v=v')(h4:bump=bump'):H2 h r p v bump k=H2 h' r' p' v' bump' k:=by cases h0;cases h1;cases h2;cases h3;cases h4;rfl
theorem updK_congr {k:AV→Prop}{x x':AV}{p p':Path}{v v':AV}(h0:x=x')(h1:p=p')(h2:v=v'):Xc x p v k=Xc x' p' v' k:=by cases h0;cases h1;cases h2;rfl
theorem vcellsK_congr {n:Nat}{k:List AV→Prop}{h h':List Ob}{v v':AV}(h0:h=h')(h1:v=v'):Fy h n v k=Fy h' n v' k:=by cases h0;cases h1;rfl
theorem takeCellK_congr {k:AV→List Ob→Prop}{h h':List Ob}{v v':AV}(h0:h=h')(h1:v=v'):B4 h v k=B4 h' v' k:=by cases h0;cases h1;rfl
theorem takeCellsK_congr {k:List AV→List Ob→Prop}{h h':List Ob}{vs vs':List AV}(h0:h=h')(h1:vs=vs'):CK h vs k=CK h' vs' k:=by cases h0;cases h1;rfl
theorem takeValK_congr {n:Nat}{k:AV→List Ob→Prop}{h h':List Ob}{v v':AV}(h0:h=h')(h1:v=v'):Jr h n v k=Jr h' n v' k:=by cases h0;cases h1;rfl
theorem takeValsK_congr {n:Nat}{k:List AV→List Ob→Prop}{h h':List Ob}{vs vs':List AV}(h0:h=h')(h1:vs=vs'):FT h n vs k=FT h' n vs' k:=by cases h0;cases h1;rfl
theorem mksK_congr {k:Int→Prop}{x x':AV}{y y':AV}(h0:x=x')(h1:y=y'):AhQ x y k=AhQ x' y' k:=by cases h0;cases h1;rfl
theorem outvK_congr {r:Nat}{k:AV→Prop}{st st':Nat}{p p':Path}{ss ss':Nat}{c c':AV}(h0:st=st')(h1:p=p')(h2:ss=ss')(h3:c=c'):Sv r st p ss c k=Sv r st' p' ss' c' k:=by cases h0;cases h1;cases h2;cases h3;rfl
theorem outLK_congr {r:Nat}{k:List AV→Prop}{st st':Nat}{p p':Path}{ss ss':Nat}{i i':Nat}{j j':Nat}{cs cs':List AV}(h0:st=st')(h1:p=p')(h2:ss=ss')(h3:i=i')(h4:j=j')(h5:cs=cs'):Ss r st p ss i j cs k=Ss r st' p' ss' i' j' cs' k:=by cases h0;cases h1;cases h2;cases h3;cases h4;cases h5;rfl
theorem headK_congr {k:AV→Prop}{cs cs':List AV}(h0:cs=cs'):PR cs k=PR cs' k:=by cases h0;rfl
theorem ldK_congr {ag:Bool}{n:Nat}{k:AV→Prop}{h h':List Ob}{a a':AV}(h0:h=h')(h1:a=a'):ldK h ag n a k=ldK h' ag n a' k:=by cases h0;cases h1;rfl
theorem stoK_congr {n:Nat}{k:List Ob→Prop}{h h':List Ob}{a a':AV}{x x':AV}(h0:h=h')(h1:a=a')(h2:x=x'):Ah8 h n a x k=Ah8 h' n a' x' k:=by cases h0;cases h1;cases h2;rfl
theorem fadK_congr {off:Nat}{k:AV→Prop}{h h':List Ob}{x x':AV}(h0:h=h')(h1:x=x'):Ahw h off x k=Ahw h' off x' k:=by cases h0;cases h1;rfl
theorem fldK_congr {ag:Bool}{off:Nat}{n:Nat}{k:AV→Prop}{x x':AV}(h0:x=x'):Ajl ag off n x k=Ajl ag off n x' k:=by cases h0;rfl
theorem iaaK_congr {len:Nat}{es:Nat}{k:AV→Prop}{h h':List Ob}{x x':AV}{y y':AV}(h0:h=h')(h1:x=x')(h2:y=y'):Aif h len es x y k=Aif h' len es x' y' k:=by cases h0;cases h1;cases h2;rfl
theorem ixaK_congr {ag:Bool}{len:Nat}{es:Nat}{k:AV→Prop}{x x':AV}{y y':AV}(h0:x=x')(h1:y=y'):Ajc ag len es x y k=Ajc ag len es x' y' k:=by cases h0;cases h1;rfl
theorem bldK_congr {ps:List (Nat×Nat×Opd)}{k:List AV→Prop}{σ σ':St}{cs cs':List AV}(h0:σ=σ')(h1:cs=cs'):AfD σ cs ps k=AfD σ' cs' ps k:=by cases h0;cases h1;rfl
theorem mxnK_congr {mx:Bool}{k:AV→Prop}{x x':AV}{y y':AV}(h0:x=x')(h1:y=y'):Ajj mx x y k=Ajj mx x' y' k:=by cases h0;cases h1;rfl
theorem nilcK_congr {n:Bool}{k:AV→Prop}{h h':List Ob}{x x':AV}{y y':AV}(h0:h=h')(h1:x=x')(h2:y=y'):Abv h n x y k=Abv h' n x' y' k:=by cases h0;cases h1;cases h2;rfl
theorem appYK_congr {es:Nat}{k:List AV→List Ob→Prop}{h h':List Ob}{y y':AV}(h0:h=h')(h1:y=y'):appYK h es y k=appYK h' es y' k:=by cases h0;cases h1;rfl
theorem appXK_congr {es:Nat}{k:List AV→List Ob→Prop}{h h':List Ob}{x x':AV}(h0:h=h')(h1:x=x'):QF h es x k=QF h' es x' k:=by cases h0;cases h1;rfl
theorem appZ_congr {es:Nat}{bytes:Nat}{k:AV→List Ob→Prop}{x x':AV}{xs xs':List AV}{ys ys':List AV}{h h':List Ob}{r r':Nat}(h0:x=x')(h1:xs=xs')(h2:ys=ys')(h3:h=h')(h4:r=r'):WO x xs ys es bytes h r k=WO x' xs' ys' es bytes h' r' k:=by cases h0;cases h1;cases h2;cases h3;cases h4;rfl
theorem resK_congr {res:List (Nat×Option (Bool×Nat))}{k:List AV→Prop}{σ σ':St}(h0:σ=σ'):TV σ res k=TV σ' res k:=by cases h0;rfl
theorem guardS_congr {w:Bool}{A:Prop}{B:Prop}{C:Prop}{x x':Option AV}(h0:x=x'):RP x w A B C=RP x' w A B C:=by cases h0;rfl
theorem Zh {k:AV→Prop}{x x':AV}(h0:x=x'):Ajf x k=Ajf x' k:=by cases h0;rfl
attribute [congr] Zh Xo ZM Z4 Abm Aav Z8 Aam V8 Wt Wl Zk Abk Yq Ac3 ZP Aay Y0 VG Ui updK_congr vcellsK_congr takeCellK_congr takeCellsK_congr takeValK_congr takeValsK_congr mksK_congr outvK_congr outLK_congr headK_congr ldK_congr stoK_congr fadK_congr fldK_congr iaaK_congr ixaK_congr bldK_congr mxnK_congr nilcK_congr appYK_congr appXK_congr appZ_congr resK_congr guardS_congr
def boundK (x:Option AV)(d m:Nat)(k:Nat→Prop)(u:Tg k:=tg):Prop:=match bound x d m with|some i=>k i|none=>False
theorem boundK_none {d m:Nat}{q:Nat→Prop}:boundK none d m q=q d:=(rfl)
theorem boundK_some {κ:IntKind}{i:Int}{d m:Nat}{q:Nat→Prop}:boundK (some (.int κ i)) d m q=((0≤i∧i≤(m:Int))∧q i.toNat):=by
 simp only [boundK,bound];by_cases h:0≤i∧i≤(m:Int)
 ·rw [if_pos h];simp [h]
 ·rw [if_neg h];simp only [h,false_and]
theorem Uz {x x':Option AV}{d d' m m':Nat}{k:Nat→Prop}(h1:x=x')(h2:d=d')(h3:m=m'):boundK x d m k=boundK x' d' m' k:=by cases h1;cases h2;cases h3;rfl
def AgU (h:List Ob)(es:Nat)(x:AV)(lo hi mx:Option AV)(k:AV→Prop)(u:Tg k:=tg):Prop :=
 match x with
 | .lst xs=>match mx with
   | none=>boundK hi xs.length xs.length (fun a=>boundK lo 0 a (fun l=>K6 es xs∧k (.lst ((xs.take a).drop l))))
   | some m=>match m with
     | .int _ 0=>boundK hi 1 0 (fun a=>a=0∧boundK lo 0 0 (fun _=>k .emp))
     | _=>False
 | .nils=>match mx with
   | none=>boundK hi 0 0 (fun _=>boundK lo 0 0 (fun _=>k .nils))
   | some m=>match m with
     | .int _ 0=>boundK hi 0 0 (fun _=>boundK lo 0 0 (fun _=>hi.isSome=true∧k .nils))
     | _=>False
 | .emp=>match mx with
   | none=>boundK hi 0 0 (fun _=>boundK lo 0 0 (fun _=>k .emp))
   | some m=>match m with
     | .int _ 0=>boundK hi 0 0 (fun _=>boundK lo 0 0 (fun _=>hi.isSome=true∧k .emp))
     | _=>False
 | .sl r st p ss off len=>Bw h r st p ss (fun nd=>H3 nd (fun es' _=>es'=es∧match mx with
   | none=>boundK hi len len (fun a=>boundK lo 0 a (fun l=>k (.sl r st p ss (off+l) (a-l))))
   | some m=>match m with
     | .int _ 0=>boundK hi 1 0 (fun a=>a=0∧boundK lo 0 0 (fun _=>k .emp))
     | _=>False))
 | _=>False
theorem wpI_sli {G:Prg}{b:Nat}{σ:St}{k:AV→St→Prop}{es:Nat}{x:Opd}{lo hi mx:Option Opd}(hm:mx=none) :
 wpI G (.sli es x lo hi mx) b σ k=AgU σ.h es (σ.get x) (lo.map σ.get) (hi.map σ.get) none (fun v=>k v σ):=by
 subst hm;simp only [wpI,ax,AgU,boundK,K6];cases σ.get x<;>first|rfl|skip
 ·simp only [Option.map_none];cases bound (hi.map σ.get) 0 0 with
  | none=>rfl
  | some a=>simp only;cases bound (lo.map σ.get) 0 0<;>rfl
 ·simp only [Option.map_none];cases bound (hi.map σ.get) 0 0 with
  | none=>rfl
  | some a=>simp only;cases bound (lo.map σ.get) 0 0<;>rfl
 ·rename_i xs;simp only;cases bound (hi.map σ.get) xs.length xs.length with
  | none=>rfl
  | some a =>
    simp only;cases bound (lo.map σ.get) 0 a with
    | none=>rfl
    | some l =>
      simp only;by_cases hc:(xs.head?.all fun e:AV=>e.cells.length==es)=true
      ·rw [if_pos hc];simp [hc,BH]
      ·rw [if_neg hc];simp [hc,BH]
 ·rename_i r st p ss off len;simp only [Bw,H3];cases node σ.h r st p ss with
  | none=>rfl
  | some nd =>
    cases nd with
    | own es' xs =>
      simp only;by_cases he:es'=es
      ·rw [if_pos he];simp only [he,true_and];cases bound (hi.map σ.get) len len with
       | none=>rfl
       | some a=>simp only;cases bound (lo.map σ.get) 0 a<;>rfl
      ·rw [if_neg he];simp only [he,false_and,BH]
    | _=>rfl
theorem sliK_lst {h:List Ob}{es:Nat}{xs:List AV}{lo hi:Option AV}{q:AV→Prop}:AgU h es (.lst xs) lo hi none q=boundK hi xs.length xs.length (fun a=>boundK lo 0 a (fun l=>K6 es xs∧q (.lst ((xs.take a).drop l)))):=(rfl)
theorem sliK_sl {h:List Ob}{es r st ss off len:Nat}{p:Path}{lo hi:Option AV}{q:AV→Prop}:AgU h es (.sl r st p ss off len) lo hi none q=Bw h r st p ss (fun nd=>H3 nd (fun es' _=>es'=es∧boundK hi len len (fun a=>boundK lo 0 a (fun l=>q (.sl r st p ss (off+l) (a-l)))))):=(rfl)
theorem Y7 {h h':List Ob}{es:Nat}{x x':AV}{lo lo' hi hi' mx mx':Option AV}{k:AV→Prop}(h1:h=h')(h2:x=x')(h3:lo=lo')(h4:hi=hi')(h5:mx=mx'):AgU h es x lo hi mx k=AgU h' es x' lo' hi' mx' k:=by cases h1;cases h2;cases h3;cases h4;cases h5;rfl
attribute [congr] Y7 Uz
theorem AbU {G:Prg}{l:Nat}{xs ys:List AV}{σ τ:St}{K:AV→St→Prop}(hx:xs=ys)(h:σ=τ):WpY G l xs σ K=WpY G l ys τ K:=by rw [h,hx]
attribute [congr] AbU
section
variable {G:Prg}{b:Nat}{σ:St}{k:AV→St→Prop}
theorem wpI_call {f:FuncId}{xs:List Opd}{ss:List Nat}:wpI G (.call f xs ss) b σ k=Bc G f (σ.gets xs) b ss σ k:=(rfl)
def Zg (G:Prg)(x:AV)(xs:List AV)(b:Nat)(ss:List Nat)(σ:St)(k:AV→St→Prop)(u:Tg k:=tg):Prop :=
 match x with
 | .fn f cs=>Bc G f (xs++cs) b ss σ k
 | .yld l=>WpY G l xs σ k
 | _=>False
theorem wpI_calv {x:Opd}{xs:List Opd}{ss:List Nat}:wpI G (.calv x xs ss) b σ k=Zg G (σ.get x) (σ.gets xs) b ss σ k:=(rfl)
theorem calvK_fn {f:FuncId}{cs xs:List AV}{ss:List Nat}:Zg G (.fn f cs) xs b ss σ k=Bc G f (xs++cs) b ss σ k:=(rfl)
theorem calvK_yld {l:Nat}{xs:List AV}{ss:List Nat}:Zg G (.yld l) xs b ss σ k=WpY G l xs σ k:=(rfl)
theorem WW {x x':AV}{xs xs':List AV}{ss:List Nat}{τ:St}(h1:x=x')(h2:xs=xs')(h3:σ=τ):Zg G x xs b ss σ k=Zg G x' xs' b ss τ k:=by rw [h1,h2,h3]
attribute [congr] WW
end
theorem get_t {T:List AV}{h:List Ob}{lp:List Lp}{n:Nat}:St.get ⟨T,h,lp⟩ (.t n)=T.getD n .undef:=(rfl)
theorem get_c {σ:St}{v:AV}:σ.get (.c v)=v:=(rfl)
theorem put_some {T:List AV}{h:List Ob}{lp:List Lp}{d:Nat}{v:AV}:St.put ⟨T,h,lp⟩ (some d) v=⟨T.set d v,h,lp⟩:=(rfl)
theorem put_none {T:List AV}{h:List Ob}{lp:List Lp}{v:AV}:St.put ⟨T,h,lp⟩ none v=⟨T,h,lp⟩:=(rfl)
theorem gets_nil {σ:St}:σ.gets [] = []:=(rfl)
theorem gets_cons {σ:St}{x:Opd}{xs:List Opd}:σ.gets (x::xs)=σ.get x::σ.gets xs:=(rfl)
theorem headS_eq {nt:Nat}{L ks:List Nat}{d:AV}{l:List (Nat×AV)}{h:List Ob}{lp:List Lp}:Nu (rest nt L) ks 0 ⟨aT d nt l,h,lp⟩=⟨aT .undef nt (L.map fun k=>(k,AX d k l)),Jk ks 0 h,lp⟩:=by
 simp only [Nu,MO aT_len,FA,OI]
theorem cells_agg {cs:List AV}:(AV.agg cs).cells=cs:=(rfl)
theorem cells_int {κ:IntKind}{n:Int}:(AV.int κ n).cells = [.int κ n]:=(rfl)
theorem cells_bool {v:Bool}:(AV.bool v).cells = [.bool v]:=(rfl)
theorem cells_str {v:ByteArray}:(AV.str v).cells = [.str v]:=(rfl)
theorem cells_lst {v:List AV}:(AV.lst v).cells = [.lst v]:=(rfl)
theorem cells_nils:AV.nils.cells = [.nils]:=(rfl)
theorem cells_own {es:Nat}{xs:List AV}:(AV.own es xs).cells = [.own es xs]:=(rfl)
theorem cells_ownm {es:List (AV×AV)}:(AV.ownm es).cells = [.ownm es]:=(rfl)
theorem cells_sl {r st:Nat}{p:Path}{ss off len:Nat}:(AV.sl r st p ss off len).cells = [.sl r st p ss off len]:=(rfl)
theorem cells_fn {f:FuncId}{cs:List AV}:(AV.fn f cs).cells = [.fn f cs]:=(rfl)
theorem cells_gone:AV.gone.cells = [.gone]:=(rfl)
theorem S7 {e:AV}(he:e.void=true):e.cells = [e]:=by cases e<;>first|rfl|(simp [AV.void] at he)
theorem cells_cellv {e:AV}{es:Nat}{xs:List AV}(he:e.void=true):(cellv e es xs).cells = [cellv e es xs]:=by
 unfold cellv;split
 ·exact S7 he
 ·rfl
theorem cells_cellg {e:AV}{xs:List AV}(he:e.void=true):(Qj e xs).cells = [Qj e xs]:=by
 unfold Qj;split
 ·exact S7 he
 ·rfl
theorem cells_rowv {e:AV}{es r st:Nat}{xs:List AV}(he:e.void=true):(Le e es r st xs).cells = [Le e es r st xs]:=by
 unfold Le;split
 ·exact S7 he
 ·rfl
theorem void_nils:AV.nils.void=true:=(rfl)
theorem plain_int {κ:IntKind}{n:Int}:(AV.int κ n).plain=true:=(rfl)
theorem plain_bool {v:Bool}:(AV.bool v).plain=true:=(rfl)
theorem plain_str {v:ByteArray}:(AV.str v).plain=true:=(rfl)
theorem plain_lst {v:List AV}:(AV.lst v).plain=true:=(rfl)
theorem plain_nils:AV.nils.plain=true:=(rfl)
theorem one_int {h:List Ob}{κ:IntKind}{n:Int}:Qn h (.int κ n)=True:=by simp [Qn,LD,AV.plain]
theorem one_bool {h:List Ob}{v:Bool}:Qn h (.bool v)=True:=by simp [Qn,LD,AV.plain]
theorem one_str {h:List Ob}{v:ByteArray}:Qn h (.str v)=True:=by simp [Qn,LD,AV.plain]
theorem one_lst {h:List Ob}{v:List AV}:Qn h (.lst v)=True:=by simp [Qn,LD,AV.plain]
theorem one_nils {h:List Ob}:Qn h .nils=True:=by simp [Qn,LD,AV.plain]
theorem one_emp {h:List Ob}:Qn h .emp=True:=by simp [Qn,LD,AV.plain]
theorem one_sl {h:List Ob}{r st:Nat}{p:Path}{ss off len:Nat}:Qn h (.sl r st p ss off len)=Bw h r st p ss (fun nd=>H3 nd (fun _ _=>True)):=by
 simp only [Qn,LD,Bw,H3];cases node h r st p ss with
 | none=>simp
 | some nd=>cases nd<;>simp
theorem one_row {e:AV}{h:List Ob}{es r st:Nat}{xs:List AV}(he:e.void=true)(hr:S4 h[r]? st es xs):Qn h (Le e es r st xs)=True:=by
 unfold Le;by_cases hx:xs = []
 ·rw [if_pos hx];cases e<;>first|exact one_nils|exact one_emp|(simp [AV.void] at he)
 ·rw [if_neg hx,one_sl];simp only [Bw,Lf hr hx,H3]
theorem isNode_int {κ:IntKind}{n:Int}:isNode (.int κ n)=false:=(rfl)
theorem isNode_bool {v:Bool}:isNode (.bool v)=false:=(rfl)
theorem isNode_lst {v:List AV}:isNode (.lst v)=false:=(rfl)
theorem isNode_nils:isNode .nils=false:=(rfl)
theorem isNode_fn {f:FuncId}{v:List AV}:isNode (.fn f v)=false:=(rfl)
theorem isNode_own {es:Nat}{xs:List AV}:isNode (.own es xs)=true:=(rfl)
theorem isNode_gone:isNode .gone=false:=(rfl)
theorem setCellOf_agg {cs:List AV}{j:Nat}{c:AV}:setCellOf (.agg cs) j c = .agg (cs.set j c):=(rfl)
theorem setCellOf_one' {e:AV}(he:e.cells = [e]){j:Nat}{c:AV}:setCellOf e j c=c:=by
 cases e<;>first|rfl|skip
 rename_i cs;simp only [AV.cells] at he;have h2:=congrArg SizeOf.sizeOf he;simp at h2;omega
theorem setCells_nil {e:AV}{j:Nat}:setCells e j []=e:=(rfl)
theorem setCells_cons {e:AV}{j:Nat}{c:AV}{cs:List AV}:setCells e j (c::cs)=setCells (setCellOf e j c) (j+1) cs:=(rfl)
theorem packV_one {v:AV}:packV [v]=v:=(rfl)
theorem packV_nil:packV [] = .tup []:=(rfl)
theorem packV_two {v w:AV}{vs:List AV}:packV (v::w::vs) = .tup (v::w::vs):=(rfl)
section
variable {B:Nat}{h:List Ob}
theorem treeBL_nil:treeBL B h [] = []:=(rfl)
theorem treeBL_cons {x:AV}{xs:List AV}:treeBL B h (x::xs)=treeB B h x::treeBL B h xs:=(rfl)
theorem treeB_int {κ:IntKind}{n:Int}:treeB B h (.int κ n) = .int κ n:=(rfl)
theorem treeB_bool {v:Bool}:treeB B h (.bool v) = .bool v:=(rfl)
theorem treeB_str {v:ByteArray}:treeB B h (.str v) = .str v:=(rfl)
theorem treeB_lst {v:List AV}:treeB B h (.lst v) = .lst v:=(rfl)
theorem treeB_pfro {v:List AV}:treeB B h (.pfro v) = .pfro v:=(rfl)
theorem treeB_nils:treeB B h .nils = .lst []:=(rfl)
theorem treeB_emp:treeB B h .emp = .lst []:=(rfl)
theorem treeB_agg {v:List AV}:treeB B h (.agg v) = .agg (treeBL B h v):=(rfl)
theorem treeB_fn {f:FuncId}{v:List AV}:treeB B h (.fn f v) = .fn f (treeBL B h v):=(rfl)
def slV (nd:Option AV)(off len:Nat):AV:=match nd with|some (.own _ xs)=>if off+len≤xs.length then .lst (((xs.drop off).take len).map frz) else .undef|_=>.undef
def AiW (nd:Option AV)(i j:Nat):AV:=match nd with|some (.own _ xs)=>(match xs[i]? with|some e=>.pfro ((e.cells.drop j).map frz)|none=>.undef)|_=>.undef
theorem treeB_sl {r st:Nat}{p:Path}{ss off len:Nat}:treeB 0 h (.sl r st p ss off len)=slV (node h r st p ss) off len:=by
 simp only [treeB,Nat.not_lt_zero,if_false,AaB,slV];cases node h r st p ss with
 | none=>rfl
 | some nd=>cases nd<;>rfl
theorem treeB_ptr {r st:Nat}{p:Path}{ss i j:Nat}:treeB 0 h (.ptr r st p ss i j)=AiW (node h r st p ss) i j:=by
 simp only [treeB,Nat.not_lt_zero,if_false,AaB,AiW];cases node h r st p ss with
 | none=>rfl
 | some nd=>cases nd<;>rfl
theorem slV_own {es:Nat}{xs:List AV}{off len:Nat}:slV (some (.own es xs)) off len=if off+len≤xs.length then .lst (((xs.drop off).take len).map frz) else .undef:=(rfl)
theorem ptrV_0 {es:Nat}{e:AV}{xs:List AV}{j:Nat}:AiW (some (.own es (e::xs))) 0 j = .pfro ((e.cells.drop j).map frz):=(rfl)
theorem treeB_row {e:AV}{es r st:Nat}{xs:List AV}(he:e.void=true)(hr:S4 h[r]? st es xs):treeB 0 h (Le e es r st xs) = .lst (xs.map frz):=by
 unfold Le;by_cases hx:xs = []
 ·subst hx;rw [if_pos rfl];cases e<;>first|rfl|(simp [AV.void] at he)
 ·rw [if_neg hx,treeB_sl,Lf hr hx,slV_own];simp
theorem treeB_cell {e:AV}{es r st ss:Nat}{p:Path}{xs:List AV}(he:e.void=true)(hr:LS h r st p ss e es xs):treeB 0 h (OA e es r st p ss xs) = .lst (xs.map frz):=by
 unfold OA;by_cases hx:xs = []
 ·subst hx;rw [if_pos rfl];cases e<;>first|rfl|(simp [AV.void] at he)
 ·rw [if_neg hx,treeB_sl,Jh hr hx,slV_own];simp
end
theorem frz_int {κ:IntKind}{n:Int}:frz (.int κ n) = .int κ n:=(rfl)
theorem frz_bool {v:Bool}:frz (.bool v) = .bool v:=(rfl)
theorem frz_str {v:ByteArray}:frz (.str v) = .str v:=(rfl)
theorem frz_lst {v:List AV}:frz (.lst v) = .lst v:=(rfl)
theorem frz_nils:frz .nils = .lst []:=(rfl)
theorem frz_agg {v:List AV}:frz (.agg v) = .agg (v.map frz):=by simp [frz,Hl]
theorem frz_own {es:Nat}{v:List AV}:frz (.own es v) = .lst (v.map frz):=by simp [frz,Hl]
theorem frz_fn {f:FuncId}{v:List AV}:frz (.fn f v) = .fn f (v.map frz):=by simp [frz,Hl]
theorem frz_cellv {e:AV}{es:Nat}{xs:List AV}(he:e.void=true):frz (cellv e es xs) = .lst (xs.map frz):=by
 unfold cellv;by_cases hx:xs = []
 ·subst hx;rw [if_pos rfl];cases e<;>first|rfl|(simp [AV.void] at he)
 ·rw [if_neg hx,frz_own]
theorem node_eval {h:List Ob}{r st:Nat}{p:Path}{ss:Nat}:node h r st p ss=match h[r]? with|some o=>if o.st=st∧(p = []∨o.ss=ss) then nav o.c p else none|none=>none:=(rfl)
theorem nav_nil' {x:AV}:nav x []=some x:=by simp [nav]
theorem nav_own {es:Nat}{xs:List AV}{i j:Nat}{p:Path}:nav (.own es xs) ((i,j)::p)=match xs[i]? with|some e=>(match e.cells[j]? with|some c=>nav c p|none=>none)|none=>none:=(rfl)
theorem flats_int {κ:IntKind}{n:Int}:(AV.int κ n).flats=true:=(rfl)
theorem flats_bool {v:Bool}:(AV.bool v).flats=true:=(rfl)
theorem freeL_nil {L:List Nat}{k:Nat}:Jk L k [] = []:=(rfl)
theorem freeL_cons {L:List Nat}{k:Nat}{o:Ob}{t:List Ob}:Jk L k (o::t)=(if L.contains k then { o with c:=.gone } else o)::Jk L (k+1) t:=(rfl)
theorem entry_eq {nt ns:Nat}{xs:List AV}(h:xs.length≤nt):Ad3 nt ns xs = { t:=aT (.tup []) nt (Afm 0 xs),h:=List.replicate ns E4,lp:=[] }:=by
 unfold Ad3;rw [A6 h]
theorem idxL_nil {k:Nat}:Afm k [] = []:=(rfl)
theorem idxL_cons {k:Nat}{x:AV}{xs:List AV}:Afm k (x::xs)=(k,x)::Afm (k+1) xs:=(rfl)
theorem look_cons {d:AV}{k j:Nat}{v:AV}{l:List (Nat×AV)}:AX d k ((j,v)::l)=if j=k then v else AX d k l:=(rfl)
theorem look_nil {d:AV}{k:Nat}:AX d k []=d:=(rfl)
theorem elK_aT {d:AV}{nt k:Nat}{l:List (Nat×AV)}{q:AV→Prop}(h:k<nt):elK (aT d nt l) k q=q (AX d k l):=by
 simp only [elK,aT_get h]
theorem isCell_eq {h:List Ob}{r st ss es:Nat}{p:Path}{e:AV}{xs:List AV}:LS h r st p ss e es xs=Bw h r st p ss (fun nd=>nd=cellv e es xs):=(rfl)
theorem rowv_app {e:AV}{es r st:Nat}{xs:List AV}{y:AV}:Le e es r st (xs++[y]) = .sl r st [] 0 0 (xs.length+1):=by simp [Le]
theorem rowo_app {es:Nat}{xs:List AV}{y:AV}:MW es (xs++[y]) = .own es (xs++[y]):=by simp [MW]
theorem cellv_app {e:AV}{es:Nat}{xs:List AV}{y:AV}:cellv e es (xs++[y]) = .own es (xs++[y]):=by simp [cellv]
theorem rowv_nil {e:AV}{es r st:Nat}:Le e es r st []=e:=by simp [Le]
theorem rowo_nil {es:Nat}:MW es [] = .gone:=by simp [MW]
theorem cellv_nil {e:AV}{es:Nat}:cellv e es []=e:=by simp [cellv]
theorem ownK_cellv {e:AV}{es:Nat}{xs:List AV}{q:Nat→List AV→Prop}(he:e.void=true):H3 (cellv e es xs) q=(xs≠[]∧q es xs):=by
 unfold cellv;by_cases h:xs = []
 ·cases e<;>first|(simp [AV.void] at he;done)|simp [h,H3]
 ·simp [h,H3]
theorem iadK_cell {e:AV}{h:List Ob}{es r st ss:Nat}{p:Path}{xs:List AV}{κ:IntKind}{i:Int}{q:AV→Prop}(he:e.void=true)(hr:LS h r st p ss e es xs) :
 AgJ h es (OA e es r st p ss xs) (.int κ i) q=((0≤i∧i<(xs.length:Int))∧q (.ptr r st p ss i.toNat 0)):=by
 unfold OA;by_cases hx:xs = []
 ·subst hx;rw [if_pos rfl];have h0:¬(0≤i∧i<(([]:List AV).length:Int)):=by simp
  simp only [h0,false_and];cases e<;>first|(simp [AV.void] at he;done)|rfl
 ·rw [if_neg hx,iadK_sl];simp only [Bw,Jh hr hx,H3,true_and,Nat.zero_add]
theorem yob_plain {ys:List AV}{o:Ob}(h:HX ys=true):yob ys o=o:=by simp [yob,h]
theorem yob_ss {ys:List AV}{o:Ob}:(yob ys o).ss=o.ss:=by unfold yob;split<;>rfl
theorem take_all {xs:List AV}{n:Nat}(h:xs.length=n):xs.take n=xs:=by rw [List.take_of_length_le (by omega)]
theorem allPlain2_nil:HX []=true:=(rfl)
theorem allPlain2_cons {y:AV}{ys:List AV}:HX (y::ys)=(y.cells.all AV.plain&&HX ys):=(rfl)
theorem map_frz {α:Type}{f:α→AV}{l:List α}(h:∀x,frz (f x)=f x):(l.map f).map frz=l.map f:=by
 rw [List.map_map];exact List.map_congr_left (fun x _=>h x)
theorem goneOb_eq:E4=⟨0,0,.gone⟩:=(rfl)
end Go.Mw
