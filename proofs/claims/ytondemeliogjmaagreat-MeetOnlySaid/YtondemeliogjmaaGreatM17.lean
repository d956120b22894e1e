/- How simp steps through code: the rules in one set. -/
import Derived.Test.YtondemeliogjmaaGreatM16
set_option linter.unusedVariables false
set_option linter.unusedSimpArgs false
namespace Go.Mw
def guardS (x:Option AV)(w:Bool)(A B C:Prop)(u:Tg (A,B,C):=tg):Prop :=
 match x with
 | some (.bool v)=>(v=w→A)∧(v = !w→B)
 | some (.tup [])=>C
 | _=>False
theorem Aa1 {w:Bool}{A B C:Prop}:guardS (some (.tup [])) w A B C=C:=(rfl)
def Jq (v w:Bool)(A B:Prop)(u:Tg (A,B):=tg):Prop:=(v=w→A)∧(v = !w→B)
theorem guardS_T {v w:Bool}{A B C:Prop}:guardS (some (.bool v)) w A B C=Jq v w A B:=(rfl)
theorem gA {A B:Prop}:Jq true true A B=A:=by simp [Jq]
theorem gB {A B:Prop}:Jq true false A B=B:=by simp [Jq]
theorem gC {A B:Prop}:Jq false true A B=B:=by simp [Jq]
theorem gD {A B:Prop}:Jq false false A B=A:=by simp [Jq]
theorem guardT_bool {v w:Bool}{A B:Prop}:Jq v w A B=((v=w→A)∧(v = !w→B)):=(rfl)
def UP (v:Bool)(A B:Prop)(u:Tg (A,B):=tg):Prop:=(v=true→A)∧(v=false→B)
theorem condK_T {v:Bool}{A B:Prop}:Acm (.bool v) A B=UP v A B:=(rfl)
theorem cA {A B:Prop}:UP true A B=A:=by simp [UP]
theorem cB {A B:Prop}:UP false A B=B:=by simp [UP]
theorem Aa:(∀A B:Prop,Jq true true A B=A)∧(∀A B:Prop,Jq true false A B=B)∧(∀A B:Prop,Jq false true A B=B)∧(∀A B:Prop,Jq false false A B=A)∧(∀A B:Prop,UP true A B=A)∧∀A B:Prop,UP false A B=B:=⟨fun _ _=>gA,fun _ _=>gB,fun _ _=>gC,fun _ _=>gD,fun _ _=>cA,fun _ _=>cB⟩
theorem condT_bool {v:Bool}{A B:Prop}:UP v A B=((v=true→A)∧(v=false→B)):=(rfl)
theorem Acr {G:Prg}{d:Option Nat}{i:Ins}{t:Nat}{want:Bool}{os:List Rop}{b:Nat}{T:List AV}{h:List Ob}{lp:List Lp}{K:St→Prop} :
 WpO G (⟨d,i,some (t,want)⟩::os) b ⟨T,h,lp⟩ K=guardS T[t]? want (WpO G (⟨d,i,none⟩::os) b ⟨T.set t (.bool want),h,lp⟩ K) (WpO G os b (St.put ⟨T.set t (.bool !want),h,lp⟩ d (.tup [])) K) (WpO G os b (St.put ⟨T,h,lp⟩ d (.tup [])) K):=by
 rw [AdV];unfold Vc guardS;simp only;cases hx:T[t]? with
 | none=>rfl
 | some x =>
   cases x with
   | bool v =>
     simp only;cases v<;>cases want<;>simp only [reduceCtorEq,ne_eq,not_false_eq_true,not_true_eq_false,false_implies,true_implies,and_true,true_and,Bool.not_true,Bool.not_false,Bool.false_eq_true,Bool.true_eq_false,forall_const]
     all_goals rw [List.set_self hx]
   | tup l=>cases l<;>rfl
   | _=>rfl
def Wg (σ:St)(res:List (Nat×Option (Bool×Nat)))(k:List AV→Prop)(u:Tg k:=tg):Prop:=match resT σ res with|some rs=>k rs|none=>False
theorem Done_ret {res:List (Nat×Option (Bool×Nat))}{R:List AV→List Ob→Prop}{σ:St}:Ajn res R .ret σ=Wg σ res (fun rs=>R rs σ.h):=(rfl)
theorem resK_nil {σ:St}{k:List AV→Prop}:Wg σ [] k=k []:=(rfl)
theorem resK_t {σ:St}{t:Nat}{rs:List (Nat×Option (Bool×Nat))}{k:List AV→Prop}:Wg σ ((t,none)::rs) k=elK σ.t t (fun v=>Wg σ rs (fun vs=>k (v::vs))):=by
 simp only [Wg,resT,elK];cases σ.t[t]? with
 | none=>rfl
 | some v=>simp only;cases resT σ rs<;>rfl
theorem resK_c {σ:St}{t:Nat}{ag:Bool}{n:Nat}{rs:List (Nat×Option (Bool×Nat))}{k:List AV→Prop}:Wg σ ((t,some (ag,n))::rs) k=ldK σ.h ag n (σ.get (.t t)) (fun v=>Wg σ rs (fun vs=>k (v::vs))):=by
 have h:=wpI_ld (G:=fun _=>none) (b:=0) (σ:=σ) (ag:=ag) (n:=n) (a:=.t t) (k:=fun v _=>Wg σ rs (fun vs=>k (v::vs)));rw [←h];simp only [wpI,Wg,resT];have hb:ax 0 (.ld ag n (.t t)) σ=ax 0 (.ld ag n (.t t)) σ:=(rfl);cases hx:ax 0 (.ld ag n (.t t)) σ with
 | none=>rfl
 | some p =>
   obtain ⟨v,hh⟩:=p;simp only [Bm];cases resT σ rs<;>rfl
theorem Xg {k:AV→Prop}{x x':AV}{y y':AV}{z z':AV}(h0:x=x')(h1:y=y')(h2:z=z'):AdB x y z k=AdB x' y' z' k:=by cases h0;cases h1;cases h2;rfl
theorem AaU {op:BinOp}{k:AV→Prop}{x x':AV}{y y':AV}(h0:x=x')(h1:y=y'):KP op x y k=KP op x' y' k:=by cases h0;cases h1;rfl
theorem ZM {n:Bool}{k:AV→Prop}{x x':AV}{y y':AV}(h0:x=x')(h1:y=y'):Akm n x y k=Akm n x' y' k:=by cases h0;cases h1;rfl
theorem AcE {op:UnOp}{k:AV→Prop}{x x':AV}(h0:x=x'):unK op x k=unK op x' k:=by cases h0;rfl
theorem Aam {κ:IntKind}{k:AV→Prop}{x x':AV}(h0:x=x'):Akq κ x k=Akq κ x' k:=by cases h0;rfl
theorem Aaa {n:Bool}{ks:List Nat}{k:AV→Prop}{x x':AV}{y y':AV}(h0:x=x')(h1:y=y'):AiW n ks x y k=AiW n ks x' y' k:=by cases h0;cases h1;rfl
theorem AaG {i:Nat}{k:AV→Prop}{x x':AV}(h0:x=x'):Ahm x i k=Ahm x' i k:=by cases h0;rfl
theorem Ww {k:AV→Prop}{x x':AV}(h0:x=x'):AcK x k=AcK x' k:=by cases h0;rfl
theorem Xi {k:AV→Prop}{h h':List Ob}{x x':AV}(h0:h=h')(h1:x=x'):S7 h x k=S7 h' x' k:=by cases h0;cases h1;rfl
theorem WC {r:Nat}{st:Nat}{p:Path}{ss:Nat}{k:AV→Prop}{h h':List Ob}(h0:h=h'):Br h r st p ss k=Br h' r st p ss k:=by cases h0;rfl
theorem ZW {k:Nat→List AV→Prop}{x x':AV}(h0:x=x'):Jl x k=Jl x' k:=by cases h0;rfl
theorem AcF {k:Ob→Prop}{o o':Option Ob}(h0:o=o'):obK o k=obK o' k:=by cases h0;rfl
theorem Ze {k:AV→Prop}{x x':AV}{p p':Path}(h0:x=x')(h1:p=p'):Abs x p k=Abs x' p' k:=by cases h0;cases h1;rfl
theorem AbF {k:AV→Prop}{xs xs':List AV}{i i':Nat}(h0:xs=xs')(h1:i=i'):elK xs i k=elK xs' i' k:=by cases h0;cases h1;rfl
theorem Z3 {es:Nat}{k:AV→Prop}{h h':List Ob}{x x':AV}{y y':AV}(h0:h=h')(h1:x=x')(h2:y=y'):Ah0 h es x y k=Ah0 h' es x' y' k:=by cases h0;cases h1;cases h2;rfl
theorem Aak {k:AV→Prop}{x x':AV}{y y':AV}(h0:x=x')(h1:y=y'):AiR x y k=AiR x' y' k:=by cases h0;cases h1;rfl
theorem ZJ {k:List Ob→Nat→Prop}{h h':List Ob}{r r':Nat}{c c':AV}(h0:h=h')(h1:r=r')(h2:c=c'):OC h r c k=OC h' r' c' k:=by cases h0;cases h1;cases h2;rfl
theorem Xf {p:Prop}{c c':AV}(h0:c=c'):Aav c p=Aav c' p:=by cases h0;rfl
theorem Un {k:List Ob→Prop}{h h':List Ob}{r r':Nat}{p p':Path}{v v':AV}{bump bump':Bool}(h0:h=h')(h1:r=r')(h2:p=p')(h3:v=v')(h4:bump=bump'):HR h r p v bump k=HR h' r' p' v' bump' k:=by cases h0;cases h1;cases h2;cases h3;cases h4;rfl
theorem updK_congr {k:AV→Prop}{x x':AV}{p p':Path}{v v':AV}(h0:x=x')(h1:p=p')(h2:v=v'):XG x p v k=XG x' p' v' k:=by cases h0;cases h1;cases h2;rfl
theorem vcellsK_congr {n:Nat}{k:List AV→Prop}{h h':List Ob}{v v':AV}(h0:h=h')(h1:v=v'):FD h n v k=FD h' n v' k:=by cases h0;cases h1;rfl
theorem takeCellK_congr {k:AV→List Ob→Prop}{h h':List Ob}{v v':AV}(h0:h=h')(h1:v=v'):BM h v k=BM h' v' k:=by cases h0;cases h1;rfl
theorem takeCellsK_congr {k:List AV→List Ob→Prop}{h h':List Ob}{vs vs':List AV}(h0:h=h')(h1:vs=vs'):Cb h vs k=Cb h' vs' k:=by cases h0;cases h1;rfl
theorem takeValK_congr {n:Nat}{k:AV→List Ob→Prop}{h h':List Ob}{v v':AV}(h0:h=h')(h1:v=v'):Js h n v k=Js h' n v' k:=by cases h0;cases h1;rfl
theorem takeValsK_congr {n:Nat}{k:List AV→List Ob→Prop}{h h':List Ob}{vs vs':List AV}(h0:h=h')(h1:vs=vs'):FW h n vs k=FW h' n vs' k:=by cases h0;cases h1;rfl
theorem mksK_congr {k:Int→Prop}{x x':AV}{y y':AV}(h0:x=x')(h1:y=y'):Ajv x y k=Ajv x' y' k:=by cases h0;cases h1;rfl
theorem outvK_congr {r:Nat}{k:AV→Prop}{st st':Nat}{p p':Path}{ss ss':Nat}{c c':AV}(h0:st=st')(h1:p=p')(h2:ss=ss')(h3:c=c'):SR r st p ss c k=SR r st' p' ss' c' k:=by cases h0;cases h1;cases h2;cases h3;rfl
theorem outLK_congr {r:Nat}{k:List AV→Prop}{st st':Nat}{p p':Path}{ss ss':Nat}{i i':Nat}{j j':Nat}{cs cs':List AV}(h0:st=st')(h1:p=p')(h2:ss=ss')(h3:i=i')(h4:j=j')(h5:cs=cs'):SD r st p ss i j cs k=SD r st' p' ss' i' j' cs' k:=by cases h0;cases h1;cases h2;cases h3;cases h4;cases h5;rfl
theorem headK_congr {k:AV→Prop}{cs cs':List AV}(h0:cs=cs'):NL cs k=NL cs' k:=by cases h0;rfl
theorem ldK_congr {ag:Bool}{n:Nat}{k:AV→Prop}{h h':List Ob}{a a':AV}(h0:h=h')(h1:a=a'):ldK h ag n a k=ldK h' ag n a' k:=by cases h0;cases h1;rfl
theorem stoK_congr {n:Nat}{k:List Ob→Prop}{h h':List Ob}{a a':AV}{x x':AV}(h0:h=h')(h1:a=a')(h2:x=x'):Ajf h n a x k=Ajf h' n a' x' k:=by cases h0;cases h1;cases h2;rfl
theorem fadK_congr {off:Nat}{k:AV→Prop}{h h':List Ob}{x x':AV}(h0:h=h')(h1:x=x'):AiM h off x k=AiM h' off x' k:=by cases h0;cases h1;rfl
theorem fldK_congr {ag:Bool}{off:Nat}{n:Nat}{k:AV→Prop}{x x':AV}(h0:x=x'):AjV ag off n x k=AjV ag off n x' k:=by cases h0;rfl
theorem iaaK_congr {len:Nat}{es:Nat}{k:AV→Prop}{h h':List Ob}{x x':AV}{y y':AV}(h0:h=h')(h1:x=x')(h2:y=y'):AiT h len es x y k=AiT h' len es x' y' k:=by cases h0;cases h1;cases h2;rfl
theorem ixaK_congr {ag:Bool}{len:Nat}{es:Nat}{k:AV→Prop}{x x':AV}{y y':AV}(h0:x=x')(h1:y=y'):Akl ag len es x y k=Akl ag len es x' y' k:=by cases h0;cases h1;rfl
theorem bldK_congr {ps:List (Nat×Nat×Opd)}{k:List AV→Prop}{σ σ':St}{cs cs':List AV}(h0:σ=σ')(h1:cs=cs'):AgX σ cs ps k=AgX σ' cs' ps k:=by cases h0;cases h1;rfl
theorem mxnK_congr {mx:Bool}{k:AV→Prop}{x x':AV}{y y':AV}(h0:x=x')(h1:y=y'):Akh mx x y k=Akh mx x' y' k:=by cases h0;cases h1;rfl
theorem nilcK_congr {n:Bool}{k:AV→Prop}{h h':List Ob}{x x':AV}{y y':AV}(h0:h=h')(h1:x=x')(h2:y=y'):Acy h n x y k=Acy h' n x' y' k:=by cases h0;cases h1;cases h2;rfl
theorem appYK_congr {es:Nat}{k:List AV→List Ob→Prop}{h h':List Ob}{y y':AV}(h0:h=h')(h1:y=y'):appYK h es y k=appYK h' es y' k:=by cases h0;cases h1;rfl
theorem appXK_congr {es:Nat}{k:List AV→List Ob→Prop}{h h':List Ob}{x x':AV}(h0:h=h')(h1:x=x'):Rv h es x k=Rv h' es x' k:=by cases h0;cases h1;rfl
theorem appZ_congr {es:Nat}{bytes:Nat}{k:AV→List Ob→Prop}{x x':AV}{xs xs':List AV}{ys ys':List AV}{h h':List Ob}{r r':Nat}(h0:x=x')(h1:xs=xs')(h2:ys=ys')(h3:h=h')(h4:r=r'):Ag4 x xs ys es bytes h r k=Ag4 x' xs' ys' es bytes h' r' k:=by cases h0;cases h1;cases h2;cases h3;cases h4;rfl
theorem resK_congr {res:List (Nat×Option (Bool×Nat))}{k:List AV→Prop}{σ σ':St}(h0:σ=σ'):Wg σ res k=Wg σ' res k:=by cases h0;rfl
theorem guardS_congr {w:Bool}{A:Prop}{B:Prop}{C:Prop}{x x':Option AV}(h0:x=x'):guardS x w A B C=guardS x' w A B C:=by cases h0;rfl
theorem AaH {k:AV→Prop}{x x':AV}(h0:x=x'):Akp x k=Akp x' k:=by cases h0;rfl
attribute [congr] AaH Xg AaU ZM AcE Aam Aaa AaG Ww Xi WC ZW AcF Ze AbF Z3 Aak ZJ Xf Un updK_congr vcellsK_congr takeCellK_congr takeCellsK_congr takeValK_congr takeValsK_congr mksK_congr outvK_congr outLK_congr headK_congr ldK_congr stoK_congr fadK_congr fldK_congr iaaK_congr ixaK_congr bldK_congr mxnK_congr nilcK_congr appYK_congr appXK_congr appZ_congr resK_congr guardS_congr
def boundK (x:Option AV)(d m:Nat)(k:Nat→Prop)(u:Tg k:=tg):Prop:=match bound x d m with|some i=>k i|none=>False
theorem boundK_none {d m:Nat}{q:Nat→Prop}:boundK none d m q=q d:=(rfl)
theorem boundK_some {κ:IntKind}{i:Int}{d m:Nat}{q:Nat→Prop}:boundK (some (.int κ i)) d m q=((0≤i∧i≤(m:Int))∧q i.toNat):=by
 simp only [boundK,bound];by_cases h:0≤i∧i≤(m:Int)
 ·rw [if_pos h];simp [h]
 ·rw [if_neg h];simp only [h,false_and]
theorem Uw {x x':Option AV}{d d' m m':Nat}{k:Nat→Prop}(h1:x=x')(h2:d=d')(h3:m=m'):boundK x d m k=boundK x' d' m' k:=by cases h1;cases h2;cases h3;rfl
def AiO (h:List Ob)(es:Nat)(x:AV)(lo hi mx:Option AV)(k:AV→Prop)(u:Tg k:=tg):Prop :=
 match x with
 | .lst xs=>match mx with
   | none=>boundK hi xs.length xs.length (fun a=>boundK lo 0 a (fun l=>MH es xs∧k (.lst ((xs.take a).drop l))))
   | some m=>match m with
     | .int _ 0=>boundK hi 1 0 (fun a=>a=0∧boundK lo 0 0 (fun _=>k .emp))
     | _=>False
 | .nils=>match mx with
   | none=>boundK hi 0 0 (fun _=>boundK lo 0 0 (fun _=>k .nils))
   | some m=>match m with
     | .int _ 0=>boundK hi 0 0 (fun _=>boundK lo 0 0 (fun _=>hi.isSome=true∧k .nils))
     | _=>False
 | .emp=>match mx with
   | none=>boundK hi 0 0 (fun _=>boundK lo 0 0 (fun _=>k .emp))
   | some m=>match m with
     | .int _ 0=>boundK hi 0 0 (fun _=>boundK lo 0 0 (fun _=>hi.isSome=true∧k .emp))
     | _=>False
 | .sl r st p ss off len=>Br h r st p ss (fun nd=>Jl nd (fun es' _=>es'=es∧match mx with
   | none=>boundK hi len len (fun a=>boundK lo 0 a (fun l=>k (.sl r st p ss (off+l) (a-l))))
   | some m=>match m with
     | .int _ 0=>boundK hi 1 0 (fun a=>a=0∧boundK lo 0 0 (fun _=>k .emp))
     | _=>False))
 | _=>False
theorem wpI_sli {G:Prg}{b:Nat}{σ:St}{k:AV→St→Prop}{es:Nat}{x:Opd}{lo hi mx:Option Opd}(hm:mx=none) :
 wpI G (.sli es x lo hi mx) b σ k=AiO σ.h es (σ.get x) (lo.map σ.get) (hi.map σ.get) none (fun v=>k v σ):=by
 subst hm;simp only [wpI,ax,AiO,boundK,MH];cases σ.get x<;>first|rfl|skip
 ·simp only [Option.map_none];cases bound (hi.map σ.get) 0 0 with
  | none=>rfl
  | some a=>simp only;cases bound (lo.map σ.get) 0 0<;>rfl
 ·simp only [Option.map_none];cases bound (hi.map σ.get) 0 0 with
  | none=>rfl
  | some a=>simp only;cases bound (lo.map σ.get) 0 0<;>rfl
 ·rename_i xs;simp only;cases bound (hi.map σ.get) xs.length xs.length with
  | none=>rfl
  | some a =>
    simp only;cases bound (lo.map σ.get) 0 a with
    | none=>rfl
    | some l =>
      simp only;by_cases hc:(xs.head?.all fun e:AV=>e.cells.length==es)=true
      ·rw [if_pos hc];simp [hc,Bm]
      ·rw [if_neg hc];simp [hc,Bm]
 ·rename_i r st p ss off len;simp only [Br,Jl];cases node σ.h r st p ss with
  | none=>rfl
  | some nd =>
    cases nd with
    | own es' xs =>
      simp only;by_cases he:es'=es
      ·rw [if_pos he];simp only [he,true_and];cases bound (hi.map σ.get) len len with
       | none=>rfl
       | some a=>simp only;cases bound (lo.map σ.get) 0 a<;>rfl
      ·rw [if_neg he];simp only [he,false_and,Bm]
    | _=>rfl
theorem sliK_lst {h:List Ob}{es:Nat}{xs:List AV}{lo hi:Option AV}{q:AV→Prop}:AiO h es (.lst xs) lo hi none q=boundK hi xs.length xs.length (fun a=>boundK lo 0 a (fun l=>MH es xs∧q (.lst ((xs.take a).drop l)))):=(rfl)
theorem sliK_sl {h:List Ob}{es r st ss off len:Nat}{p:Path}{lo hi:Option AV}{q:AV→Prop}:AiO h es (.sl r st p ss off len) lo hi none q=Br h r st p ss (fun nd=>Jl nd (fun es' _=>es'=es∧boundK hi len len (fun a=>boundK lo 0 a (fun l=>q (.sl r st p ss (off+l) (a-l)))))):=(rfl)
theorem ZY {h h':List Ob}{es:Nat}{x x':AV}{lo lo' hi hi' mx mx':Option AV}{k:AV→Prop}(h1:h=h')(h2:x=x')(h3:lo=lo')(h4:hi=hi')(h5:mx=mx'):AiO h es x lo hi mx k=AiO h' es x' lo' hi' mx' k:=by cases h1;cases h2;cases h3;cases h4;cases h5;rfl
attribute [congr] ZY Uw
theorem AdT {G:Prg}{l:Nat}{xs ys:List AV}{σ τ:St}{K:AV→St→Prop}(hx:xs=ys)(h:σ=τ):WpY G l xs σ K=WpY G l ys τ K:=by rw [h,hx]
attribute [congr] AdT
section
variable {G:Prg}{b:Nat}{σ:St}{k:AV→St→Prop}
theorem wpI_call {f:FuncId}{xs:List Opd}{ss:List Nat}:wpI G (.call f xs ss) b σ k=CO G f (σ.gets xs) b ss σ k:=(rfl)
def Abl (G:Prg)(x:AV)(xs:List AV)(b:Nat)(ss:List Nat)(σ:St)(k:AV→St→Prop)(u:Tg k:=tg):Prop :=
 match x with
 | .fn f cs=>CO G f (xs++cs) b ss σ k
 | .yld l=>WpY G l xs σ k
 | _=>False
theorem wpI_calv {x:Opd}{xs:List Opd}{ss:List Nat}:wpI G (.calv x xs ss) b σ k=Abl G (σ.get x) (σ.gets xs) b ss σ k:=(rfl)
theorem calvK_fn {f:FuncId}{cs xs:List AV}{ss:List Nat}:Abl G (.fn f cs) xs b ss σ k=CO G f (xs++cs) b ss σ k:=(rfl)
theorem calvK_yld {l:Nat}{xs:List AV}{ss:List Nat}:Abl G (.yld l) xs b ss σ k=WpY G l xs σ k:=(rfl)
theorem WZ {x x':AV}{xs xs':List AV}{ss:List Nat}{τ:St}(h1:x=x')(h2:xs=xs')(h3:σ=τ):Abl G x xs b ss σ k=Abl G x' xs' b ss τ k:=by rw [h1,h2,h3]
attribute [congr] WZ
end
theorem get_t {T:List AV}{h:List Ob}{lp:List Lp}{n:Nat}:St.get ⟨T,h,lp⟩ (.t n)=T.getD n .undef:=(rfl)
theorem get_c {σ:St}{v:AV}:σ.get (.c v)=v:=(rfl)
theorem put_some {T:List AV}{h:List Ob}{lp:List Lp}{d:Nat}{v:AV}:St.put ⟨T,h,lp⟩ (some d) v=⟨T.set d v,h,lp⟩:=(rfl)
theorem put_none {T:List AV}{h:List Ob}{lp:List Lp}{v:AV}:St.put ⟨T,h,lp⟩ none v=⟨T,h,lp⟩:=(rfl)
theorem gets_nil {σ:St}:σ.gets [] = []:=(rfl)
theorem gets_cons {σ:St}{x:Opd}{xs:List Opd}:σ.gets (x::xs)=σ.get x::σ.gets xs:=(rfl)
theorem headS_eq {nt:Nat}{L ks:List Nat}{d:AV}{l:List (Nat×AV)}{h:List Ob}{lp:List Lp}:NA (rest nt L) ks 0 ⟨aT d nt l,h,lp⟩=⟨aT .undef nt (L.map fun k=>(k,Kl d k l)),Jk ks 0 h,lp⟩:=by
 simp only [NA,MF aT_len,Fj,Ph]
theorem cells_agg {cs:List AV}:(AV.agg cs).cells=cs:=(rfl)
theorem cells_int {κ:IntKind}{n:Int}:(AV.int κ n).cells = [.int κ n]:=(rfl)
theorem cells_bool {v:Bool}:(AV.bool v).cells = [.bool v]:=(rfl)
theorem cells_str {v:ByteArray}:(AV.str v).cells = [.str v]:=(rfl)
theorem cells_lst {v:List AV}:(AV.lst v).cells = [.lst v]:=(rfl)
theorem cells_nils:AV.nils.cells = [.nils]:=(rfl)
theorem cells_own {es:Nat}{xs:List AV}:(AV.own es xs).cells = [.own es xs]:=(rfl)
theorem cells_ownm {es:List (AV×AV)}:(AV.ownm es).cells = [.ownm es]:=(rfl)
theorem cells_sl {r st:Nat}{p:Path}{ss off len:Nat}:(AV.sl r st p ss off len).cells = [.sl r st p ss off len]:=(rfl)
theorem cells_fn {f:FuncId}{cs:List AV}:(AV.fn f cs).cells = [.fn f cs]:=(rfl)
theorem cells_gone:AV.gone.cells = [.gone]:=(rfl)
theorem T6 {e:AV}(he:e.void=true):e.cells = [e]:=by cases e<;>first|rfl|(simp [AV.void] at he)
theorem cells_cellv {e:AV}{es:Nat}{xs:List AV}(he:e.void=true):(cellv e es xs).cells = [cellv e es xs]:=by
 unfold cellv;split
 ·exact T6 he
 ·rfl
theorem cells_cellg {e:AV}{xs:List AV}(he:e.void=true):(Qd e xs).cells = [Qd e xs]:=by
 unfold Qd;split
 ·exact T6 he
 ·rfl
theorem cells_rowv {e:AV}{es r st:Nat}{xs:List AV}(he:e.void=true):(Mo e es r st xs).cells = [Mo e es r st xs]:=by
 unfold Mo;split
 ·exact T6 he
 ·rfl
theorem void_nils:AV.nils.void=true:=(rfl)
theorem plain_int {κ:IntKind}{n:Int}:(AV.int κ n).plain=true:=(rfl)
theorem plain_bool {v:Bool}:(AV.bool v).plain=true:=(rfl)
theorem plain_str {v:ByteArray}:(AV.str v).plain=true:=(rfl)
theorem plain_lst {v:List AV}:(AV.lst v).plain=true:=(rfl)
theorem plain_nils:AV.nils.plain=true:=(rfl)
theorem one_int {h:List Ob}{κ:IntKind}{n:Int}:QU h (.int κ n)=True:=by simp [QU,LP,AV.plain]
theorem one_bool {h:List Ob}{v:Bool}:QU h (.bool v)=True:=by simp [QU,LP,AV.plain]
theorem one_str {h:List Ob}{v:ByteArray}:QU h (.str v)=True:=by simp [QU,LP,AV.plain]
theorem one_lst {h:List Ob}{v:List AV}:QU h (.lst v)=True:=by simp [QU,LP,AV.plain]
theorem one_nils {h:List Ob}:QU h .nils=True:=by simp [QU,LP,AV.plain]
theorem one_emp {h:List Ob}:QU h .emp=True:=by simp [QU,LP,AV.plain]
theorem one_sl {h:List Ob}{r st:Nat}{p:Path}{ss off len:Nat}:QU h (.sl r st p ss off len)=Br h r st p ss (fun nd=>Jl nd (fun _ _=>True)):=by
 simp only [QU,LP,Br,Jl];cases node h r st p ss with
 | none=>simp
 | some nd=>cases nd<;>simp
theorem one_row {e:AV}{h:List Ob}{es r st:Nat}{xs:List AV}(he:e.void=true)(hr:Uk h[r]? st es xs):QU h (Mo e es r st xs)=True:=by
 unfold Mo;by_cases hx:xs = []
 ·rw [if_pos hx];cases e<;>first|exact one_nils|exact one_emp|(simp [AV.void] at he)
 ·rw [if_neg hx,one_sl];simp only [Br,Lu hr hx,Jl]
theorem isNode_int {κ:IntKind}{n:Int}:isNode (.int κ n)=false:=(rfl)
theorem isNode_bool {v:Bool}:isNode (.bool v)=false:=(rfl)
theorem isNode_lst {v:List AV}:isNode (.lst v)=false:=(rfl)
theorem isNode_nils:isNode .nils=false:=(rfl)
theorem isNode_fn {f:FuncId}{v:List AV}:isNode (.fn f v)=false:=(rfl)
theorem isNode_own {es:Nat}{xs:List AV}:isNode (.own es xs)=true:=(rfl)
theorem isNode_gone:isNode .gone=false:=(rfl)
theorem setCellOf_agg {cs:List AV}{j:Nat}{c:AV}:setCellOf (.agg cs) j c = .agg (cs.set j c):=(rfl)
theorem setCellOf_one' {e:AV}(he:e.cells = [e]){j:Nat}{c:AV}:setCellOf e j c=c:=by
 cases e<;>first|rfl|skip
 rename_i cs;simp only [AV.cells] at he;have h2:=congrArg SizeOf.sizeOf he;simp at h2;omega
theorem setCells_nil {e:AV}{j:Nat}:setCells e j []=e:=(rfl)
theorem setCells_cons {e:AV}{j:Nat}{c:AV}{cs:List AV}:setCells e j (c::cs)=setCells (setCellOf e j c) (j+1) cs:=(rfl)
theorem packV_one {v:AV}:packV [v]=v:=(rfl)
theorem packV_nil:packV [] = .tup []:=(rfl)
theorem packV_two {v w:AV}{vs:List AV}:packV (v::w::vs) = .tup (v::w::vs):=(rfl)
section
variable {B:Nat}{h:List Ob}
theorem treeBL_nil:treeBL B h [] = []:=(rfl)
theorem treeBL_cons {x:AV}{xs:List AV}:treeBL B h (x::xs)=treeB B h x::treeBL B h xs:=(rfl)
theorem treeB_int {κ:IntKind}{n:Int}:treeB B h (.int κ n) = .int κ n:=(rfl)
theorem treeB_bool {v:Bool}:treeB B h (.bool v) = .bool v:=(rfl)
theorem treeB_str {v:ByteArray}:treeB B h (.str v) = .str v:=(rfl)
theorem treeB_lst {v:List AV}:treeB B h (.lst v) = .lst v:=(rfl)
theorem treeB_pfro {v:List AV}:treeB B h (.pfro v) = .pfro v:=(rfl)
theorem treeB_nils:treeB B h .nils = .lst []:=(rfl)
theorem treeB_emp:treeB B h .emp = .lst []:=(rfl)
theorem treeB_agg {v:List AV}:treeB B h (.agg v) = .agg (treeBL B h v):=(rfl)
theorem treeB_fn {f:FuncId}{v:List AV}:treeB B h (.fn f v) = .fn f (treeBL B h v):=(rfl)
def slV (nd:Option AV)(off len:Nat):AV:=match nd with|some (.own _ xs)=>if off+len≤xs.length then .lst (((xs.drop off).take len).map frz) else .undef|_=>.undef
def Aj6 (nd:Option AV)(i j:Nat):AV:=match nd with|some (.own _ xs)=>(match xs[i]? with|some e=>.pfro ((e.cells.drop j).map frz)|none=>.undef)|_=>.undef
theorem treeB_sl {r st:Nat}{p:Path}{ss off len:Nat}:treeB 0 h (.sl r st p ss off len)=slV (node h r st p ss) off len:=by
 simp only [treeB,Nat.not_lt_zero,if_false,AaI,slV];cases node h r st p ss with
 | none=>rfl
 | some nd=>cases nd<;>rfl
theorem treeB_ptr {r st:Nat}{p:Path}{ss i j:Nat}:treeB 0 h (.ptr r st p ss i j)=Aj6 (node h r st p ss) i j:=by
 simp only [treeB,Nat.not_lt_zero,if_false,AaI,Aj6];cases node h r st p ss with
 | none=>rfl
 | some nd=>cases nd<;>rfl
theorem slV_own {es:Nat}{xs:List AV}{off len:Nat}:slV (some (.own es xs)) off len=if off+len≤xs.length then .lst (((xs.drop off).take len).map frz) else .undef:=(rfl)
theorem ptrV_0 {es:Nat}{e:AV}{xs:List AV}{j:Nat}:Aj6 (some (.own es (e::xs))) 0 j = .pfro ((e.cells.drop j).map frz):=(rfl)
theorem treeB_row {e:AV}{es r st:Nat}{xs:List AV}(he:e.void=true)(hr:Uk h[r]? st es xs):treeB 0 h (Mo e es r st xs) = .lst (xs.map frz):=by
 unfold Mo;by_cases hx:xs = []
 ·subst hx;rw [if_pos rfl];cases e<;>first|rfl|(simp [AV.void] at he)
 ·rw [if_neg hx,treeB_sl,Lu hr hx,slV_own];simp
theorem treeB_cell {e:AV}{es r st ss:Nat}{p:Path}{xs:List AV}(he:e.void=true)(hr:KC h r st p ss e es xs):treeB 0 h (On e es r st p ss xs) = .lst (xs.map frz):=by
 unfold On;by_cases hx:xs = []
 ·subst hx;rw [if_pos rfl];cases e<;>first|rfl|(simp [AV.void] at he)
 ·rw [if_neg hx,treeB_sl,HN hr hx,slV_own];simp
end
theorem frz_int {κ:IntKind}{n:Int}:frz (.int κ n) = .int κ n:=(rfl)
theorem frz_bool {v:Bool}:frz (.bool v) = .bool v:=(rfl)
theorem frz_str {v:ByteArray}:frz (.str v) = .str v:=(rfl)
theorem frz_lst {v:List AV}:frz (.lst v) = .lst v:=(rfl)
theorem frz_pfro {v:List AV}:frz (.pfro v) = .pfro v:=(rfl)
theorem frz_nils:frz .nils = .lst []:=(rfl)
theorem frz_agg {v:List AV}:frz (.agg v) = .agg (v.map frz):=by simp [frz,Hm]
theorem frz_own {es:Nat}{v:List AV}:frz (.own es v) = .lst (v.map frz):=by simp [frz,Hm]
theorem frz_fn {f:FuncId}{v:List AV}:frz (.fn f v) = .fn f (v.map frz):=by simp [frz,Hm]
theorem frz_cellv {e:AV}{es:Nat}{xs:List AV}(he:e.void=true):frz (cellv e es xs) = .lst (xs.map frz):=by
 unfold cellv;by_cases hx:xs = []
 ·subst hx;rw [if_pos rfl];cases e<;>first|rfl|(simp [AV.void] at he)
 ·rw [if_neg hx,frz_own]
theorem node_eval {h:List Ob}{r st:Nat}{p:Path}{ss:Nat}:node h r st p ss=match h[r]? with|some o=>if o.st=st∧(p = []∨o.ss=ss) then nav o.c p else none|none=>none:=(rfl)
theorem nav_nil' {x:AV}:nav x []=some x:=by simp [nav]
theorem nav_own {es:Nat}{xs:List AV}{i j:Nat}{p:Path}:nav (.own es xs) ((i,j)::p)=match xs[i]? with|some e=>(match e.cells[j]? with|some c=>nav c p|none=>none)|none=>none:=(rfl)
theorem flats_int {κ:IntKind}{n:Int}:(AV.int κ n).flats=true:=(rfl)
theorem flats_bool {v:Bool}:(AV.bool v).flats=true:=(rfl)
theorem freeL_nil {L:List Nat}{k:Nat}:Jk L k [] = []:=(rfl)
theorem freeL_cons {L:List Nat}{k:Nat}{o:Ob}{t:List Ob}:Jk L k (o::t)=(if L.contains k then { o with c:=.gone } else o)::Jk L (k+1) t:=(rfl)
theorem entry_eq {nt ns:Nat}{xs:List AV}(h:xs.length≤nt):Ae1 nt ns xs = { t:=aT (.tup []) nt (Afw 0 xs),h:=List.replicate ns Jv,lp:=[] }:=by
 unfold Ae1;rw [Jn h]
theorem idxL_nil {k:Nat}:Afw k [] = []:=(rfl)
theorem idxL_cons {k:Nat}{x:AV}{xs:List AV}:Afw k (x::xs)=(k,x)::Afw (k+1) xs:=(rfl)
theorem look_cons {d:AV}{k j:Nat}{v:AV}{l:List (Nat×AV)}:Kl d k ((j,v)::l)=if j=k then v else Kl d k l:=(rfl)
theorem look_nil {d:AV}{k:Nat}:Kl d k []=d:=(rfl)
theorem elK_aT {d:AV}{nt k:Nat}{l:List (Nat×AV)}{q:AV→Prop}(h:k<nt):elK (aT d nt l) k q=q (Kl d k l):=by
 simp only [elK,aT_get h]
theorem isCell_eq {h:List Ob}{r st ss es:Nat}{p:Path}{e:AV}{xs:List AV}:KC h r st p ss e es xs=Br h r st p ss (fun nd=>nd=cellv e es xs):=(rfl)
theorem rowv_app {e:AV}{es r st:Nat}{xs:List AV}{y:AV}:Mo e es r st (xs++[y]) = .sl r st [] 0 0 (xs.length+1):=by simp [Mo]
theorem rowo_app {es:Nat}{xs:List AV}{y:AV}:Pa es (xs++[y]) = .own es (xs++[y]):=by simp [Pa]
theorem cellv_app {e:AV}{es:Nat}{xs:List AV}{y:AV}:cellv e es (xs++[y]) = .own es (xs++[y]):=by simp [cellv]
theorem rowv_nil {e:AV}{es r st:Nat}:Mo e es r st []=e:=by simp [Mo]
theorem rowo_nil {es:Nat}:Pa es [] = .gone:=by simp [Pa]
theorem cellv_nil {e:AV}{es:Nat}:cellv e es []=e:=by simp [cellv]
theorem ownK_cellv {e:AV}{es:Nat}{xs:List AV}{q:Nat→List AV→Prop}(he:e.void=true):Jl (cellv e es xs) q=(xs≠[]∧q es xs):=by
 unfold cellv;by_cases h:xs = []
 ·cases e<;>first|(simp [AV.void] at he;done)|simp [h,Jl]
 ·simp [h,Jl]
theorem iadK_cell {e:AV}{h:List Ob}{es r st ss:Nat}{p:Path}{xs:List AV}{κ:IntKind}{i:Int}{q:AV→Prop}(he:e.void=true)(hr:KC h r st p ss e es xs) :
 Ah0 h es (On e es r st p ss xs) (.int κ i) q=((0≤i∧i<(xs.length:Int))∧q (.ptr r st p ss i.toNat 0)):=by
 unfold On;by_cases hx:xs = []
 ·subst hx;rw [if_pos rfl];have h0:¬(0≤i∧i<(([]:List AV).length:Int)):=by simp
  simp only [h0,false_and];cases e<;>first|(simp [AV.void] at he;done)|rfl
 ·rw [if_neg hx,Adj];simp only [Br,HN hr hx,Jl,true_and,Nat.zero_add]
theorem yob_plain {ys:List AV}{o:Ob}(h:H0 ys=true):yob ys o=o:=by simp [yob,h]
theorem yob_ss {ys:List AV}{o:Ob}:(yob ys o).ss=o.ss:=by unfold yob;split<;>rfl
theorem take_all {xs:List AV}{n:Nat}(h:xs.length=n):xs.take n=xs:=by rw [List.take_of_length_le (by omega)]
theorem allPlain2_nil:H0 []=true:=(rfl)
theorem allPlain2_cons {y:AV}{ys:List AV}:H0 (y::ys)=(y.cells.all AV.plain&&H0 ys):=(rfl)
theorem map_frz {α:Type}{f:α→AV}{l:List α}(h:∀x,frz (f x)=f x):(l.map f).map frz=l.map f:=by
 rw [List.map_map];exact List.map_congr_left (fun x _=>h x)
theorem goneOb_eq:Jv=⟨0,0,.gone⟩:=(rfl)
end Go.Mw
namespace Go.Mw
attribute [go_sem] AiY Ai1 AiG AjJ AhI Aic Ajq AeG Aix YH Acr Aa1
 AhA Agf ZO Ahs Aid Ahx Ahq   Ail Ajp  AaS Ain AiC Aho Ah4 Aig AiH Aiv AhB AeR Aes
 Aja AjH    Ahf AhD  AhX Aij Ajz AjZ   AfK AdM Ago AdI AaE   YW
 Af6 Afb Afr AfY AbG Ahi Aj9 Aj8  Ah9 AgI Adj Ahy AgF
 Xn Zf Wc SS AhP Th Ab8 KT vcellsK_agg takeCellsK_nil takeCellsK_cons takeCellK_sl takeValK_eq takeValsK_nil takeValsK_cons remake_agg
 wpI_box wpI_bsl wpI_mkm mksK_int wpI_mks outvK_own outvK_ownm outLK_nil outLK_cons headK_cons wpI_ld ldK_pfro ldK_ptr wpI_sto stoK_ptr wpI_fad fadK_pfro fadK_ptr wpI_fld fldK_agg wpI_iaa iaaK_pfro iaaK_ptr
 bldK_nil bldK_cons wpI_bld   wpI_nilc   nilcK_lst
 wpI_app    appYK_lst  headOk_cons appXK_nils appXK_emp appXK_sl appZ_cons freeAt_gone  stOf_some ssOf_some isRow_some
  Done_ret resK_nil resK_t resK_c wpI_call wpI_calv calvK_fn calvK_yld get_t get_c put_some put_none gets_nil gets_cons
 cells_agg cells_int cells_bool cells_str cells_lst cells_nils   cells_own cells_ownm cells_sl cells_fn  cells_gone void_nils  plain_int plain_bool plain_str plain_lst plain_nils
 one_int one_bool one_str one_lst one_nils one_emp  one_sl isNode_int isNode_bool  isNode_lst isNode_nils   isNode_fn isNode_own isNode_gone
 setCellOf_agg setCells_nil setCells_cons packV_one packV_nil packV_two treeBL_nil treeBL_cons treeB_int treeB_bool treeB_str treeB_lst treeB_pfro treeB_nils treeB_emp  treeB_agg  treeB_fn   treeB_sl treeB_ptr
 slV_own ptrV_0 frz_int frz_bool frz_str frz_lst frz_pfro frz_nils   frz_agg frz_own frz_fn node_eval nav_nil' nav_own flats_int flats_bool  goneOb_eq
 freeL_nil freeL_cons entry_eq idxL_nil idxL_cons look_cons look_nil aT_len aT_get aT_getD aT_set elK_aT headS_eq
attribute [go_sem]  ownK_cellv  iadK_cell
attribute [go_sem] yob_plain yob_st yob_ss take_all allPlain2_nil allPlain2_cons map_frz
attribute [go_sem]   one_row treeB_row isCell_eq lenlK_cell  treeB_cell appXK_row isLst_row takeCellK_row outvK_cell appXK_cell isLst_cell isNode_cellg takeCellK_cell cells_cellv cells_cellg cells_rowv  frz_cellv appYK_sl appZ_nils  rowv_app rowo_app cellv_app rowv_nil rowo_nil cellv_nil
attribute [go_sem] guardS_T guardT_bool condK_T condT_bool
attribute [go_sem] boundK_none boundK_some wpI_sli sliK_lst sliK_sl headOk_map Option.map_some Option.map_none
attribute [go_sem] vcellsK_one takeCellK_plain remake_one outvK_plain setCellOf_one'
attribute [go_sem] List.set_cons_zero List.set_cons_succ List.getElem?_cons_zero List.getElem?_cons_succ List.getD_cons_zero List.getD_cons_succ List.length_cons List.length_nil List.length_map List.map_cons List.map_nil List.cons_append List.nil_append List.append_nil
 List.take_zero List.take_succ_cons List.drop_zero List.drop_succ_cons List.take_nil List.drop_nil List.any_cons List.any_nil List.all_cons List.all_nil List.length_append List.length_replicate List.contains_cons List.contains_nil
 Nat.zero_add Nat.add_zero if_true if_false true_and and_true false_and and_false eq_self not_true_eq_false not_false_eq_true Bool.false_eq_true Bool.true_eq_false decide_true decide_false Bool.not_true Bool.not_false Bool.or_false Bool.or_true Bool.false_or Bool.true_or Bool.and_true Bool.true_and Bool.and_false Bool.false_and
 false_implies true_implies implies_true forall_const decide_eq_true_eq decide_eq_false_iff_not or_true true_or or_false false_or and_self ite_self Bool.not_eq_true' Bool.not_eq_false' beq_self_eq_true Int.toNat_natCast Int.natCast_nonneg reduceCtorEq ite_true ite_false Nat.le_refl ne_eq
attribute [go_sem] Nat.reduceAdd Nat.reduceMul Nat.reduceSub Nat.reduceEqDiff Nat.reduceLT Nat.reduceLeDiff Nat.reduceBEq Nat.reduceBNe Nat.reduceGT Int.reduceAdd Int.reduceSub Int.reduceMul Int.reduceLT Int.reduceLE Int.reduceEq Int.reduceNeg Int.reduceToNat Int.reduceBEq List.reduceReplicate Int.reducePow Int.cast_ofNat_Int Int.reduceNe Int.reduceBNe
def callX (G:Prg)(n:Nat)(F:IF)(xs:List AV)(fr:Bool)(roots:List Nat)(b:Nat)(ss:List Nat)(h:List Ob):Option (AV×List Ob) :=
 if splits F xs then match runF G n F [.nils] [] [],runF G n F [.ne] [] [] with
  | some ([x],_),some ([y],_)=>if x.void&&y.void then some (if F.fo && !ss.isEmpty then .emp else .lst [],h) else none
  | _,_=>none
 else match runF G n F xs [] [] with
  | some (rs,σ1)=>NQ (F.fo && !ss.isEmpty) 0 σ1.h (if fr||rs.all AV.flats then h else At h roots) b ss rs
  | none=>none
theorem Ny {G:Prg}{n m:Nat}(hn:n≤m){F:IF}{xs:List AV}{fr:Bool}{roots:List Nat}{b:Nat}{ss:List Nat}{h:List Ob}{r:AV×List Ob}(hx:callX G n F xs fr roots b ss h=some r) :
 callX G m F xs fr roots b ss h=some r:=by
 have M:=(monoLe (G:=G) hn).2.2.2.1;unfold callX at hx ⊢;split at hx
 ·rename_i hs;rw [if_pos hs];split at hx
  ·rename_i x σ1 y σ2 e1 e2;rw [M _ _ _ _ _ e1,M _ _ _ _ _ e2];exact hx
  ·cases hx
 ·rename_i hs;rw [if_neg hs];split at hx
  ·rename_i rs σ1 e1;rw [M _ _ _ _ _ e1];exact hx
  ·cases hx
def callT (G:Prg)(f:FuncId)(xs:List AV)(fr:Bool)(roots:List Nat)(b:Nat)(ss:List Nat)(σ:St)(k:AV→St→Prop)(u:Tg k:=tg):Prop :=
 ∃F n v h,G f=some F∧xs.length=F.np∧callX G n F xs fr roots b ss σ.h=some (v,h)∧k v { σ with h }
theorem XW {G:Prg}{f:FuncId}{b:Nat}{ss:List Nat}{k:AV→St→Prop}{xs xs':List AV}{fr fr':Bool}{roots roots':List Nat}{σ σ':St}(h1:xs=xs')(h2:fr=fr')(h3:roots=roots')(h4:σ=σ') :
 callT G f xs fr roots b ss σ k=callT G f xs' fr' roots' b ss σ' k:=by rw [h1,h2,h3,h4]
attribute [congr] XW
def PureF (G:Prg)(f:FuncId):Prop:=∃F,G f=some F∧F.pure=true
theorem Nd {G:Prg}{f:FuncId}{ys:List AV}{b:Nat}{ss:List Nat}{σ:St}{k:AV→St→Prop}(hp:PureF G f) :
 CO G f ys b ss σ k=callT G f (treeBL 0 σ.h ys) (ys.all AV.free) (rootsL ys) b ss σ k:=by
 obtain ⟨F,hF,hpu⟩:=hp;refine propext ⟨fun ⟨n,v,σ',h,q⟩=>?_,fun ⟨F',n,v,h,e1,e2,e3,q⟩=>?_⟩
 ·cases n with
  | zero=>simp [callF] at h
  | succ n =>
    rw [callF,hF] at h;simp only [hpu,if_true] at h;split at h
    ·rename_i hl;refine ⟨F,n,v,σ'.h,hF,by rw [NZ];exact hl,?_,?_⟩
     ·unfold callX;split at h
      ·rename_i hs;rw [if_pos hs];split at h
       ·rename_i x1 s1 x2 s2 e1 e2;rw [e1,e2];simp only at h ⊢;split at h
        ·rename_i hv;rw [if_pos hv];simp only [Option.some.injEq,Prod.mk.injEq] at h;obtain ⟨rfl,rfl⟩:=h;rfl
        ·cases h
       ·cases h
      ·rename_i hs;rw [if_neg hs];split at h
       ·rename_i rs s1 e1;rw [e1];simp only at h ⊢;split at h
        ·rename_i v1 h1 hg;simp only [Option.some.injEq,Prod.mk.injEq] at h;obtain ⟨rfl,rfl⟩:=h;exact hg
        ·cases h
       ·cases h
     ·have:({ σ with h:=σ'.h }:St)=σ':=by
       split at h
       ·split at h
        ·split at h
         ·simp only [Option.some.injEq,Prod.mk.injEq] at h;obtain ⟨rfl,rfl⟩:=h;rfl
         ·cases h
        ·cases h
       ·split at h
        ·split at h
         ·simp only [Option.some.injEq,Prod.mk.injEq] at h;obtain ⟨rfl,rfl⟩:=h;rfl
         ·cases h
        ·cases h
      rw [this];exact q
    ·cases h
 ·rw [hF] at e1;cases e1;rw [NZ] at e2;refine ⟨n+1,v,{ σ with h },?_,q⟩;rw [callF,hF];simp only [hpu,if_true,e2];unfold callX at e3;split at e3
  ·rename_i hs;rw [if_pos hs];split at e3
   ·rename_i x1 s1 x2 s2 e4 e5;rw [e4,e5];simp only;split at e3
    ·rename_i hv;rw [if_pos hv];simp only [Option.some.injEq,Prod.mk.injEq] at e3;obtain ⟨rfl,rfl⟩:=e3;rfl
    ·cases e3
   ·cases e3
  ·rename_i hs;rw [if_neg hs];split at e3
   ·rename_i rs s1 e4;rw [e4];simp only;rw [e3]
   ·cases e3
theorem callT_of {G:Prg}{f:FuncId}{xs:List AV}{fr:Bool}{roots:List Nat}{b:Nat}{ss:List Nat}{σ:St}{k:AV→St→Prop}{F:IF}(hF:G f=some F)(hl:xs.length=F.np){n:Nat}{v:AV}{h:List Ob}
 (hx:callX G n F xs fr roots b ss σ.h=some (v,h)):callT G f xs fr roots b ss σ k=k v { σ with h }:=by
 refine propext ⟨fun ⟨F',m,v',h',e1,e2,e3,q⟩=>?_,fun q=>⟨F,n,v,h,hF,hl,hx,q⟩⟩;rw [hF] at e1;cases e1;have h1:=Ny (Nat.le_max_left n m) hx;have h2:=Ny (Nat.le_max_right n m) e3;rw [h1] at h2;cases h2;exact q
theorem FnT.rule {G:Prg}{f:FuncId}{xs:List AV}{r:AV}(h:FnT G f xs r){fr:Bool}{roots:List Nat}{b:Nat}{ss:List Nat}{σ:St}{k:AV→St→Prop}:callT G f xs fr roots b ss σ k=k r σ:=by
 obtain ⟨F,n,rs,σ1,hf,h1,h2,h3,h4,hr,hR,hfl⟩:=h;refine callT_of (n:=n) (h:=σ.h) hf h1 ?_;unfold callX;rw [h4];simp only [Bool.false_eq_true,if_false,hr,hfl,Bool.or_true,if_true,NQ,h3,Bool.false_and,hR]
theorem Fn.rule {G:Prg}{f:FuncId}{xs:List AV}{r:AV}(h:Fn G f xs r){roots:List Nat}{b:Nat}{ss:List Nat}{σ:St}{k:AV→St→Prop}:callT G f xs true roots b ss σ k=k r σ:=by
 obtain ⟨F,n,rs,σ1,hf,h1,h2,h3,h4,hr,hR⟩:=h;refine callT_of (n:=n) (h:=σ.h) hf h1 ?_;unfold callX;rw [h4];simp only [Bool.false_eq_true,if_false,hr,Bool.true_or,if_true,NQ,h3,Bool.false_and,hR]
structure FnS (G:Prg)(f:FuncId)(xs:List AV)(r:AV):Prop where
 ok:∃F n,G f=some F∧xs.length=F.np∧F.pure=true∧callX G n F xs true [] 0 [] []=some (r,[])
theorem FnS.rule {G:Prg}{f:FuncId}{xs:List AV}{r:AV}(h:FnS G f xs r){roots:List Nat}{b:Nat}{σ:St}{k:AV→St→Prop}:callT G f xs true roots b [] σ k=k r σ:=by
 obtain ⟨F,n,hf,h1,h2,hx⟩:=h;refine callT_of (n:=n) (h:=σ.h) hf h1 ?_;unfold callX at hx ⊢;split at hx
 ·rename_i hs;rw [if_pos hs];split at hx
  ·rename_i x1 s1 x2 s2 e4 e5;split at hx
   ·rename_i hv;rw [if_pos hv];simp only [Option.some.injEq,Prod.mk.injEq] at hx;rw [hx.1]
   ·cases hx
  ·cases hx
 ·rename_i hs;rw [if_neg hs];split at hx
  ·rename_i rs s1 e4;simp only [List.isEmpty_nil,Bool.not_true,Bool.and_false,NQ,Bool.true_or,if_true,Option.some.injEq,Prod.mk.injEq] at hx ⊢;exact ⟨hx.1,trivial⟩
  ·cases hx
theorem free_int {κ:IntKind}{n:Int}:(AV.int κ n).free=true:=(rfl)
theorem Ab2 {v:Bool}:(AV.bool v).free=true:=(rfl)
theorem AgD {v:ByteArray}:(AV.str v).free=true:=(rfl)
theorem Afs {v:List AV}:(AV.lst v).free=true:=(rfl)
theorem Agr:AV.emp.free=true:=(rfl)
theorem AdJ {v:List AV}:(AV.pfro v).free=true:=(rfl)
theorem Ahh {r st:Nat}{p:Path}{ss off len:Nat}:(AV.sl r st p ss off len).free=false:=(rfl)
theorem Aiu {f:FuncId}{v:List AV}:(AV.fn f v).free=v.all AV.free1:=(rfl)
def Aeb (c:AV):Bool:=match c with | .fn _ ds=>ds.all AV.free1|c=>c.free1
theorem Agx {v:List AV}:(AV.agg v).free=v.all Aeb:=(rfl)
theorem Agb {f:FuncId}{v:List AV}:Aeb (.fn f v)=v.all AV.free1:=(rfl)
theorem AbV {κ:IntKind}{n:Int}:Aeb (.int κ n)=true:=(rfl)
theorem Adq {v:List AV}:Aeb (.lst v)=true:=(rfl)
theorem Aac:Aeb .nils=true:=(rfl)
theorem Aaq {v:List AV}:(AV.pfro v).free1=true:=(rfl)
theorem Ab9 {r st:Nat}{p:Path}{ss i j:Nat}:(AV.ptr r st p ss i j).free1=false:=(rfl)
attribute [go_sem] free_int Ab2 AgD Afs  Agr AdJ Ahh  Aiu Agx Agb AbV   Adq Aac        Aaq Ab9
structure FnQ (G:Prg)(f:FuncId)(xs:List AV)(R:List AV→List Ob→Prop):Prop where
 ok:∃F n rs σ1,G f=some F∧xs.length=F.np∧F.pure=true∧splits F xs=false∧runF G n F xs [] []=some (rs,σ1)∧R rs σ1.h∧F.fo=true
theorem FnQ.mk' {G:Prg}{f:FuncId}{xs:List AV}{R:List AV→List Ob→Prop}{np nt ns:Nat}{c:C}{res:List (Nat×Option (Bool×Nat))}{sp:Bool}(hf:G f=some ⟨np,nt,ns,c,res,true,true,sp⟩)
 (h1:xs.length=np) (h4:splits ⟨np,nt,ns,c,res,true,true,sp⟩ xs=false) (h:Wp G c 0 (Ae1 nt ns xs) (Ajn res R)):FnQ G f xs R:=by
 obtain ⟨n,e,σ1,hx,hd⟩:=h;have hx':evC G n c ([]:List Ob).length { t:=xs++List.replicate (nt-np) (.tup []),h:=[]++List.replicate ns Jv,lp:=[] }=some (e,σ1):=by rw [←h1];exact hx
 unfold Ajn at hd;cases e with
 | ext i=>exact hd.elim
 | nrm =>
   simp only at hd;cases hr:resT σ1 res with
   | none=>simp [hr] at hd
   | some rs=>simp only [hr] at hd;exact ⟨_,n+1,rs,σ1,hf,h1,rfl,h4,by rw [runF,hx'];simp only [hr],hd,rfl⟩
 | ret =>
   simp only at hd;cases hr:resT σ1 res with
   | none=>simp [hr] at hd
   | some rs=>simp only [hr] at hd;exact ⟨_,n+1,rs,σ1,hf,h1,rfl,h4,by rw [runF,hx'];simp only [hr],hd,rfl⟩
theorem FnQ.mono {G:Prg}{f:FuncId}{xs:List AV}{R S:List AV→List Ob→Prop}(h:FnQ G f xs R)(hs:∀rs h,R rs h→S rs h):FnQ G f xs S:=by
 obtain ⟨F,n,rs,σ1,hf,h1,h2,h4,hr,hR,h3⟩:=h;exact ⟨F,n,rs,σ1,hf,h1,h2,h4,hr,hs _ _ hR,h3⟩
theorem FnQ.rule {G:Prg}{f:FuncId}{xs:List AV}{r:AV}(h:FnQ G f xs fun rs h=>packV (treeBL 0 h rs)=r){roots:List Nat}{b:Nat}{σ:St}{k:AV→St→Prop}:callT G f xs true roots b [] σ k=k r σ:=by
 obtain ⟨F,n,rs,σ1,hf,h1,h2,h4,hr,hR,h3⟩:=h;refine callT_of (n:=n) (h:=σ.h) hf h1 ?_;unfold callX;rw [h4];simp only [Bool.false_eq_true,if_false,hr,Bool.true_or,if_true,NQ,List.isEmpty_nil,Bool.not_true,Bool.and_false,hR]
structure FnO (G:Prg)(f:FuncId)(xs:List AV)(es:Nat)(ys:List AV):Prop where
 ok:∃F n r st p ss σ1,G f=some F∧xs.length=F.np∧F.pure=true∧F.fo=true∧splits F xs=false∧runF G n F xs [] []=some ([.sl r st p ss 0 ys.length],σ1)∧node σ1.h r st p ss=some (.own es ys)
 pl:ys.all (fun e:AV=>e.cells.all AV.plain)=true
theorem FnO.rule {G:Prg}{f:FuncId}{xs:List AV}{es:Nat}{ys:List AV}(h:FnO G f xs es ys){fr:Bool}{roots:List Nat}{b s:Nat}{σ:St}{k:AV→St→Prop} :
 callT G f xs fr roots b [s] σ k=OC (if fr then σ.h else At σ.h roots) (b+s) (.own es ys) (fun h st=>k (.sl (b+s) st [] 0 0 ys.length) { σ with h }):=by
 obtain ⟨⟨F,n,r,st,p0,sb,σ1,hf,h1,h2,h3,h4,hr,hn⟩,hp⟩:=h;have hfl:([AV.sl r st p0 sb 0 ys.length]).all AV.flats=false:=rfl;unfold OC;cases hnew:newOb (if fr then σ.h else At σ.h roots) (b+s) (.own es ys) with
 | some p =>
   obtain ⟨h',st'⟩:=p;refine callT_of (n:=n) (h:=h') hf h1 ?_;unfold callX;rw [h4];simp only [Bool.false_eq_true,if_false,hr,hfl,Bool.or_false,NQ,h3,List.isEmpty_cons,Bool.not_false,Bool.true_and,Nat.zero_le,if_true,hn,hp,and_self,hnew]
 | none =>
   refine propext ⟨fun ⟨F',m,v,h',e1,e2,e3,q⟩=>?_,False.elim⟩;rw [hf] at e1;cases e1;have e4:=Ny (Nat.le_max_right n m) e3;unfold callX at e4;rw [h4] at e4;have hr2:=((monoLe (G:=G) (Nat.le_max_left n m)).2.2.2.1 _ _ _ _ _ hr);simp only [Bool.false_eq_true,if_false,hr2,hfl,Bool.or_false,NQ,h3,List.isEmpty_cons,Bool.not_false,Bool.true_and,Nat.zero_le,if_true,hn,hp,and_self,hnew,reduceCtorEq] at e4
theorem FnQ.own1 {G:Prg}{f:FuncId}{xs:List AV}{es:Nat}{ys:List AV}(h:FnQ G f xs fun rs h=>∃r st p ss,rs = [.sl r st p ss 0 ys.length]∧node h r st p ss=some (.own es ys))(hp:ys.all (fun e:AV=>e.cells.all AV.plain)=true):FnO G f xs es ys:=by
 obtain ⟨F,m,rs,σ1,hf,h1,h2,h4,hr,⟨r,st,p,ss,rfl,hn⟩,h3⟩:=h;exact ⟨⟨F,m,r,st,p,ss,σ1,hf,h1,h2,h3,h4,hr,hn⟩,hp⟩
end Go.Mw
