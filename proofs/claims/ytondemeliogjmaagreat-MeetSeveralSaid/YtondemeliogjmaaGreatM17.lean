/- How simp steps through code: the set. -/
import Derived.Test.YtondemeliogjmaaGreatM16
set_option linter.unusedVariables false
set_option linter.unusedSimpArgs false
namespace Go.Mw
attribute [go_sem] wp_seq wp_reg wp_drw0 wp_blk wp_skip wp_exit wp_ret wp_condC wpO_nil wpO_cons wpO_consS guardS_tup
 wpI_mov wpI_pick pickK_bool wpI_bin bin_add bin_sub bin_mul bin_quo  bin_and bin_or bin_xor bin_andNot bin_shl bin_shr bin_eql bin_neq bin_lss bin_leq bin_gtr bin_geq bin_seql bin_sneq
  wpI_un un_not  wpI_cvi cviK_int wpI_mkf wpI_eqa  eqaK_i2 wpI_ext extK_0 extK_s   wpI_lens lensK_str wpI_lenl lenlK_lst lenlK_nils lenlK_emp  lenlK_sl
 ownK_own obK_some nodeK_eq navK_nil navK_cons elK_map elK_0 elK_s  wpI_iad iadK_lst iadK_sl wpI_idx idxK_str
 newK_eq goneK_gone allPlain_nil allPlain_cons wpI_alc updK_nil updK_cons setObK_eq vcellsK_agg takeCellsK_nil takeCellsK_cons takeCellK_sl takeValK_eq takeValsK_nil takeValsK_cons remake_agg
 wpI_box wpI_bsl wpI_mkm mksK_int wpI_mks outvK_own outvK_ownm outLK_nil outLK_cons headK_cons wpI_ld ldK_pfro ldK_ptr wpI_sto stoK_ptr wpI_fad fadK_pfro fadK_ptr   wpI_iaa  iaaK_ptr
 bldK_nil bldK_cons wpI_bld   wpI_nilc   nilcK_lst
 wpI_app appYK_nils   appYK_lst headOk_nil headOk_cons appXK_nils appXK_emp appXK_sl appZ_cons freeAt_gone  stOf_some ssOf_some isRow_some
  Done_ret resK_nil resK_t resK_c wpI_call wpI_calv calvK_fn calvK_yld get_t get_c put_some put_none gets_nil gets_cons
 cells_agg cells_int cells_bool cells_str cells_lst cells_nils   cells_own cells_ownm cells_sl cells_fn  cells_gone void_nils  plain_int plain_bool plain_str plain_lst plain_nils
 one_int one_bool one_str one_lst one_nils one_emp  one_sl isNode_int isNode_bool  isNode_lst isNode_nils   isNode_fn isNode_own isNode_gone
 setCellOf_agg setCells_nil setCells_cons packV_one packV_nil packV_two treeBL_nil treeBL_cons treeB_int treeB_bool treeB_str treeB_lst treeB_pfro treeB_nils treeB_emp  treeB_agg  treeB_fn   treeB_sl treeB_ptr
 slV_own ptrV_0 frz_int frz_bool frz_str frz_lst  frz_nils   frz_agg frz_own frz_fn node_eval nav_nil' nav_own flats_int flats_bool  goneOb_eq
 freeL_nil freeL_cons entry_eq idxL_nil idxL_cons look_cons look_nil aT_len aT_get aT_getD aT_set elK_aT headS_eq
attribute [go_sem]  ownK_cellv  iadK_cell
attribute [go_sem] yob_plain yob_st yob_ss take_all allPlain2_nil allPlain2_cons map_frz
attribute [go_sem]   one_row treeB_row isCell_eq lenlK_cell  treeB_cell appXK_row isLst_row takeCellK_row outvK_cell appXK_cell isLst_cell isNode_cellg takeCellK_cell cells_cellv cells_cellg cells_rowv  frz_cellv appYK_sl appZ_nils appZ_emp rowv_app rowo_app cellv_app rowv_nil rowo_nil cellv_nil
attribute [go_sem] guardS_T guardT_bool condK_T condT_bool
attribute [go_sem] boundK_none boundK_some wpI_sli sliK_lst sliK_sl headOk_map Option.map_some Option.map_none
attribute [go_sem] vcellsK_one takeCellK_plain remake_one outvK_plain setCellOf_one'
attribute [go_sem] List.set_cons_zero List.set_cons_succ List.getElem?_cons_zero List.getElem?_cons_succ List.getD_cons_zero List.getD_cons_succ List.length_cons List.length_nil List.length_map List.map_cons List.map_nil List.cons_append List.nil_append List.append_nil
 List.take_zero List.take_succ_cons List.drop_zero List.drop_succ_cons List.take_nil List.drop_nil List.any_cons List.any_nil List.all_cons List.all_nil List.length_append List.length_replicate List.contains_cons List.contains_nil
 Nat.zero_add Nat.add_zero if_true if_false true_and and_true false_and and_false eq_self not_true_eq_false not_false_eq_true Bool.false_eq_true Bool.true_eq_false decide_true decide_false Bool.not_true Bool.not_false Bool.or_false Bool.or_true Bool.false_or Bool.true_or Bool.and_true Bool.true_and Bool.and_false Bool.false_and
 false_implies true_implies implies_true forall_const decide_eq_true_eq decide_eq_false_iff_not or_true true_or or_false false_or and_self ite_self Bool.not_eq_true' Bool.not_eq_false' beq_self_eq_true Int.toNat_natCast Int.natCast_nonneg reduceCtorEq ite_true ite_false Nat.le_refl ne_eq
attribute [go_sem] Nat.reduceAdd Nat.reduceMul Nat.reduceSub Nat.reduceEqDiff Nat.reduceLT Nat.reduceLeDiff Nat.reduceBEq Nat.reduceBNe Nat.reduceGT Int.reduceAdd Int.reduceSub Int.reduceMul Int.reduceLT Int.reduceLE Int.reduceEq Int.reduceNeg Int.reduceToNat Int.reduceBEq List.reduceReplicate Int.reducePow Int.cast_ofNat_Int Int.reduceNe Int.reduceBNe
def callX (G:Prg)(n:Nat)(F:IF)(xs:List AV)(fr:Bool)(roots:List Nat)(b:Nat)(ss:List Nat)(h:List Ob):Option (AV×List Ob) :=
 if splits F xs then match runF G n F [.nils] [] [],runF G n F [.ne] [] [] with
  | some ([x],_),some ([y],_)=>if x.void&&y.void then some (if F.fo && !ss.isEmpty then .emp else .lst [],h) else none
  | _,_=>none
 else match runF G n F xs [] [] with
  | some (rs,σ1)=>Mf (F.fo && !ss.isEmpty) 0 σ1.h (if fr||rs.all AV.flats then h else Al h roots) b ss rs
  | none=>none
theorem Lw {G:Prg}{n m:Nat}(hn:n≤m){F:IF}{xs:List AV}{fr:Bool}{roots:List Nat}{b:Nat}{ss:List Nat}{h:List Ob}{r:AV×List Ob}(hx:callX G n F xs fr roots b ss h=some r) :
 callX G m F xs fr roots b ss h=some r:=by
 have M:=(monoLe (G:=G) hn).2.2.2.1;unfold callX at hx ⊢;split at hx
 ·rename_i hs;rw [if_pos hs];split at hx
  ·rename_i x σ1 y σ2 e1 e2;rw [M _ _ _ _ _ e1,M _ _ _ _ _ e2];exact hx
  ·cases hx
 ·rename_i hs;rw [if_neg hs];split at hx
  ·rename_i rs σ1 e1;rw [M _ _ _ _ _ e1];exact hx
  ·cases hx
def callT (G:Prg)(f:FuncId)(xs:List AV)(fr:Bool)(roots:List Nat)(b:Nat)(ss:List Nat)(σ:St)(k:AV→St→Prop)(u:Tg k:=tg):Prop :=
 ∃F n v h,G f=some F∧xs.length=F.np∧callX G n F xs fr roots b ss σ.h=some (v,h)∧k v { σ with h }
theorem V4 {G:Prg}{f:FuncId}{b:Nat}{ss:List Nat}{k:AV→St→Prop}{xs xs':List AV}{fr fr':Bool}{roots roots':List Nat}{σ σ':St}(h1:xs=xs')(h2:fr=fr')(h3:roots=roots')(h4:σ=σ') :
 callT G f xs fr roots b ss σ k=callT G f xs' fr' roots' b ss σ' k:=by rw [h1,h2,h3,h4]
attribute [congr] V4
def PureF (G:Prg)(f:FuncId):Prop:=∃F,G f=some F∧F.pure=true
theorem OE {G:Prg}{f:FuncId}{ys:List AV}{b:Nat}{ss:List Nat}{σ:St}{k:AV→St→Prop}(hp:PureF G f) :
 Bc G f ys b ss σ k=callT G f (treeBL 0 σ.h ys) (ys.all AV.free) (rootsL ys) b ss σ k:=by
 obtain ⟨F,hF,hpu⟩:=hp;refine propext ⟨fun ⟨n,v,σ',h,q⟩=>?_,fun ⟨F',n,v,h,e1,e2,e3,q⟩=>?_⟩
 ·cases n with
  | zero=>simp [callF] at h
  | succ n =>
    rw [callF,hF] at h;simp only [hpu,if_true] at h;split at h
    ·rename_i hl;refine ⟨F,n,v,σ'.h,hF,by rw [M6];exact hl,?_,?_⟩
     ·unfold callX;split at h
      ·rename_i hs;rw [if_pos hs];split at h
       ·rename_i x1 s1 x2 s2 e1 e2;rw [e1,e2];simp only at h ⊢;split at h
        ·rename_i hv;rw [if_pos hv];simp only [Option.some.injEq,Prod.mk.injEq] at h;obtain ⟨rfl,rfl⟩:=h;rfl
        ·cases h
       ·cases h
      ·rename_i hs;rw [if_neg hs];split at h
       ·rename_i rs s1 e1;rw [e1];simp only at h ⊢;split at h
        ·rename_i v1 h1 hg;simp only [Option.some.injEq,Prod.mk.injEq] at h;obtain ⟨rfl,rfl⟩:=h;exact hg
        ·cases h
       ·cases h
     ·have:({ σ with h:=σ'.h }:St)=σ':=by
       split at h
       ·split at h
        ·split at h
         ·simp only [Option.some.injEq,Prod.mk.injEq] at h;obtain ⟨rfl,rfl⟩:=h;rfl
         ·cases h
        ·cases h
       ·split at h
        ·split at h
         ·simp only [Option.some.injEq,Prod.mk.injEq] at h;obtain ⟨rfl,rfl⟩:=h;rfl
         ·cases h
        ·cases h
      rw [this];exact q
    ·cases h
 ·rw [hF] at e1;cases e1;rw [M6] at e2;refine ⟨n+1,v,{ σ with h },?_,q⟩;rw [callF,hF];simp only [hpu,if_true,e2];unfold callX at e3;split at e3
  ·rename_i hs;rw [if_pos hs];split at e3
   ·rename_i x1 s1 x2 s2 e4 e5;rw [e4,e5];simp only;split at e3
    ·rename_i hv;rw [if_pos hv];simp only [Option.some.injEq,Prod.mk.injEq] at e3;obtain ⟨rfl,rfl⟩:=e3;rfl
    ·cases e3
   ·cases e3
  ·rename_i hs;rw [if_neg hs];split at e3
   ·rename_i rs s1 e4;rw [e4];simp only;rw [e3]
   ·cases e3
theorem callT_of {G:Prg}{f:FuncId}{xs:List AV}{fr:Bool}{roots:List Nat}{b:Nat}{ss:List Nat}{σ:St}{k:AV→St→Prop}{F:IF}(hF:G f=some F)(hl:xs.length=F.np){n:Nat}{v:AV}{h:List Ob}
 (hx:callX G n F xs fr roots b ss σ.h=some (v,h)):callT G f xs fr roots b ss σ k=k v { σ with h }:=by
 refine propext ⟨fun ⟨F',m,v',h',e1,e2,e3,q⟩=>?_,fun q=>⟨F,n,v,h,hF,hl,hx,q⟩⟩;rw [hF] at e1;cases e1;have h1:=Lw (Nat.le_max_left n m) hx;have h2:=Lw (Nat.le_max_right n m) e3;rw [h1] at h2;cases h2;exact q
theorem FnT.rule {G:Prg}{f:FuncId}{xs:List AV}{r:AV}(h:FnT G f xs r){fr:Bool}{roots:List Nat}{b:Nat}{ss:List Nat}{σ:St}{k:AV→St→Prop}:callT G f xs fr roots b ss σ k=k r σ:=by
 obtain ⟨F,n,rs,σ1,hf,h1,h2,h3,h4,hr,hR,hfl⟩:=h;refine callT_of (n:=n) (h:=σ.h) hf h1 ?_;unfold callX;rw [h4];simp only [Bool.false_eq_true,if_false,hr,hfl,Bool.or_true,if_true,Mf,h3,Bool.false_and,hR]
theorem Fn.rule {G:Prg}{f:FuncId}{xs:List AV}{r:AV}(h:Fn G f xs r){roots:List Nat}{b:Nat}{ss:List Nat}{σ:St}{k:AV→St→Prop}:callT G f xs true roots b ss σ k=k r σ:=by
 obtain ⟨F,n,rs,σ1,hf,h1,h2,h3,h4,hr,hR⟩:=h;refine callT_of (n:=n) (h:=σ.h) hf h1 ?_;unfold callX;rw [h4];simp only [Bool.false_eq_true,if_false,hr,Bool.true_or,if_true,Mf,h3,Bool.false_and,hR]
theorem Fn.rule2 {G:Prg}{f:FuncId}{xs:List AV}{r:AV}(h:Fn G f xs r){roots:List Nat}{b:Nat}{ss:List Nat}{σ:St}{k:AV→St→Prop}(h1:k r σ)(h2:k r { σ with h:=Al σ.h roots }):callT G f xs false roots b ss σ k:=by
 obtain ⟨F,n,rs,σ1,hf,h1',h2',h3,h4,hr,hR⟩:=h;refine ⟨F,n,r,if rs.all AV.flats then σ.h else Al σ.h roots,hf,h1',?_,?_⟩
 ·unfold callX;rw [h4];simp only [Bool.false_eq_true,if_false,hr,Bool.false_or,Mf,h3,Bool.false_and,hR]
 ·split
  ·exact h1
  ·exact h2
structure FnS (G:Prg)(f:FuncId)(xs:List AV)(r:AV):Prop where
 ok:∃F n,G f=some F∧xs.length=F.np∧F.pure=true∧callX G n F xs true [] 0 [] []=some (r,[])
theorem FnS.rule {G:Prg}{f:FuncId}{xs:List AV}{r:AV}(h:FnS G f xs r){roots:List Nat}{b:Nat}{σ:St}{k:AV→St→Prop}:callT G f xs true roots b [] σ k=k r σ:=by
 obtain ⟨F,n,hf,h1,h2,hx⟩:=h;refine callT_of (n:=n) (h:=σ.h) hf h1 ?_;unfold callX at hx ⊢;split at hx
 ·rename_i hs;rw [if_pos hs];split at hx
  ·rename_i x1 s1 x2 s2 e4 e5;split at hx
   ·rename_i hv;rw [if_pos hv];simp only [Option.some.injEq,Prod.mk.injEq] at hx;rw [hx.1]
   ·cases hx
  ·cases hx
 ·rename_i hs;rw [if_neg hs];split at hx
  ·rename_i rs s1 e4;simp only [List.isEmpty_nil,Bool.not_true,Bool.and_false,Mf,Bool.true_or,if_true,Option.some.injEq,Prod.mk.injEq] at hx ⊢;exact ⟨hx.1,trivial⟩
  ·cases hx
theorem free_int {κ:IntKind}{n:Int}:(AV.int κ n).free=true:=(rfl)
theorem AcD {v:Bool}:(AV.bool v).free=true:=(rfl)
theorem AeR {v:ByteArray}:(AV.str v).free=true:=(rfl)
theorem AdG {v:List AV}:(AV.lst v).free=true:=(rfl)
theorem Aga {r st:Nat}{p:Path}{ss off len:Nat}:(AV.sl r st p ss off len).free=false:=(rfl)
theorem Agi {f:FuncId}{v:List AV}:(AV.fn f v).free=v.all AV.free1:=(rfl)
def Adf (c:AV):Bool:=match c with | .fn _ ds=>ds.all AV.free1|c=>c.free1
theorem Ady {v:List AV}:(AV.agg v).free=v.all Adf:=(rfl)
theorem AdQ {f:FuncId}{v:List AV}:Adf (.fn f v)=v.all AV.free1:=(rfl)
theorem AaG {κ:IntKind}{n:Int}:Adf (.int κ n)=true:=(rfl)
theorem Acn {v:List AV}:Adf (.lst v)=true:=(rfl)
theorem YX:Adf .nils=true:=(rfl)
theorem YP {v:List AV}:(AV.pfro v).free1=true:=(rfl)
theorem Add {r st:Nat}{p:Path}{ss i j:Nat}:(AV.ptr r st p ss i j).free1=false:=(rfl)
attribute [go_sem] free_int AcD AeR AdG    Aga  Agi Ady AdQ AaG   Acn YX        YP Add
structure FnQ (G:Prg)(f:FuncId)(xs:List AV)(R:List AV→List Ob→Prop):Prop where
 ok:∃F n rs σ1,G f=some F∧xs.length=F.np∧F.pure=true∧splits F xs=false∧runF G n F xs [] []=some (rs,σ1)∧R rs σ1.h∧F.fo=true
theorem FnQ.mk' {G:Prg}{f:FuncId}{xs:List AV}{R:List AV→List Ob→Prop}{np nt ns:Nat}{c:C}{res:List (Nat×Option (Bool×Nat))}{sp:Bool}(hf:G f=some ⟨np,nt,ns,c,res,true,true,sp⟩)
 (h1:xs.length=np) (h4:splits ⟨np,nt,ns,c,res,true,true,sp⟩ xs=false) (h:Wp G c 0 (Ad3 nt ns xs) (Aid res R)):FnQ G f xs R:=by
 obtain ⟨n,e,σ1,hx,hd⟩:=h;have hx':evC G n c ([]:List Ob).length { t:=xs++List.replicate (nt-np) (.tup []),h:=[]++List.replicate ns E4,lp:=[] }=some (e,σ1):=by rw [←h1];exact hx
 unfold Aid at hd;cases e with
 | ext i=>exact hd.elim
 | nrm =>
   simp only at hd;cases hr:resT σ1 res with
   | none=>simp [hr] at hd
   | some rs=>simp only [hr] at hd;exact ⟨_,n+1,rs,σ1,hf,h1,rfl,h4,by rw [runF,hx'];simp only [hr],hd,rfl⟩
 | ret =>
   simp only at hd;cases hr:resT σ1 res with
   | none=>simp [hr] at hd
   | some rs=>simp only [hr] at hd;exact ⟨_,n+1,rs,σ1,hf,h1,rfl,h4,by rw [runF,hx'];simp only [hr],hd,rfl⟩
theorem FnQ.mono {G:Prg}{f:FuncId}{xs:List AV}{R S:List AV→List Ob→Prop}(h:FnQ G f xs R)(hs:∀rs h,R rs h→S rs h):FnQ G f xs S:=by
 obtain ⟨F,n,rs,σ1,hf,h1,h2,h4,hr,hR,h3⟩:=h;exact ⟨F,n,rs,σ1,hf,h1,h2,h4,hr,hs _ _ hR,h3⟩
theorem FnQ.rule {G:Prg}{f:FuncId}{xs:List AV}{r:AV}(h:FnQ G f xs fun rs h=>packV (treeBL 0 h rs)=r){roots:List Nat}{b:Nat}{σ:St}{k:AV→St→Prop}:callT G f xs true roots b [] σ k=k r σ:=by
 obtain ⟨F,n,rs,σ1,hf,h1,h2,h4,hr,hR,h3⟩:=h;refine callT_of (n:=n) (h:=σ.h) hf h1 ?_;unfold callX;rw [h4];simp only [Bool.false_eq_true,if_false,hr,Bool.true_or,if_true,Mf,List.isEmpty_nil,Bool.not_true,Bool.and_false,hR]
structure FnO (G:Prg)(f:FuncId)(xs:List AV)(es:Nat)(ys:List AV):Prop where
 ok:∃F n r st p ss σ1,G f=some F∧xs.length=F.np∧F.pure=true∧F.fo=true∧splits F xs=false∧runF G n F xs [] []=some ([.sl r st p ss 0 ys.length],σ1)∧node σ1.h r st p ss=some (.own es ys)
 pl:ys.all (fun e:AV=>e.cells.all AV.plain)=true
theorem FnO.rule {G:Prg}{f:FuncId}{xs:List AV}{es:Nat}{ys:List AV}(h:FnO G f xs es ys){fr:Bool}{roots:List Nat}{b s:Nat}{σ:St}{k:AV→St→Prop} :
 callT G f xs fr roots b [s] σ k=Mg (if fr then σ.h else Al σ.h roots) (b+s) (.own es ys) (fun h st=>k (.sl (b+s) st [] 0 0 ys.length) { σ with h }):=by
 obtain ⟨⟨F,n,r,st,p0,sb,σ1,hf,h1,h2,h3,h4,hr,hn⟩,hp⟩:=h;have hfl:([AV.sl r st p0 sb 0 ys.length]).all AV.flats=false:=rfl;unfold Mg;cases hnew:newOb (if fr then σ.h else Al σ.h roots) (b+s) (.own es ys) with
 | some p =>
   obtain ⟨h',st'⟩:=p;refine callT_of (n:=n) (h:=h') hf h1 ?_;unfold callX;rw [h4];simp only [Bool.false_eq_true,if_false,hr,hfl,Bool.or_false,Mf,h3,List.isEmpty_cons,Bool.not_false,Bool.true_and,Nat.zero_le,if_true,hn,hp,and_self,hnew]
 | none =>
   refine propext ⟨fun ⟨F',m,v,h',e1,e2,e3,q⟩=>?_,False.elim⟩;rw [hf] at e1;cases e1;have e4:=Lw (Nat.le_max_right n m) e3;unfold callX at e4;rw [h4] at e4;have hr2:=((monoLe (G:=G) (Nat.le_max_left n m)).2.2.2.1 _ _ _ _ _ hr);simp only [Bool.false_eq_true,if_false,hr2,hfl,Bool.or_false,Mf,h3,List.isEmpty_cons,Bool.not_false,Bool.true_and,Nat.zero_le,if_true,hn,hp,and_self,hnew,reduceCtorEq] at e4
theorem FnQ.rule2 {G:Prg}{f:FuncId}{xs:List AV}{κ:IntKind}{n:Int}{es:Nat}{ys:List AV}(h:FnQ G f xs fun rs h=>∃r st p ss,rs = [.sl r st p ss 0 ys.length,.int κ n]∧node h r st p ss=some (.own es ys))(hp:ys.all (fun e:AV=>e.cells.all AV.plain)=true)
 {fr:Bool}{roots:List Nat}{b s:Nat}{σ:St}{k:AV→St→Prop} :
 callT G f xs fr roots b [s] σ k=Mg (if fr then σ.h else Al σ.h roots) (b+s) (.own es ys) (fun h st=>k (.tup [.sl (b+s) st [] 0 0 ys.length,.int κ n]) { σ with h }):=by
 obtain ⟨F,m,rs,σ1,hf,h1,h2,h4,hr,⟨r,st,p,ss,rfl,hn⟩,h3⟩:=h;have hfl:([AV.sl r st p ss 0 ys.length,.int κ n]).all AV.flats=false:=rfl;unfold Mg;cases hnew:newOb (if fr then σ.h else Al σ.h roots) (b+s) (.own es ys) with
 | some q =>
   obtain ⟨h',st'⟩:=q;refine callT_of (n:=m) (h:=h') hf h1 ?_;unfold callX;rw [h4];simp only [Bool.false_eq_true,if_false,hr,hfl,Bool.or_false,Mf,h3,List.isEmpty_cons,Bool.not_false,Bool.true_and,Nat.zero_le,if_true,hn,hp,and_self,hnew]
 | none =>
   refine propext ⟨fun ⟨F',m2,v,h',e1,e2,e3,q⟩=>?_,False.elim⟩;rw [hf] at e1;cases e1;have e4:=Lw (Nat.le_max_right m m2) e3;unfold callX at e4;rw [h4] at e4;have hr2:=((monoLe (G:=G) (Nat.le_max_left m m2)).2.2.2.1 _ _ _ _ _ hr);simp only [Bool.false_eq_true,if_false,hr2,hfl,Bool.or_false,Mf,h3,List.isEmpty_cons,Bool.not_false,Bool.true_and,Nat.zero_le,if_true,hn,hp,and_self,hnew,reduceCtorEq] at e4
theorem FnQ.own1 {G:Prg}{f:FuncId}{xs:List AV}{es:Nat}{ys:List AV}(h:FnQ G f xs fun rs h=>∃r st p ss,rs = [.sl r st p ss 0 ys.length]∧node h r st p ss=some (.own es ys))(hp:ys.all (fun e:AV=>e.cells.all AV.plain)=true):FnO G f xs es ys:=by
 obtain ⟨F,m,rs,σ1,hf,h1,h2,h4,hr,⟨r,st,p,ss,rfl,hn⟩,h3⟩:=h;exact ⟨⟨F,m,r,st,p,ss,σ1,hf,h1,h2,h3,h4,hr,hn⟩,hp⟩
end Go.Mw
