/- How objects may be rearranged: the relation holds on. -/
import Derived.Test.YtondemeliogjmaaGreatM01
set_option linter.unusedVariables false
set_option linter.unusedSimpArgs false
namespace Go.Mw
open Go.RowKit
def FKeep (w w':World)(fz:Nat→Prop):Prop:=∀b o v,fz b→w.cell? ⟨b,o,none⟩=some v→w'.cell? ⟨b,o,none⟩=some v
theorem FKeep.refl (w:World)(fz:Nat→Prop):FKeep w w fz:=fun _ _ _ _ h=>h
theorem CellR.mono0 {w w':World}{m m':Mem}{r r':Nat}{q q':Path}{c:AV}{v:Value}(hw:PD w w')(hf:FKeep w w' m.fz)(hfz:∀b,m.fz b→m'.fz b)
 (hb:isNode c=true→m'.blk r' q'=m.blk r q) (h:CellR w m r q c v):CellR w' m' r' q' c v:=by
 cases c
 case own es xs=>exact EE.mono0 hw (hb rfl) h
 case ownm es=>simp only [CellR] at h ⊢;rw [hb rfl];exact h
 case gone=>trivial
 all_goals exact VRel0.mono hf hfz h
theorem CellR.mono {w w':World}{m m':Mem}{r r':Nat}{q q':Path}{c:AV}{v:Value}(hw:WKeep w w')(hf:FKeep w w' m.fz)(hfz:∀b,m.fz b→m'.fz b)
 (hb:isNode c=true→m'.blk r' q'=m.blk r q) (h:CellR w m r q c v):CellR w' m' r' q' c v:=h.mono0 hw.zero hf hfz hb
theorem NodeF.mono0 {w w':World}{m m':Mem}{r r':Nat}{p p':Path}{nd:AV}(hw:PD w w')(hf:FKeep w w' m.fz)(hfz:∀b,m.fz b→m'.fz b)
 (hb:m'.blk r' p'=m.blk r p) (hc:∀(i j:Nat) (e c:AV) (es:Nat) (xs:List AV),nd = .own es xs→xs[i]? = some e→e.cells[j]? = some c→isNode c=true→m'.blk r' (p'++[(i,j)])=m.blk r (p++[(i,j)]))
 (hh:isNode nd=true→w'.heap[(m.blk r p).1]? = w.heap[(m.blk r p).1]?)
 (h:NodeF w m r p nd):NodeF w' m' r' p' nd:=by
 cases nd
 case own es xs =>
  obtain ⟨h0,arr,ty,h1,h2⟩:=h;refine ⟨h0,arr,ty,by rw [hb,hh rfl];exact h1,fun i e hi=>?_⟩;obtain ⟨g1,g2⟩:=h2 i e hi;refine ⟨g1,fun j c hj=>?_⟩;obtain ⟨k1,v,k2,k3,k4⟩:=g2 j c hj;exact ⟨k1,v,by rw [hb];exact k2,k3,k4.mono0 hw hf hfz (fun hn=>hc i j e c es xs rfl hi hj hn)⟩
 case ownm es =>
  obtain ⟨ents,clock,h1,h2,h3,h4,h5⟩:=h;refine ⟨ents,clock,by rw [hb,hh rfl];exact h1,h2,fun i k v hi=>?_,h4,h5⟩;obtain ⟨e,g1,g2,g3⟩:=h3 i k v hi;exact ⟨e,g1,g2.mono hf hfz,g3.mono hf hfz⟩
 all_goals trivial
theorem NodeF.mono {w w':World}{m m':Mem}{r r':Nat}{p p':Path}{nd:AV}(hw:WKeep w w')(hf:FKeep w w' m.fz)(hfz:∀b,m.fz b→m'.fz b)
 (hb:m'.blk r' p'=m.blk r p) (hc:∀(i j:Nat) (e c:AV) (es:Nat) (xs:List AV),nd = .own es xs→xs[i]? = some e→e.cells[j]? = some c→isNode c=true→m'.blk r' (p'++[(i,j)])=m.blk r (p++[(i,j)]))
 (hh:isNode nd=true→w'.heap[(m.blk r p).1]? = w.heap[(m.blk r p).1]?)
 (h:NodeF w m r p nd):NodeF w' m' r' p' nd:=h.mono0 hw.zero hf hfz hb hc hh
def Uc:Path→Path→Option Path
 | [],q=>some q
 | _::_,[]=>none
 | a::p,b::q=>if a=b then Uc p q else none
theorem QC (p q:Path):Uc p (p++q)=some q:=by
 induction p with
 | nil=>rfl
 | cons a p ih=>simp [Uc,ih]
theorem Zh {p q t:Path}(h:Uc p q=some t):q=p++t:=by
 induction p generalizing q with
 | nil=>simp [Uc] at h;subst h;rfl
 | cons a p ih =>
   cases q with
   | nil=>simp [Uc] at h
   | cons b q =>
     simp only [Uc] at h;split at h
     ·rename_i e;subst e;rw [ih h];rfl
     ·cases h
theorem List.lt_of_some {α:Type}{l:List α}{i:Nat}{x:α}(h:l[i]? = some x):i<l.length:=by
 rcases Nat.lt_or_ge i l.length with h'|h'
 ·exact h'
 ·rw [List.getElem?_eq_none h'] at h;cases h
def putBlk (m:Mem)(r:Nat)(p:Path)(tf:Nat→Nat→Option (Nat×Path)):Nat→Path→Nat×Nat:=fun r2 p2 =>
 if r2=r then match Uc p p2 with
  | some ((i,j)::q)=>match tf i j with
    | some (T,q0)=>m.blk T (q0++q)
    | none=>m.blk r2 p2
  | _=>m.blk r2 p2
 else m.blk r2 p2
theorem HU {m:Mem}{r:Nat}{p:Path}{tf:Nat→Nat→Option (Nat×Path)}{r2:Nat}{p2:Path}(h:r2≠r):putBlk m r p tf r2 p2=m.blk r2 p2:=by
 simp [putBlk,h]
theorem C7 {m:Mem}{r:Nat}{p:Path}{tf:Nat→Nat→Option (Nat×Path)}{p2:Path}(h:¬p <+: p2):putBlk m r p tf r p2=m.blk r p2:=by
 cases hs:Uc p p2 with
 | none=>simp [putBlk,hs]
 | some t=>exact absurd ⟨t,(Zh hs).symm⟩ h
theorem DY {m:Mem}{r:Nat}{p:Path}{tf:Nat→Nat→Option (Nat×Path)}:putBlk m r p tf r p=m.blk r p:=by
 have:=QC p [];rw [List.append_nil] at this;simp [putBlk,this]
theorem J9 {m:Mem}{r:Nat}{p:Path}{tf:Nat→Nat→Option (Nat×Path)}{i j:Nat}{q:Path}(h:tf i j=none):putBlk m r p tf r (p++(i,j)::q)=m.blk r (p++(i,j)::q):=by
 simp [putBlk,QC,h]
theorem Kf {m:Mem}{r:Nat}{p:Path}{tf:Nat→Nat→Option (Nat×Path)}{i j T:Nat}{q q0:Path}(h:tf i j=some (T,q0)):putBlk m r p tf r (p++(i,j)::q)=m.blk T (q0++q):=by
 simp [putBlk,QC,h]
theorem Ee {h:List Ob}{r:Nat}{p q:Path}{x y:AV}(h1:nodeAt h r p=some x)(h2:nav x q=some y):nodeAt h r (p++q)=some y:=by
 obtain ⟨o,ho,hn⟩:=Ac.1 h1;exact Ac.2 ⟨o,ho,Nu _ _ _ _ _ hn h2⟩
theorem BW {x:AV}{q:Path}{y:AV}(h:nav x q=some y)(hy:isNode y=true):isNode x=true:=by
 cases q with
 | nil=>rw [nav_nil] at h;cases h;exact hy
 | cons a q =>
   obtain ⟨i,j⟩:=a;obtain ⟨es,xs,e,c,rfl,_⟩:=(AF ..).1 h;rfl
theorem Rel.put {w0:World}{fz0:Nat→Prop}{m:Mem}{h h':List Ob}{w w':World}(hr:Rel w0 fz0 m h w){r:Nat}{p:Path}{es:Nat}{xs xs':List AV}
 (hn:nodeAt h r p=some (.own es xs)) (hbelow:Below w0.heap.size w0 w') (hsz:w.heap.size≤w'.heap.size)
 (hwo:∀k,k≠(m.blk r p).1→k<w.heap.size→w'.heap[k]? = w.heap[k]?) (hwk:WKeep w w')
 {arr arr':Array Value}{ty:TypeId}(ha:w.heap[(m.blk r p).1]? = some (.cells arr ty (0,0))) (ha':w'.heap[(m.blk r p).1]? = some (.cells arr' ty (0,0)))
 (tf:Nat→Nat→Option (Nat×Path))
 (hes:∀(i:Nat) (e:AV),xs'[i]? = some e→e.cells.length=es)
 (hcell:∀(i j:Nat) (e c:AV),xs'[i]? = some e→e.cells[j]? = some c→c.one=true∧∃v,arr'[(m.blk r p).2+(i*es+j)]? = some v∧v.oneCell'=true ∧
   ((tf i j=none∧isNode c=false∧CellR w m r (p++[(i,j)]) c v) ∨
    (tf i j=none∧(∃e0,xs[i]? = some e0∧e0.cells[j]? = some c)∧arr[(m.blk r p).2+(i*es+j)]? = some v) ∨
    (∃T q,tf i j=some (T,q)∧nodeAt h T q=some c∧isNode c=true∧CellR w m T q c v)))
 (hT:∀i j T q,tf i j=some (T,q)→T≠r)
 (hinj:∀i j i' j' T q T' q',tf i j=some (T,q)→tf i' j'=some (T',q')→(i,j)≠(i',j')→T≠T'∨(¬q <+: q'∧¬q' <+: q))
 (hlen:p = []∨xs'.length=xs.length)
 (ho:∀r2 o2,r2≠r→h'[r2]? = some o2→isNode o2.c=true→∃o1,h[r2]? = some o1∧o1.c=o2.c∧∀i j T q,tf i j=some (T,q)→r2≠T)
 (hr':∃o o',h[r]? = some o∧h'[r]? = some o'∧upd o.c p (.own es xs')=some o'.c) :
 Rel w0 fz0 { blk:=putBlk m r p tf,fz:=m.fz } h' w':=by
 obtain ⟨o,o',ho1,ho2,hu⟩:=hr';have hlo:=hr.lo r p _ hn rfl;have hfk:FKeep w w' m.fz:=by
  intro b off v hb hc;have hne:b≠(m.blk r p).1:=fun e=>hlo.2 (e▸hb);have:=hwo b hne (hr.fzlt b hb);exact (World.cell?_of_block (a:=⟨b,off,none⟩) this).trans hc
 have horig:∀r2 p2 nd2,nodeAt h' r2 p2=some nd2→isNode nd2=true→(r2=r∧p2=p∧nd2 = .own es xs') ∨
  (∃r3 p3 nd3,nodeAt h r3 p3=some nd3∧isNode nd3=true∧putBlk m r p tf r2 p2=m.blk r3 p3∧(r3,p3)≠(r,p) ∧
    ((r2=r3∧p2=p3∧(∀i j T q,tf i j=some (T,q)→r2≠T)∧(r2=r→∀i j q,p2=p++(i,j)::q→tf i j=none))∨(∃i j q T q0,r2=r∧p2=p++(i,j)::q∧tf i j=some (T,q0)∧r3=T∧p3=q0++q)) ∧
    NodeF w' { blk:=putBlk m r p tf,fz:=m.fz } r2 p2 nd2):=by
  intro r2 p2 nd2 h2 hi;obtain ⟨o2,e2,n2⟩:=Ac.1 h2;by_cases er:r2=r
  ·subst er;rw [ho2] at e2;cases e2;have hvo:∀cs,AV.own es xs'≠.agg cs:=by intro cs h;cases h
   by_cases hp:p <+: p2
   ·obtain ⟨q,rfl⟩:=hp;rw [Cs p _ _ _ hvo hu q] at n2;cases q with
    | nil=>rw [nav_nil] at n2;cases n2;exact .inl ⟨rfl,by simp,rfl⟩
    | cons a q =>
      obtain ⟨i,j⟩:=a;refine .inr ?_;obtain ⟨es1,xs1,e,c,h3,he,hc,hq⟩:=(AF ..).1 n2;cases h3;obtain ⟨hone,v,hv1,hv2,hcase⟩:=hcell i j e c he hc;have hcn:isNode c=true:=BW hq hi;rcases hcase with ⟨_,hno,_⟩|⟨htf,⟨e0,he0,hc0⟩,_⟩|⟨T,q0,htf,hnT,_,_⟩
      ·rw [hno] at hcn;cases hcn
      ·have hold:nodeAt h r2 (p++(i,j)::q)=some nd2:=by
        refine Ee hn ((AF ..).2 ⟨es,xs,e0,c,rfl,he0,hc0,hq⟩)
       refine ⟨r2,p++(i,j)::q,nd2,hold,hi,J9 htf,by simp,.inl ⟨rfl,rfl,fun i j T q h=>(hT i j T q h).symm,fun _ i' j' q' e'=>?_⟩,?_⟩
       ·have:=List.append_cancel_left e';injection this with h1 h2;injection h1 with h1 h3;subst h1;subst h3;exact htf
       ·have hne:(m.blk r2 (p++(i,j)::q)).1≠(m.blk r2 p).1:=fun e=>by
         have:=(hr.inj _ _ _ _ _ _ hold hi hn rfl e).2;simp at this
        refine NodeF.mono hwk hfk (fun _ h=>h) (J9 htf) (fun i' j' e' c' es' xs'' _ _ _ _=>?_) (fun _=>hwo _ hne ?_) (hr.nodes _ _ _ hold)
        ·have:(p++(i,j)::q)++[(i',j')]=p++(i,j)::(q++[(i',j')]):=by simp
         simp only [this];exact J9 htf
        ·cases nd2 with
         | own es2 xs2=>obtain ⟨_,a1,t1,g,_⟩:=hr.nodes _ _ _ hold;exact (Array.getElem?_eq_some_iff.1 g).1
         | ownm es2=>obtain ⟨a1,t1,g,_⟩:=hr.nodes _ _ _ hold;exact (Array.getElem?_eq_some_iff.1 g).1
         | _=>cases hi
      ·have hold:nodeAt h T (q0++q)=some nd2:=Ee hnT hq;have hTr:=hT i j T q0 htf;refine ⟨T,q0++q,nd2,hold,hi,Kf htf,by simp [hTr],.inr ⟨i,j,q,T,q0,rfl,rfl,htf,rfl,rfl⟩,?_⟩;have hne:(m.blk T (q0++q)).1≠(m.blk r2 p).1:=fun e=>hTr (hr.inj _ _ _ _ _ _ hold hi hn rfl e).1;refine NodeF.mono hwk hfk (fun _ h=>h) (Kf htf) (fun i' j' e' c' es' xs'' _ _ _ _=>?_) (fun _=>hwo _ hne ?_) (hr.nodes _ _ _ hold)
       ·have:(p++(i,j)::q)++[(i',j')]=p++(i,j)::(q++[(i',j')]):=by simp
        simp only [this];rw [Kf htf];simp
       ·cases nd2 with
        | own es2 xs2=>obtain ⟨_,a1,t1,g,_⟩:=hr.nodes _ _ _ hold;exact (Array.getElem?_eq_some_iff.1 g).1
        | ownm es2=>obtain ⟨a1,t1,g,_⟩:=hr.nodes _ _ _ hold;exact (Array.getElem?_eq_some_iff.1 g).1
        | _=>cases hi
   ·refine .inr ?_;have hpre:∀i j q,p2≠p++(i,j)::q:=fun i j q e=>hp ⟨_,e.symm⟩;rcases nav_upd_other p _ _ _ hvo hu p2 nd2 hp n2 with ⟨es1,xs1,xs1',g1,g2,rfl,g4,g5⟩|g
    ·have hold:nodeAt h r2 p2=some (.own es1 xs1):=Ac.2 ⟨o,ho1,g2⟩;have hne:(m.blk r2 p2).1≠(m.blk r2 p).1:=fun e=>by
      have:=(hr.inj _ _ _ _ _ _ hold rfl hn rfl e).2;exact hp ⟨[],by simp [this]⟩
     refine ⟨r2,p2,_,hold,rfl,C7 hp,by intro e;injection e with _ e;exact hp ⟨[],by simp [e]⟩,.inl ⟨rfl,rfl,fun i j T q h=>(hT i j T q h).symm,fun _ i' j' q' e'=>absurd e' (hpre _ _ _)⟩,?_⟩;obtain ⟨k0,a1,t1,k1,k2⟩:=hr.nodes _ _ _ hold;refine ⟨k0,a1,t1,?_,fun i e' hi'=>?_⟩
     ·show w'.heap[(putBlk m r2 p tf r2 p2).1]? = _;rw [C7 hp,hwo _ hne (Array.getElem?_eq_some_iff.1 k1).1];exact k1
     ·obtain ⟨e,he,hl,hcs⟩:=g5 i e' hi';obtain ⟨k3,k4⟩:=k2 i e he;refine ⟨hl.trans k3,fun j c' hc'=>?_⟩;obtain ⟨c,hc,hcase⟩:=hcs j c' hc';obtain ⟨k5,v,k6,k7,k8⟩:=k4 j c hc;have hbk:∀b:Bool,putBlk m r2 p tf r2 p2=m.blk r2 p2:=fun _=>C7 hp;have hbc:putBlk m r2 p tf r2 (p2++[(i,j)])=m.blk r2 (p2++[(i,j)]):=by
       by_cases hpp:p <+: p2++[(i,j)]
       ·obtain ⟨t,ht⟩:=hpp;cases t with
        | nil=>rw [List.append_nil] at ht;rw [←ht];exact DY
        | cons a t =>
          exfalso;have hlen2:p.length≤p2.length:=by
           have:=congrArg List.length ht;simp at this;omega
          have:p <+: p2:=by
           have h1:p <+: p2++[(i,j)]:=⟨_,ht⟩;exact List.prefix_of_prefix_length_le h1 (List.prefix_append p2 _) hlen2
          exact hp this
       ·exact C7 hpp
      have hb1:({ blk:=putBlk m r2 p tf,fz:=m.fz }:Mem).blk r2 p2=m.blk r2 p2:=C7 hp;rw [hb1];rcases hcase with rfl|⟨hpe,rfl⟩|⟨es',ys,ys',rfl,rfl,hyl⟩
      ·exact ⟨k5,v,k6,k7,k8.mono hwk hfk (fun _ h=>h) (fun _=>hbc)⟩
      ·refine ⟨rfl,v,k6,k7,?_⟩;have hx:nodeAt h r2 (p2++[(i,j)])=some c:=Ee hold ((AF ..).2 ⟨_,_,e,c,rfl,he,hc,nav_nil _⟩);rw [←hpe,hn] at hx;cases hx;rcases hlen with hl0|hl0
       ·rw [hl0] at hpe;simp at hpe
       ·simp only [CellR] at k8 ⊢;rw [hl0];exact EE.mono hwk hbc k8
      ·refine ⟨rfl,v,k6,k7,?_⟩;simp only [CellR] at k8 ⊢;rw [hyl];have k9:=EE.mono (m':={ blk:=putBlk m r2 p tf,fz:=m.fz }) (r':=r2) (p':=p2++[(i,j)]) hwk hbc k8;exact k9
    ·have hold:nodeAt h r2 p2=some nd2:=Ac.2 ⟨o,ho1,g⟩;have hne:(m.blk r2 p2).1≠(m.blk r2 p).1:=fun e=>by
      have:=(hr.inj _ _ _ _ _ _ hold hi hn rfl e).2;exact hp ⟨[],by simp [this]⟩
     refine ⟨r2,p2,nd2,hold,hi,C7 hp,by intro e;injection e with _ e;exact hp ⟨[],by simp [e]⟩,.inl ⟨rfl,rfl,fun i j T q h=>(hT i j T q h).symm,fun _ i' j' q' e'=>absurd e' (hpre _ _ _)⟩,?_⟩;refine NodeF.mono hwk hfk (fun _ h=>h) (C7 hp) (fun i j e c es' xs'' hnd he hc hcn=>?_) (fun _=>hwo _ hne ?_) (hr.nodes _ _ _ hold)
     ·show putBlk m r2 p tf r2 (p2++[(i,j)])=_;by_cases hpp:p <+: p2++[(i,j)]
      ·obtain ⟨t,ht⟩:=hpp;cases t with
       | nil=>rw [List.append_nil] at ht;rw [←ht];exact DY
       | cons a t =>
         exfalso;have hlen2:p.length≤p2.length:=by
          have:=congrArg List.length ht;simp at this;omega
         exact hp (List.prefix_of_prefix_length_le ⟨_,ht⟩ (List.prefix_append p2 _) hlen2)
      ·exact C7 hpp
     ·cases nd2 with
      | own es2 xs2=>obtain ⟨_,a1,t1,g,_⟩:=hr.nodes _ _ _ hold;exact (Array.getElem?_eq_some_iff.1 g).1
      | ownm es2=>obtain ⟨a1,t1,g,_⟩:=hr.nodes _ _ _ hold;exact (Array.getElem?_eq_some_iff.1 g).1
      | _=>cases hi
  ·refine .inr ?_;have hin:isNode o2.c=true:=BW n2 hi;obtain ⟨o1,e1,e3,e4⟩:=ho r2 o2 er e2 hin;have hold:nodeAt h r2 p2=some nd2:=Ac.2 ⟨o1,e1,by rw [e3];exact n2⟩;have hne:(m.blk r2 p2).1≠(m.blk r p).1:=fun e=>er (hr.inj _ _ _ _ _ _ hold hi hn rfl e).1;refine ⟨r2,p2,nd2,hold,hi,HU er,by simp [er],.inl ⟨rfl,rfl,e4,fun e=>absurd e er⟩,?_⟩;refine NodeF.mono hwk hfk (fun _ h=>h) (HU er) (fun i' j' e' c' es' xs'' _ _ _ _=>HU er) (fun _=>hwo _ hne ?_) (hr.nodes _ _ _ hold);cases nd2 with
   | own es2 xs2=>obtain ⟨_,a1,t1,g,_⟩:=hr.nodes _ _ _ hold;exact (Array.getElem?_eq_some_iff.1 g).1
   | ownm es2=>obtain ⟨a1,t1,g,_⟩:=hr.nodes _ _ _ hold;exact (Array.getElem?_eq_some_iff.1 g).1
   | _=>cases hi
 have hself:putBlk m r p tf r p=m.blk r p:=DY;refine ⟨hbelow,fun b hb=>Nat.lt_of_lt_of_le (hr.fzlt b hb) hsz,hr.fzin,hr.fzge,fun r2 p2 nd2 h2=>?_,fun r2 p2 nd2 h2 hi=>?_,?_⟩
 ·by_cases hi:isNode nd2=true
  ·rcases horig r2 p2 nd2 h2 hi with ⟨rfl,rfl,rfl⟩|⟨_,_,_,_,_,_,_,_,hF⟩
   ·obtain ⟨h0,_⟩:=hr.nodes _ _ _ hn;refine ⟨h0,arr',ty,by simp only;rw [hself];exact ha',fun i e hi'=>⟨hes i e hi',fun j c hj=>?_⟩⟩;obtain ⟨hone,v,hv1,hv2,hcase⟩:=hcell i j e c hi' hj;refine ⟨hone,v,by simp only;rw [hself];exact hv1,hv2,?_⟩;rcases hcase with ⟨_,hno,hcr⟩|⟨htf,⟨e0,he0,hc0⟩,hav⟩|⟨T,q0,htf,hnT,hcn,hcr⟩
    ·exact hcr.mono hwk hfk (fun _ h=>h) (fun h=>by rw [hno] at h;cases h)
    ·obtain ⟨_,arr0,ty0,k1,k2⟩:=hr.nodes _ _ _ hn;rw [ha] at k1;cases k1;obtain ⟨_,k3⟩:=k2 i e0 he0;obtain ⟨_,v0,k4,_,k5⟩:=k3 j c hc0;rw [hav] at k4;cases k4;exact k5.mono hwk hfk (fun _ h=>h) (fun _=>J9 htf)
    ·exact hcr.mono hwk hfk (fun _ h=>h) (fun _=>by have h9:=Kf (m:=m) (r:=r2) (p:=p2) (q:=[]) htf;rw [List.append_nil] at h9;exact h9)
   ·exact hF
  ·cases nd2<;>first|trivial|exact absurd rfl hi
 ·rcases horig r2 p2 nd2 h2 hi with ⟨rfl,rfl,rfl⟩|⟨r3,p3,nd3,h3,hi3,hb,_,_,_⟩
  ·show _≤(putBlk m r2 p2 tf r2 p2).1∧¬m.fz (putBlk m r2 p2 tf r2 p2).1;rw [hself];exact hlo
  ·show _≤(putBlk m r p tf r2 p2).1∧¬m.fz (putBlk m r p tf r2 p2).1;rw [hb];exact hr.lo _ _ _ h3 hi3
 ·intro r2 p2 nd2 r4 p4 nd4 h2 hi2 h4 hi4 he;change (putBlk m r p tf r2 p2).1=(putBlk m r p tf r4 p4).1 at he;rcases horig r2 p2 nd2 h2 hi2 with ⟨rfl,rfl,rfl⟩|⟨r3,p3,nd3,h3,hi3,hb,hne,hk,_⟩
  ·rcases horig r4 p4 nd4 h4 hi4 with ⟨rfl,rfl,rfl⟩|⟨r5,p5,nd5,h5,hi5,hb5,hne5,_,_⟩
   ·exact ⟨rfl,rfl⟩
   ·rw [hself,hb5] at he;obtain ⟨g1,g2⟩:=hr.inj _ _ _ _ _ _ hn rfl h5 hi5 he;exact absurd (by rw [g1,g2]) hne5
  ·rcases horig r4 p4 nd4 h4 hi4 with ⟨rfl,rfl,rfl⟩|⟨r5,p5,nd5,h5,hi5,hb5,hne5,hk5,_⟩
   ·rw [hself,hb] at he;obtain ⟨g1,g2⟩:=hr.inj _ _ _ _ _ _ h3 hi3 hn rfl he;exact absurd (by rw [g1,g2]) hne
   ·rw [hb,hb5] at he;obtain ⟨g1,g2⟩:=hr.inj _ _ _ _ _ _ h3 hi3 h5 hi5 he;subst g1;subst g2;rcases hk with ⟨a1,a2,a3,a4⟩|⟨i,j,q,T,q0,a1,a2,a3,a4,a5⟩
    ·rcases hk5 with ⟨b1,b2,b3,b4⟩|⟨i',j',q',T',q0',b1,b2,b3,b4,b5⟩
     ·exact ⟨a1.trans b1.symm,a2.trans b2.symm⟩
     ·exact absurd (a1.trans b4) (a3 _ _ _ _ b3)
    ·rcases hk5 with ⟨b1,b2,b3,b4⟩|⟨i',j',q',T',q0',b1,b2,b3,b4,b5⟩
     ·exact absurd (b1.trans a4) (b3 _ _ _ _ a3)
     ·by_cases eij:(i,j)=(i',j')
      ·injection eij with e1 e2;subst e1;subst e2;rw [a3] at b3;cases b3;rw [a5] at b5;have:=List.append_cancel_left b5;subst this;exact ⟨a1.trans b1.symm,a2.trans b2.symm⟩
      ·rcases hinj _ _ _ _ _ _ _ _ a3 b3 eij with hx|⟨hx,hy⟩
       ·exact absurd (a4.symm.trans b4) hx
       ·exfalso;rw [a5] at b5;rcases List.append_eq_append_iff.1 b5 with ⟨t,ht,_⟩|⟨t,ht,_⟩
        ·exact hx ⟨t,ht.symm⟩
        ·exact hy ⟨t,ht.symm⟩
end Go.Mw
namespace Go.Mw
open Go.RowKit
theorem NodeF.lt {w:World}{m:Mem}{r:Nat}{p:Path}{nd:AV}(h:NodeF w m r p nd)(hi:isNode nd=true):(m.blk r p).1<w.heap.size:=by
 cases nd with
 | own es xs=>obtain ⟨_,a1,t1,g,_⟩:=h;exact (Array.getElem?_eq_some_iff.1 g).1
 | ownm es=>obtain ⟨a1,t1,g,_⟩:=h;exact (Array.getElem?_eq_some_iff.1 g).1
 | _=>cases hi
def takeBlk (m:Mem)(r:Nat)(p:Path)(es off T:Nat):Nat→Path→Nat×Nat:=fun r2 p2 =>
 if r2=T then match p2 with
  | []=>((m.blk r p).1,(m.blk r p).2+off*es)
  | (i,j)::q=>m.blk r (p++(i+off,j)::q)
 else m.blk r2 p2
theorem Hg {q:Path}{y:AV}(h:nav .gone q=some y)(hi:isNode y=true):False:=by
 cases q with
 | nil=>rw [nav_nil] at h;cases h;cases hi
 | cons a q=>obtain ⟨i,j⟩:=a;simp [nav] at h
theorem Rel.take {w0:World}{fz0:Nat→Prop}{m:Mem}{h h':List Ob}{w:World}(hr:Rel w0 fz0 m h w){r:Nat}{p:Path}{es:Nat}{xs:List AV}
 (hn:nodeAt h r p=some (.own es xs)) (off len T:Nat) (hTr:T≠r) (hTo:∀o,h[T]? = some o→isNode o.c=false)
 (hT:∃oT,h'[T]? = some oT∧oT.c = .own es ((xs.drop off).take len))
 (hr':∃o o',h[r]? = some o∧h'[r]? = some o'∧upd o.c p .gone=some o'.c)
 (ho:∀r2 o2,r2≠r→r2≠T→h'[r2]? = some o2→isNode o2.c=true→∃o1,h[r2]? = some o1∧o1.c=o2.c) :
 Rel w0 fz0 { blk:=takeBlk m r p es off T,fz:=m.fz } h' w:=by
 obtain ⟨o,o',ho1,ho2,hu⟩:=hr';obtain ⟨oT,hT1,hT2⟩:=hT;have hlo:=hr.lo r p _ hn rfl;have hne:∀r2 p2,r2≠T→takeBlk m r p es off T r2 p2=m.blk r2 p2:=fun r2 p2 h=>by simp [takeBlk,h]
 have hTnil:takeBlk m r p es off T T []=((m.blk r p).1,(m.blk r p).2+off*es):=by simp [takeBlk]
 have hTcons:∀i j q,takeBlk m r p es off T T ((i,j)::q)=m.blk r (p++(i+off,j)::q):=fun i j q=>by simp [takeBlk]
 have hel:∀(i:Nat) (e:AV),((xs.drop off).take len)[i]? = some e→xs[i+off]? = some e:=by
  intro i e he;rw [List.getElem?_take] at he;split at he
  ·rw [List.getElem?_drop] at he;rw [Nat.add_comm];exact he
  ·cases he
 have horig:∀r2 p2 nd2,nodeAt h' r2 p2=some nd2→isNode nd2=true →
  ∃r3 p3 nd3,nodeAt h r3 p3=some nd3∧isNode nd3=true∧(takeBlk m r p es off T r2 p2).1=(m.blk r3 p3).1 ∧
   ((r2=r3∧p2=p3∧r2≠T∧(r2=r→¬p <+: p2))∨(r2=T∧p2 = []∧r3=r∧p3=p)∨(∃i j q,r2=T∧p2=(i,j)::q∧r3=r∧p3=p++(i+off,j)::q)) ∧
   NodeF w { blk:=takeBlk m r p es off T,fz:=m.fz } r2 p2 nd2:=by
  intro r2 p2 nd2 h2 hi;obtain ⟨o2,e2,n2⟩:=Ac.1 h2;by_cases eT:r2=T
  ·subst eT;rw [hT1] at e2;cases e2;rw [hT2] at n2;cases p2 with
   | nil =>
     rw [nav_nil] at n2;cases n2;refine ⟨r,p,_,hn,rfl,by rw [hTnil],.inr (.inl ⟨rfl,rfl,rfl,rfl⟩),?_⟩;obtain ⟨k0,arr,ty,k1,k2⟩:=hr.nodes _ _ _ hn;refine ⟨k0,arr,ty,by simp only;rw [hTnil];exact k1,fun i e he=>?_⟩;obtain ⟨k3,k4⟩:=k2 (i+off) e (hel i e he);refine ⟨k3,fun j c hj=>?_⟩;obtain ⟨k5,v,k6,k7,k8⟩:=k4 j c hj;refine ⟨k5,v,?_,k7,k8.mono (m:=m) (WKeep.refl w) (FKeep.refl w _) (fun _ h=>h) (fun _=>by simp only [List.nil_append];exact hTcons i j [])⟩;simp only;rw [hTnil];simp only;rw [←k6];congr 1;rw [Nat.add_mul];omega
   | cons a q =>
     obtain ⟨i,j⟩:=a;obtain ⟨es1,xs1,e,c,h3,he,hc,hq⟩:=(AF ..).1 n2;cases h3;have hold:nodeAt h r (p++(i+off,j)::q)=some nd2:=Ee hn ((AF ..).2 ⟨es,xs,e,c,rfl,hel i e he,hc,hq⟩);refine ⟨r,_,nd2,hold,hi,by rw [hTcons],.inr (.inr ⟨i,j,q,rfl,rfl,rfl,rfl⟩),?_⟩;refine NodeF.mono (m:=m) (WKeep.refl w) (FKeep.refl w _) (fun _ h=>h) (hTcons i j q) (fun i' j' e' c' es' xs'' _ _ _ _=>?_) (fun _=>rfl) (hr.nodes _ _ _ hold);have:=hTcons i j (q++[(i',j')]);simpa using this
  ·by_cases er:r2=r
   ·subst er;rw [ho2] at e2;cases e2;have hvo:∀cs,AV.gone≠.agg cs:=by intro cs h;cases h
    by_cases hp:p <+: p2
    ·obtain ⟨q,rfl⟩:=hp;rw [Cs p _ _ _ hvo hu q] at n2;exact (Hg n2 hi).elim
    ·rcases nav_upd_other p _ _ _ hvo hu p2 nd2 hp n2 with ⟨es1,xs1,xs1',g1,g2,rfl,g4,g5⟩|g
     ·have hold:nodeAt h r2 p2=some (.own es1 xs1):=Ac.2 ⟨o,ho1,g2⟩;refine ⟨r2,p2,_,hold,rfl,by rw [hne _ _ eT],.inl ⟨rfl,rfl,eT,fun _=>hp⟩,?_⟩;obtain ⟨k0,a1,t1,k1,k2⟩:=hr.nodes _ _ _ hold;refine ⟨k0,a1,t1,by simp only;rw [hne _ _ eT];exact k1,fun i e' hi'=>?_⟩;obtain ⟨e,he,hl,hcs⟩:=g5 i e' hi';obtain ⟨k3,k4⟩:=k2 i e he;refine ⟨hl.trans k3,fun j c' hc'=>?_⟩;obtain ⟨c,hc,hcase⟩:=hcs j c' hc';obtain ⟨k5,v,k6,k7,k8⟩:=k4 j c hc;simp only [hne _ _ eT];rcases hcase with rfl|⟨hpe,rfl⟩|⟨es',ys,ys',rfl,rfl,hyl⟩
      ·exact ⟨k5,v,k6,k7,k8.mono (m:=m) (WKeep.refl w) (FKeep.refl w _) (fun _ h=>h) (fun _=>hne _ _ eT)⟩
      ·exact ⟨rfl,v,k6,k7,trivial⟩
      ·refine ⟨rfl,v,k6,k7,?_⟩;simp only [CellR] at k8 ⊢;rw [hyl];have k9:=EE.mono (m':={ blk:=takeBlk m r2 p es off T,fz:=m.fz }) (r':=r2) (p':=p2++[(i,j)]) (WKeep.refl w) (hne _ _ eT) k8;exact k9
     ·have hold:nodeAt h r2 p2=some nd2:=Ac.2 ⟨o,ho1,g⟩;refine ⟨r2,p2,nd2,hold,hi,by rw [hne _ _ eT],.inl ⟨rfl,rfl,eT,fun _=>hp⟩,?_⟩;exact NodeF.mono (m:=m) (WKeep.refl w) (FKeep.refl w _) (fun _ h=>h) (hne _ _ eT) (fun i j e c es' xs'' _ _ _ _=>hne _ _ eT) (fun _=>rfl) (hr.nodes _ _ _ hold)
   ·have hin:isNode o2.c=true:=BW n2 hi;obtain ⟨o1,e1,e3⟩:=ho r2 o2 er eT e2 hin;have hold:nodeAt h r2 p2=some nd2:=Ac.2 ⟨o1,e1,by rw [e3];exact n2⟩;refine ⟨r2,p2,nd2,hold,hi,by rw [hne _ _ eT],.inl ⟨rfl,rfl,eT,fun e=>absurd e er⟩,?_⟩;exact NodeF.mono (m:=m) (WKeep.refl w) (FKeep.refl w _) (fun _ h=>h) (hne _ _ eT) (fun i j e c es' xs'' _ _ _ _=>hne _ _ eT) (fun _=>rfl) (hr.nodes _ _ _ hold)
 refine ⟨hr.below,hr.fzlt,hr.fzin,hr.fzge,fun r2 p2 nd2 h2=>?_,fun r2 p2 nd2 h2 hi=>?_,?_⟩
 ·by_cases hi:isNode nd2=true
  ·obtain ⟨_,_,_,_,_,_,_,hF⟩:=horig r2 p2 nd2 h2 hi;exact hF
  ·cases nd2<;>first|trivial|exact absurd rfl hi
 ·obtain ⟨r3,p3,nd3,h3,hi3,hb,_,_⟩:=horig r2 p2 nd2 h2 hi;show _≤(takeBlk m r p es off T r2 p2).1∧¬m.fz (takeBlk m r p es off T r2 p2).1;rw [hb];exact hr.lo _ _ _ h3 hi3
 ·intro r2 p2 nd2 r4 p4 nd4 h2 hi2 h4 hi4 he;change (takeBlk m r p es off T r2 p2).1=(takeBlk m r p es off T r4 p4).1 at he;obtain ⟨r3,p3,nd3,h3,hi3,hb,hk,_⟩:=horig r2 p2 nd2 h2 hi2;obtain ⟨r5,p5,nd5,h5,hi5,hb5,hk5,_⟩:=horig r4 p4 nd4 h4 hi4;rw [hb,hb5] at he;obtain ⟨g1,g2⟩:=hr.inj _ _ _ _ _ _ h3 hi3 h5 hi5 he;subst g1;subst g2;rcases hk with ⟨a1,a2,a3,a4⟩|⟨a1,a2,a3,a4⟩|⟨i,j,q,a1,a2,a3,a4⟩
  ·rcases hk5 with ⟨b1,b2,b3,b4⟩|⟨b1,b2,b3,b4⟩|⟨i',j',q',b1,b2,b3,b4⟩
   ·exact ⟨a1.trans b1.symm,a2.trans b2.symm⟩
   ·exact absurd ⟨[],by rw [a2,b4];simp⟩ (a4 (a1.trans b3))
   ·exact absurd ⟨_,by rw [a2,b4]⟩ (a4 (a1.trans b3))
  ·rcases hk5 with ⟨b1,b2,b3,b4⟩|⟨b1,b2,b3,b4⟩|⟨i',j',q',b1,b2,b3,b4⟩
   ·exact absurd ⟨[],by rw [b2,a4];simp⟩ (b4 (b1.trans a3))
   ·exact ⟨a1.trans b1.symm,a2.trans b2.symm⟩
   ·rw [a4] at b4;simp at b4
  ·rcases hk5 with ⟨b1,b2,b3,b4⟩|⟨b1,b2,b3,b4⟩|⟨i',j',q',b1,b2,b3,b4⟩
   ·exact absurd ⟨_,by rw [b2,a4]⟩ (b4 (b1.trans a3))
   ·rw [a4] at b4;simp at b4
   ·rw [a4] at b4;have:=List.append_cancel_left b4;injection this with e1 e2;injection e1 with e1 e3;have e4:i=i':=by omega
    subst e4;subst e3;subst e2;exact ⟨a1.trans b1.symm,a2.trans b2.symm⟩
theorem Rel.takeM {w0:World}{fz0:Nat→Prop}{m:Mem}{h h':List Ob}{w:World}(hr:Rel w0 fz0 m h w){r:Nat}{p:Path}{es:List (AV×AV)}
 (hn:nodeAt h r p=some (.ownm es)) (T:Nat) (hTr:T≠r) (hTo:∀o,h[T]? = some o→isNode o.c=false)
 (hT:∃oT,h'[T]? = some oT∧oT.c = .ownm es)
 (hr':∃o o',h[r]? = some o∧h'[r]? = some o'∧upd o.c p .gone=some o'.c)
 (ho:∀r2 o2,r2≠r→r2≠T→h'[r2]? = some o2→isNode o2.c=true→∃o1,h[r2]? = some o1∧o1.c=o2.c) :
 Rel w0 fz0 { blk:=takeBlk m r p 0 0 T,fz:=m.fz } h' w:=by
 obtain ⟨o,o',ho1,ho2,hu⟩:=hr';obtain ⟨oT,hT1,hT2⟩:=hT;have hlo:=hr.lo r p _ hn rfl;have hne:∀r2 p2,r2≠T→takeBlk m r p 0 0 T r2 p2=m.blk r2 p2:=fun r2 p2 h=>by simp [takeBlk,h]
 have hTnil:(takeBlk m r p 0 0 T T []).1=(m.blk r p).1:=by simp [takeBlk]
 have horig:∀r2 p2 nd2,nodeAt h' r2 p2=some nd2→isNode nd2=true →
  ∃r3 p3 nd3,nodeAt h r3 p3=some nd3∧isNode nd3=true∧(takeBlk m r p 0 0 T r2 p2).1=(m.blk r3 p3).1 ∧
   ((r2=r3∧p2=p3∧r2≠T∧(r2=r→¬p <+: p2))∨(r2=T∧p2 = []∧r3=r∧p3=p)) ∧
   NodeF w { blk:=takeBlk m r p 0 0 T,fz:=m.fz } r2 p2 nd2:=by
  intro r2 p2 nd2 h2 hi;obtain ⟨o2,e2,n2⟩:=Ac.1 h2;by_cases eT:r2=T
  ·subst eT;rw [hT1] at e2;cases e2;rw [hT2] at n2;cases p2 with
   | nil =>
     rw [nav_nil] at n2;cases n2;refine ⟨r,p,_,hn,rfl,hTnil,.inr ⟨rfl,rfl,rfl,rfl⟩,?_⟩;obtain ⟨ents,clock,k1,k2⟩:=hr.nodes _ _ _ hn;exact ⟨ents,clock,by simp only;rw [hTnil];exact k1,k2⟩
   | cons a q =>
     obtain ⟨i,j⟩:=a;obtain ⟨es1,xs1,e,c,h3,he,hc,hq⟩:=(AF ..).1 n2;cases h3
  ·by_cases er:r2=r
   ·subst er;rw [ho2] at e2;cases e2;have hvo:∀cs,AV.gone≠.agg cs:=by intro cs h;cases h
    by_cases hp:p <+: p2
    ·obtain ⟨q,rfl⟩:=hp;rw [Cs p _ _ _ hvo hu q] at n2;exact (Hg n2 hi).elim
    ·rcases nav_upd_other p _ _ _ hvo hu p2 nd2 hp n2 with ⟨es1,xs1,xs1',g1,g2,rfl,g4,g5⟩|g
     ·have hold:nodeAt h r2 p2=some (.own es1 xs1):=Ac.2 ⟨o,ho1,g2⟩;refine ⟨r2,p2,_,hold,rfl,by rw [hne _ _ eT],.inl ⟨rfl,rfl,eT,fun _=>hp⟩,?_⟩;obtain ⟨k0,a1,t1,k1,k2⟩:=hr.nodes _ _ _ hold;refine ⟨k0,a1,t1,by simp only;rw [hne _ _ eT];exact k1,fun i e' hi'=>?_⟩;obtain ⟨e,he,hl,hcs⟩:=g5 i e' hi';obtain ⟨k3,k4⟩:=k2 i e he;refine ⟨hl.trans k3,fun j c' hc'=>?_⟩;obtain ⟨c,hc,hcase⟩:=hcs j c' hc';obtain ⟨k5,v,k6,k7,k8⟩:=k4 j c hc;simp only [hne _ _ eT];rcases hcase with rfl|⟨hpe,rfl⟩|⟨es',ys,ys',rfl,rfl,hyl⟩
      ·exact ⟨k5,v,k6,k7,k8.mono (m:=m) (WKeep.refl w) (FKeep.refl w _) (fun _ h=>h) (fun _=>hne _ _ eT)⟩
      ·exact ⟨rfl,v,k6,k7,trivial⟩
      ·refine ⟨rfl,v,k6,k7,?_⟩;simp only [CellR] at k8 ⊢;rw [hyl];have k9:=EE.mono (m':={ blk:=takeBlk m r2 p 0 0 T,fz:=m.fz }) (r':=r2) (p':=p2++[(i,j)]) (WKeep.refl w) (hne _ _ eT) k8;exact k9
     ·have hold:nodeAt h r2 p2=some nd2:=Ac.2 ⟨o,ho1,g⟩;refine ⟨r2,p2,nd2,hold,hi,by rw [hne _ _ eT],.inl ⟨rfl,rfl,eT,fun _=>hp⟩,?_⟩;exact NodeF.mono (m:=m) (WKeep.refl w) (FKeep.refl w _) (fun _ h=>h) (hne _ _ eT) (fun i j e c es' xs'' _ _ _ _=>hne _ _ eT) (fun _=>rfl) (hr.nodes _ _ _ hold)
   ·have hin:isNode o2.c=true:=BW n2 hi;obtain ⟨o1,e1,e3⟩:=ho r2 o2 er eT e2 hin;have hold:nodeAt h r2 p2=some nd2:=Ac.2 ⟨o1,e1,by rw [e3];exact n2⟩;refine ⟨r2,p2,nd2,hold,hi,by rw [hne _ _ eT],.inl ⟨rfl,rfl,eT,fun e=>absurd e er⟩,?_⟩;exact NodeF.mono (m:=m) (WKeep.refl w) (FKeep.refl w _) (fun _ h=>h) (hne _ _ eT) (fun i j e c es' xs'' _ _ _ _=>hne _ _ eT) (fun _=>rfl) (hr.nodes _ _ _ hold)
 refine ⟨hr.below,hr.fzlt,hr.fzin,hr.fzge,fun r2 p2 nd2 h2=>?_,fun r2 p2 nd2 h2 hi=>?_,?_⟩
 ·by_cases hi:isNode nd2=true
  ·obtain ⟨_,_,_,_,_,_,_,hF⟩:=horig r2 p2 nd2 h2 hi;exact hF
  ·cases nd2<;>first|trivial|exact absurd rfl hi
 ·obtain ⟨r3,p3,nd3,h3,hi3,hb,_,_⟩:=horig r2 p2 nd2 h2 hi;show _≤(takeBlk m r p 0 0 T r2 p2).1∧¬m.fz (takeBlk m r p 0 0 T r2 p2).1;rw [hb];exact hr.lo _ _ _ h3 hi3
 ·intro r2 p2 nd2 r4 p4 nd4 h2 hi2 h4 hi4 he;change (takeBlk m r p 0 0 T r2 p2).1=(takeBlk m r p 0 0 T r4 p4).1 at he;obtain ⟨r3,p3,nd3,h3,hi3,hb,hk,_⟩:=horig r2 p2 nd2 h2 hi2;obtain ⟨r5,p5,nd5,h5,hi5,hb5,hk5,_⟩:=horig r4 p4 nd4 h4 hi4;rw [hb,hb5] at he;obtain ⟨g1,g2⟩:=hr.inj _ _ _ _ _ _ h3 hi3 h5 hi5 he;subst g1;subst g2;rcases hk with ⟨a1,a2,a3,a4⟩|⟨a1,a2,a3,a4⟩
  ·rcases hk5 with ⟨b1,b2,b3,b4⟩|⟨b1,b2,b3,b4⟩
   ·exact ⟨a1.trans b1.symm,a2.trans b2.symm⟩
   ·exact absurd ⟨[],by rw [a2,b4];simp⟩ (a4 (a1.trans b3))
  ·rcases hk5 with ⟨b1,b2,b3,b4⟩|⟨b1,b2,b3,b4⟩
   ·exact absurd ⟨[],by rw [b2,a4];simp⟩ (b4 (b1.trans a3))
   ·exact ⟨a1.trans b1.symm,a2.trans b2.symm⟩
def Bu (m:Mem)(s:Nat)(b:Nat×Nat):Nat→Path→Nat×Nat:=fun r2 p2=>if r2=s∧p2 = [] then b else m.blk r2 p2
theorem Rel.newRoot {w0:World}{fz0:Nat→Prop}{m:Mem}{h h':List Ob}{w w':World}(hr:Rel w0 fz0 m h w)(s:Nat)(c:AV)
 (hb:Below w0.heap.size w0 w') (hsz:w.heap.size<w'.heap.size) (hwo:∀k,k<w.heap.size→w'.heap[k]? = w.heap[k]?)
 (hs':∃o',h'[s]? = some o'∧o'.c=c)
 (hc:(∃es xs arr ty,c = .own es xs∧0<es∧w'.heap[w.heap.size]? = some (.cells arr ty (0,0))∧xs.length*es≤arr.size∧(∀(j:Nat) (v:Value),arr[j]? = some v→v.oneCell'=true) ∧
   ∀(i:Nat) (e:AV),xs[i]? = some e→e.cells.length=es∧∀(j:Nat) (d:AV),e.cells[j]? = some d→d = .gone) ∨
   (c = .ownm []∧∃clock,w'.heap[w.heap.size]? = some (.map #[] clock)))
 (ho:∀r2 o2,r2≠s→h'[r2]? = some o2→isNode o2.c=true→∃o1,h[r2]? = some o1∧o1.c=o2.c) :
 Rel w0 fz0 { blk:=Bu m s (w.heap.size,0),fz:=m.fz } h' w':=by
 obtain ⟨o',hs1,hs2⟩:=hs';have hfk:FKeep w w' m.fz:=by
  intro b off v hb hc;exact (World.cell?_of_block (a:=⟨b,off,none⟩) (hwo b (hr.fzlt b hb))).trans hc
 have hwk:WKeep w w':=⟨fun b arr ty hh=>⟨arr,by rw [hwo b (Array.getElem?_eq_some_iff.1 hh).1];exact hh,rfl⟩,fun b ents clock hh=>⟨ents,clock,by rw [hwo b (Array.getElem?_eq_some_iff.1 hh).1];exact hh,fun i e he=>⟨e,he,rfl⟩⟩,fun b o hh _=>by rw [hwo b (Array.getElem?_eq_some_iff.1 hh).1];exact hh,Nat.le_of_lt hsz⟩;have hne:∀r2 p2,r2≠s→Bu m s (w.heap.size,0) r2 p2=m.blk r2 p2:=fun r2 p2 h=>by simp [Bu,h]
 have hself:Bu m s (w.heap.size,0) s []=(w.heap.size,0):=by simp [Bu]
 have hB:w0.heap.size≤w.heap.size:=hr.below.size;have horig:∀r2 p2 nd2,nodeAt h' r2 p2=some nd2→isNode nd2=true→(r2=s∧p2 = []∧nd2=c)∨(r2≠s∧nodeAt h r2 p2=some nd2):=by
  intro r2 p2 nd2 h2 hi;obtain ⟨o2,e2,n2⟩:=Ac.1 h2;by_cases er:r2=s
  ·subst er;rw [hs1] at e2;cases e2;rw [hs2] at n2;cases p2 with
   | nil=>rw [nav_nil] at n2;cases n2;exact .inl ⟨rfl,rfl,rfl⟩
   | cons a q =>
     obtain ⟨i,j⟩:=a;obtain ⟨es1,xs1,e,d,h3,he,hd,hq⟩:=(AF ..).1 n2;rcases hc with ⟨es,xs,arr,ty,rfl,_,_,_,_,hx⟩|⟨rfl,_⟩
     ·cases h3;have:=(hx i e he).2 j d hd;subst this;exact (Hg hq hi).elim
     ·cases h3
  ·obtain ⟨o1,e1,e3⟩:=ho r2 o2 er e2 (BW n2 hi);exact .inr ⟨er,Ac.2 ⟨o1,e1,by rw [e3];exact n2⟩⟩
 have hnew:isNode c=true→∀r2 p2 nd2,nodeAt h r2 p2=some nd2→isNode nd2=true→(m.blk r2 p2).1≠w.heap.size:=fun _ r2 p2 nd2 h2 hi e=>by
  have:=(hr.nodes _ _ _ h2).lt hi;omega
 refine ⟨hb,fun b h=>Nat.lt_trans (hr.fzlt b h) hsz,hr.fzin,hr.fzge,fun r2 p2 nd2 h2=>?_,fun r2 p2 nd2 h2 hi=>?_,?_⟩
 ·by_cases hi:isNode nd2=true
  ·rcases horig r2 p2 nd2 h2 hi with ⟨rfl,rfl,rfl⟩|⟨er,hold⟩
   ·rcases hc with ⟨es,xs,arr,ty,rfl,h0,h1,h3,h4,hx⟩|⟨rfl,clock,h1⟩
    ·refine ⟨h0,arr,ty,by simp only;rw [hself];exact h1,fun i e hi'=>⟨(hx i e hi').1,fun j d hj=>?_⟩⟩;have:=(hx i e hi').2 j d hj;subst this;have hlt:i*es+j<arr.size:=by
      have g1:=List.lt_of_some hi';have g2:=List.lt_of_some hj;rw [(hx i e hi').1] at g2;have:(i+1)*es≤xs.length*es:=Nat.mul_le_mul_right _ g1;rw [Nat.add_mul] at this;omega
     refine ⟨rfl,arr[i*es+j],?_,h4 (i*es+j) _ (Array.getElem?_eq_getElem hlt),trivial⟩;simp only;rw [hself];simp [Array.getElem?_eq_getElem hlt]
    ·exact ⟨#[],clock,by simp only;rw [hself];exact h1,rfl,fun i k v hi'=>by simp at hi',fun i e hi'=>by simp at hi',fun i j ei ej hi'=>by simp at hi'⟩
   ·exact NodeF.mono hwk hfk (fun _ h=>h) (hne _ _ er) (fun _ _ _ _ _ _ _ _ _ _=>hne _ _ er) (fun hi=>hwo _ ((hr.nodes _ _ _ hold).lt hi)) (hr.nodes _ _ _ hold)
  ·cases nd2<;>first|trivial|exact absurd rfl hi
 ·rcases horig r2 p2 nd2 h2 hi with ⟨rfl,rfl,rfl⟩|⟨er,hold⟩
  ·show _≤(Bu m r2 (w.heap.size,0) r2 []).1∧¬m.fz (Bu m r2 (w.heap.size,0) r2 []).1;rw [hself];exact ⟨hB,fun hf=>by have:=hr.fzlt _ hf;simp at this⟩
  ·show _≤(Bu m s (w.heap.size,0) r2 p2).1∧¬m.fz (Bu m s (w.heap.size,0) r2 p2).1;rw [hne _ _ er];exact hr.lo _ _ _ hold hi
 ·intro r2 p2 nd2 r4 p4 nd4 h2 hi2 h4 hi4 he;change (Bu m s (w.heap.size,0) r2 p2).1=(Bu m s (w.heap.size,0) r4 p4).1 at he;rcases horig r2 p2 nd2 h2 hi2 with ⟨rfl,rfl,e1⟩|⟨er,hold⟩
  ·rcases horig r4 p4 nd4 h4 hi4 with ⟨rfl,rfl,e2⟩|⟨er4,hold4⟩
   ·exact ⟨rfl,rfl⟩
   ·rw [hself,hne _ _ er4] at he;exact absurd he.symm (hnew (e1▸hi2) _ _ _ hold4 hi4)
  ·rcases horig r4 p4 nd4 h4 hi4 with ⟨rfl,rfl,e2⟩|⟨er4,hold4⟩
   ·rw [hself,hne _ _ er] at he;exact absurd he (hnew (e2▸hi4) _ _ _ hold hi2)
   ·rw [hne _ _ er,hne _ _ er4] at he;exact hr.inj _ _ _ _ _ _ hold hi2 hold4 hi4 he
theorem Rel.congr {w0:World}{fz0:Nat→Prop}{m:Mem}{h h':List Ob}{w:World}(hr:Rel w0 fz0 m h w)
 (ho:∀r p nd,nodeAt h' r p=some nd→isNode nd=true→nodeAt h r p=some nd):Rel w0 fz0 m h' w:=by
 refine ⟨hr.below,hr.fzlt,hr.fzin,hr.fzge,fun r p nd hn=>?_,fun r p nd hn hi=>hr.lo _ _ _ (ho _ _ _ hn hi) hi,fun r p nd r' p' nd' hn hi hn' hi' he=>hr.inj _ _ _ _ _ _ (ho _ _ _ hn hi) hi (ho _ _ _ hn' hi') hi' he⟩;by_cases hi:isNode nd=true
 ·exact hr.nodes _ _ _ (ho _ _ _ hn hi)
 ·cases nd<;>first|trivial|exact absurd rfl hi
theorem Rel.grow {w0:World}{fz0:Nat→Prop}{m:Mem}{h h':List Ob}{w:World}(hr:Rel w0 fz0 m h w){s es:Nat}{xs ys:List AV}
 (hn:nodeAt h s []=some (.own es xs)) (hs':∃o',h'[s]? = some o'∧o'.c = .own es (xs++ys))
 (hy:∀(i:Nat) (e:AV),ys[i]? = some e→e.cells.length=es∧∀(j:Nat) (d:AV),e.cells[j]? = some d→d = .gone)
 (hcap:∃arr ty,w.heap[(m.blk s []).1]? = some (.cells arr ty (0,0))∧(m.blk s []).2+(xs.length+ys.length)*es≤arr.size∧∀(j:Nat) (v:Value),(m.blk s []).2+xs.length*es≤j→j<(m.blk s []).2+(xs.length+ys.length)*es→arr[j]? = some v→v.oneCell'=true)
 (ho:∀r2 o2,r2≠s→h'[r2]? = some o2→isNode o2.c=true→∃o1,h[r2]? = some o1∧o1.c=o2.c) :
 Rel w0 fz0 m h' w:=by
 obtain ⟨o',hs1,hs2⟩:=hs';obtain ⟨arr,ty,ha,hsz,h1c⟩:=hcap;have horig:∀r2 p2 nd2,nodeAt h' r2 p2=some nd2→isNode nd2=true→(r2=s∧p2 = []∧nd2 = .own es (xs++ys))∨(nodeAt h r2 p2=some nd2∧(r2=s→p2≠[])):=by
  intro r2 p2 nd2 h2 hi;obtain ⟨o2,e2,n2⟩:=Ac.1 h2;by_cases er:r2=s
  ·subst er;rw [hs1] at e2;cases e2;rw [hs2] at n2;cases p2 with
   | nil=>rw [nav_nil] at n2;cases n2;exact .inl ⟨rfl,rfl,rfl⟩
   | cons a q =>
     obtain ⟨i,j⟩:=a;obtain ⟨es1,xs1,e,d,h3,he,hd,hq⟩:=(AF ..).1 n2;cases h3;rcases Nat.lt_or_ge i xs.length with hlt|hge
     ·rw [List.getElem?_append_left hlt] at he;exact .inr ⟨Ee hn ((AF ..).2 ⟨es,xs,e,d,rfl,he,hd,hq⟩),fun _=>by simp⟩
     ·rw [List.getElem?_append_right hge] at he;have:=(hy _ e he).2 j d hd;subst this;exact (Hg hq hi).elim
  ·obtain ⟨o1,e1,e3⟩:=ho r2 o2 er e2 (BW n2 hi);exact .inr ⟨Ac.2 ⟨o1,e1,by rw [e3];exact n2⟩,fun e=>absurd e er⟩
 refine ⟨hr.below,hr.fzlt,hr.fzin,hr.fzge,fun r2 p2 nd2 h2=>?_,fun r2 p2 nd2 h2 hi=>?_,?_⟩
 ·by_cases hi:isNode nd2=true
  ·rcases horig r2 p2 nd2 h2 hi with ⟨rfl,rfl,rfl⟩|⟨hold,_⟩
   ·obtain ⟨h0,arr1,ty1,k1,k2⟩:=hr.nodes _ _ _ hn;rw [ha] at k1;cases k1;refine ⟨h0,arr,ty,ha,fun i e he=>?_⟩;rcases Nat.lt_or_ge i xs.length with hlt|hge
    ·rw [List.getElem?_append_left hlt] at he;exact k2 i e he
    ·rw [List.getElem?_append_right hge] at he;obtain ⟨g1,g2⟩:=hy _ e he;refine ⟨g1,fun j d hj=>?_⟩;have:=g2 j d hj;subst this;have hlt3:(m.blk r2 []).2+(i*es+j)<(m.blk r2 []).2+(xs.length+ys.length)*es:=by
      have g3:=List.lt_of_some he;have g4:=List.lt_of_some hj;rw [g1] at g4;have:(i+1)*es≤(xs.length+ys.length)*es:=Nat.mul_le_mul_right _ (by omega);rw [Nat.add_mul i 1] at this;omega
     have hlt2:(m.blk r2 []).2+(i*es+j)<arr.size:=by
      have g3:=List.lt_of_some he;have g4:=List.lt_of_some hj;rw [g1] at g4;have:(i+1)*es≤(xs.length+ys.length)*es:=Nat.mul_le_mul_right _ (by omega);rw [Nat.add_mul i 1] at this;omega
     exact ⟨rfl,arr[(m.blk r2 []).2+(i*es+j)],Array.getElem?_eq_getElem hlt2,h1c _ _ (by
      have:xs.length*es≤i*es:=Nat.mul_le_mul_right _ hge;omega) hlt3 (Array.getElem?_eq_getElem hlt2),trivial⟩
   ·exact hr.nodes _ _ _ hold
  ·cases nd2<;>first|trivial|exact absurd rfl hi
 ·rcases horig r2 p2 nd2 h2 hi with ⟨rfl,rfl,rfl⟩|⟨hold,_⟩
  ·exact hr.lo _ _ _ hn rfl
  ·exact hr.lo _ _ _ hold hi
 ·intro r2 p2 nd2 r4 p4 nd4 h2 hi2 h4 hi4 he;rcases horig r2 p2 nd2 h2 hi2 with ⟨rfl,rfl,rfl⟩|⟨hold,_⟩
  ·rcases horig r4 p4 nd4 h4 hi4 with ⟨rfl,rfl,rfl⟩|⟨hold4,_⟩
   ·exact ⟨rfl,rfl⟩
   ·exact hr.inj _ _ _ _ _ _ hn rfl hold4 hi4 he
  ·rcases horig r4 p4 nd4 h4 hi4 with ⟨rfl,rfl,rfl⟩|⟨hold4,_⟩
   ·exact hr.inj _ _ _ _ _ _ hold hi2 hn rfl he
   ·exact hr.inj _ _ _ _ _ _ hold hi2 hold4 hi4 he
theorem Rel.putMap {w0:World}{fz0:Nat→Prop}{m:Mem}{h h':List Ob}{w w':World}(hr:Rel w0 fz0 m h w){r:Nat}{p:Path}{es es':List (AV×AV)}
 (hn:nodeAt h r p=some (.ownm es)) (hbelow:Below w0.heap.size w0 w') (hsz:w.heap.size≤w'.heap.size)
 (hwo:∀k,k≠(m.blk r p).1→k<w.heap.size→w'.heap[k]? = w.heap[k]?) (hwk:WKeep w w')
 (hF:NodeF w' m r p (.ownm es'))
 (ho:∀r2 o2,r2≠r→h'[r2]? = some o2→isNode o2.c=true→∃o1,h[r2]? = some o1∧o1.c=o2.c)
 (hr':∃o o',h[r]? = some o∧h'[r]? = some o'∧upd o.c p (.ownm es')=some o'.c):Rel w0 fz0 m h' w':=by
 obtain ⟨o,o',ho1,ho2,hu⟩:=hr';have hlo:=hr.lo r p _ hn rfl;have hfk:FKeep w w' m.fz:=by
  intro b off v hb hc;have hne:b≠(m.blk r p).1:=fun e=>hlo.2 (e▸hb);exact (World.cell?_of_block (a:=⟨b,off,none⟩) (hwo b hne (hr.fzlt b hb))).trans hc
 have hvo:∀cs,AV.ownm es'≠.agg cs:=by intro cs h;cases h
 have horig:∀r2 p2 nd2,nodeAt h' r2 p2=some nd2→isNode nd2=true →
  (r2=r∧p2=p∧nd2 = .ownm es')∨(∃nd3,nodeAt h r2 p2=some nd3∧isNode nd3=true∧(r2,p2)≠(r,p)∧NodeF w' m r2 p2 nd2):=by
  intro r2 p2 nd2 h2 hi;obtain ⟨o2,e2,n2⟩:=Ac.1 h2;by_cases er:r2=r
  ·subst er;rw [ho2] at e2;cases e2;by_cases hp:p <+: p2
   ·obtain ⟨q,rfl⟩:=hp;rw [Cs p _ _ _ hvo hu q] at n2;cases q with
    | nil=>rw [nav_nil] at n2;cases n2;exact .inl ⟨rfl,by simp,rfl⟩
    | cons a q=>obtain ⟨i,j⟩:=a;simp [nav] at n2
   ·have hpn:(r2,p2)≠(r2,p):=fun e=>by injection e with _ e;exact hp ⟨[],by simp [e]⟩
    rcases nav_upd_other p _ _ _ hvo hu p2 nd2 hp n2 with ⟨es1,xs1,xs1',g1,g2,rfl,g4,g5⟩|g
    ·have hold:nodeAt h r2 p2=some (.own es1 xs1):=Ac.2 ⟨o,ho1,g2⟩;have hne:(m.blk r2 p2).1≠(m.blk r2 p).1:=fun e=>by
      have:=(hr.inj _ _ _ _ _ _ hold rfl hn rfl e).2;exact hp ⟨[],by simp [this]⟩
     refine .inr ⟨_,hold,rfl,hpn,?_⟩;obtain ⟨k0,a1,t1,k1,k2⟩:=hr.nodes _ _ _ hold;refine ⟨k0,a1,t1,by rw [hwo _ hne (Array.getElem?_eq_some_iff.1 k1).1];exact k1,fun i e' hi'=>?_⟩;obtain ⟨e,he,hl,hcs⟩:=g5 i e' hi';obtain ⟨k3,k4⟩:=k2 i e he;refine ⟨hl.trans k3,fun j c' hc'=>?_⟩;obtain ⟨c,hc,hcase⟩:=hcs j c' hc';obtain ⟨k5,v,k6,k7,k8⟩:=k4 j c hc;rcases hcase with rfl|⟨hpe,rfl⟩|⟨es',ys,ys',rfl,rfl,hyl⟩
     ·exact ⟨k5,v,k6,k7,k8.mono hwk hfk (fun _ h=>h) (fun _=>rfl)⟩
     ·have hx:nodeAt h r2 (p2++[(i,j)])=some c:=Ee hold ((AF ..).2 ⟨_,_,e,c,rfl,he,hc,nav_nil _⟩);rw [←hpe,hn] at hx;cases hx;exact ⟨rfl,v,k6,k7,k8⟩
     ·refine ⟨rfl,v,k6,k7,?_⟩;simp only [CellR] at k8 ⊢;rw [hyl];exact EE.mono hwk rfl k8
    ·have hold:nodeAt h r2 p2=some nd2:=Ac.2 ⟨o,ho1,g⟩;have hne:(m.blk r2 p2).1≠(m.blk r2 p).1:=fun e=>by
      have:=(hr.inj _ _ _ _ _ _ hold hi hn rfl e).2;exact hp ⟨[],by simp [this]⟩
     exact .inr ⟨nd2,hold,hi,hpn,NodeF.mono hwk hfk (fun _ h=>h) rfl (fun _ _ _ _ _ _ _ _ _ _=>rfl) (fun hi=>hwo _ hne ((hr.nodes _ _ _ hold).lt hi)) (hr.nodes _ _ _ hold)⟩
  ·obtain ⟨o1,e1,e3⟩:=ho r2 o2 er e2 (BW n2 hi);have hold:nodeAt h r2 p2=some nd2:=Ac.2 ⟨o1,e1,by rw [e3];exact n2⟩;have hne:(m.blk r2 p2).1≠(m.blk r p).1:=fun e=>er (hr.inj _ _ _ _ _ _ hold hi hn rfl e).1;exact .inr ⟨nd2,hold,hi,by simp [er],NodeF.mono hwk hfk (fun _ h=>h) rfl (fun _ _ _ _ _ _ _ _ _ _=>rfl) (fun hi=>hwo _ hne ((hr.nodes _ _ _ hold).lt hi)) (hr.nodes _ _ _ hold)⟩
 refine ⟨hbelow,fun b hb=>Nat.lt_of_lt_of_le (hr.fzlt b hb) hsz,hr.fzin,hr.fzge,fun r2 p2 nd2 h2=>?_,fun r2 p2 nd2 h2 hi=>?_,?_⟩
 ·by_cases hi:isNode nd2=true
  ·rcases horig r2 p2 nd2 h2 hi with ⟨rfl,rfl,rfl⟩|⟨_,_,_,_,hF⟩
   ·exact hF
   ·exact hF
  ·cases nd2<;>first|trivial|exact absurd rfl hi
 ·rcases horig r2 p2 nd2 h2 hi with ⟨rfl,rfl,rfl⟩|⟨nd3,h3,hi3,_,_⟩
  ·exact hlo
  ·exact hr.lo _ _ _ h3 hi3
 ·intro r2 p2 nd2 r4 p4 nd4 h2 hi2 h4 hi4 he;rcases horig r2 p2 nd2 h2 hi2 with ⟨rfl,rfl,rfl⟩|⟨nd3,h3,hi3,_,_⟩
  ·rcases horig r4 p4 nd4 h4 hi4 with ⟨rfl,rfl,rfl⟩|⟨nd5,h5,hi5,_,_⟩
   ·exact ⟨rfl,rfl⟩
   ·exact hr.inj _ _ _ _ _ _ hn rfl h5 hi5 he
  ·rcases horig r4 p4 nd4 h4 hi4 with ⟨rfl,rfl,rfl⟩|⟨nd5,h5,hi5,_,_⟩
   ·exact hr.inj _ _ _ _ _ _ h3 hi3 hn rfl he
   ·exact hr.inj _ _ _ _ _ _ h3 hi3 h5 hi5 he
end Go.Mw
