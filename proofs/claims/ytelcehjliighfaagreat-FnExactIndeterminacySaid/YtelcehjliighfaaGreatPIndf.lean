/- A part of the walk of one law: what the functions compute. No condition. -/
import Derived.Test.YtelcehjliighfaaGreatRows
import Derived.Test.YtelcehjliighfaaGreatProg
import Derived.WalkKit
import Derived.KernelRfl
import Derived.JoinedOf
import Derived.Maps.AppendAt
import Derived.Still
import Derived.ProofKit
import Derived.OpenShut
import Derived.StillTail
import Derived.Deep.Upon
import Derived.WalkSpells
import Derived.Maps.Range
import Derived.DeepKeys4
import Derived.Maps.Keyed
import Derived.ChangeOld
import Derived.Below
import Derived.SizedLaws
import Derived.Test.YtelcehjliighfaaGreatPInde
set_option linter.unusedVariables false
set_option linter.unusedSimpArgs false
set_option maxRecDepth 10000
set_option maxHeartbeats 8000000
open Nat (reduceEqDiff reduceSub reduceAdd)
namespace Go.Proofs.YtelcehjliighfaaGreat.G
open Go Go.RowKit
structure Sl where
 q:Option Addr
 k:Nat
 c:Nat
structure Lv where
 b:Nat
 p:Nat
 l:Sl
 m:Sl
 z:Sl
 d:Sl
 s:Sl
abbrev Lv.cells (x:Lv):List Value:=[.slice x.l.q x.l.k x.l.c,.map (some x.p),.slice x.m.q x.m.k x.m.c,.slice x.z.q x.z.k x.z.c,.slice x.d.q x.d.k x.d.c,.slice x.s.q x.s.k x.s.c]
abbrev lvB (x:Lv):SA:=obj x.b (.cells x.cells.toArray 88 (0,0))
def lvO:List (Int × Lv)→SA
 | []=>emp
 | x::xs=>star (lvB x.2) (lvO xs)
abbrev ekI (n:Int):Value:=.int .i64 n
abbrev evB (b:Nat):Value:=.pointer (some ⟨b,0,none⟩)
def okI (n:Int):Prop:=-9223372036854775808≤n∧n≤9223372036854775807
def lvK (ls:List (Int × Lv)):List (Int × Nat):=ls.map fun x=>(x.1,x.2.b)
abbrev lvM (lb:Nat) (xs:List (Int × Nat)):SA:=omap ekI evB okI lb xs
def cpx (lb:Nat) (ls:List (Int × Lv)):SA:=star (lvM lb (lvK ls)) (lvO ls)
section
variable {P : Program} {ops : Array Oper} {Q : Exit → Act → World → Prop} {n : Nat} {B : World} {H0 H : HP} {rest : List Oper} {us : List (Nat × Value)} {L L' : List SA} {t : TypeId} {p : String} {af : Array Edge} {d : Nat} {x y : Operand} {w : World}
theorem Hp.lvPerm {ls ls':List (Int × Lv)} (hp:ls.Perm ls') : ∀{L:List SA},Hp B H0 H (lvO ls::L) w→Hp B H0 H (lvO ls'::L) w:=by
 induction hp with
 | nil=>exact fun h=>h
 | cons x _ ih=>exact fun h=>((ih (h.unstar.front (.s .z))).front (.s .z)).star
 | swap x y l=>exact fun h=>
  have h1:=(h.unstar.front (.s .z)).unstar
  (((h1.front (.s .z)).front (.s (.s .z))).star.front (.s .z)).star
 | trans _ _ ih1 ih2=>exact fun h=>ih2 (ih1 h)
theorem Hp.lvmPerm {lb:Nat} {xs ys:List (Int × Nat)} (hp:xs.Perm ys) (h:Hp B H0 H (lvM lb xs::L) w):Hp B H0 H (lvM lb ys::L) w:=by
 obtain ⟨es,clock,h1,h2⟩:=(h.objs (lvM lb xs) (by simp)).1;exact h.reAt .z ⟨es,clock,h1,h2.perm hp⟩ fun b hb=>hb
theorem Hp.lvOut {lb:Nat} {ls rest:List (Int × Lv)} {x:Int × Lv} (hp:ls.Perm (x::rest)) (h:Hp B H0 H (cpx lb ls::L) w):Hp B H0 H (lvB x.2::lvO rest::lvM lb ((x.1,x.2.b)::lvK rest)::L) w:=by
 have h1:=(h.unstar.front (.s .z)).lvPerm hp;have h2:=h1.unstar;have h3:=(h2.front (.s (.s .z))).lvmPerm (hp.map fun x=>(x.1,x.2.b));exact (h3.front (.s (.s .z))).front (.s (.s .z))
theorem Hp.lvIn {lb:Nat} {rest:List (Int × Lv)} {x:Int × Lv} (h:Hp B H0 H (lvB x.2::lvO rest::lvM lb ((x.1,x.2.b)::lvK rest)::L) w):Hp B H0 H (cpx lb (x::rest)::L) w:=
 (h.star.front (.s .z)).star
end
theorem lvK_mem {ls:List (Int × Lv)} {n:Int} {b:Nat} (h:look (lvK ls) n=some b) : ∃x,(n,x)∈ls∧x.b=b:=by
 unfold look at h;obtain ⟨y,h1,h2⟩:=Option.map_eq_some_iff.1 h;have h3:=List.mem_of_find?_eq_some h1;have h4:=List.find?_some h1;obtain ⟨z,hz,rfl⟩:=List.mem_map.1 h3;obtain ⟨k,x⟩:=z
 have h5:k=n:=by simpa using h4
 subst h5;exact ⟨x,hz,h2⟩
theorem lvK_not {ls:List (Int × Lv)} {n:Int} (h:look (lvK ls) n=none) : ∀x∈ls,x.1≠n:=fun x hx e=>by
 unfold look at h
 have h1:=Option.map_eq_none_iff.1 h
 have:=List.find?_eq_none.1 h1 (x.1,x.2.b) (List.mem_map.2 ⟨x,hx,rfl⟩)
 simp [e] at this
theorem lvK_put {ls:List (Int × Lv)} {n:Int} {b:Nat} (h:look (lvK ls) n=none):putM (lvK ls) n b=(n,b)::lvK ls:=by
 unfold putM
 congr 1
 refine List.filter_eq_self.2 fun y hy=>?_;obtain ⟨x,hx,rfl⟩:=List.mem_map.1 hy
 simpa using lvK_not h x hx
def plM (ps:List Pw):Sm:=ps.zipIdx.map fun x=>(x.1,(x.2:Int))
theorem plM_snoc (ps:List Pw) (p:Pw):plM (ps++[p])=plM ps++[(p,(ps.length:Int))]:=by
 unfold plM;rw [List.zipIdx_append,List.map_append]
 simp
theorem plM_keys (ps:List Pw):(plM ps).map (·.1)=ps:=by
 unfold plM;rw [List.map_map]
 conv=>rhs;rw [← List.zipIdx_map_fst 0 ps]
 rfl
theorem plM_put {ps:List Pw} {p:Pw} {v:Int} (hv:v=(ps.length:Int)) (h:p ∉ ps):(putM (plM ps) p v).Perm (plM (ps++[p])):=by
 subst hv;rw [plM_snoc];unfold putM;rw [List.filter_eq_self.2 fun y hy=>?_]
 ·exact List.perm_append_comm (l₁:=[_])
 ·have:y.1∈ps:=by rw [← plM_keys ps];exact List.mem_map.2 ⟨y,hy,rfl⟩
  simp only [decide_eq_true_eq];exact fun e=>h (e ▸ this)
theorem plM_at {ps:List Pw} (hn:ps.Nodup) {i:Nat} (hi:i<ps.length):look (plM ps) (rw_ ps i)=some (i:Int):=by
 refine look_some (by rw [plM_keys];exact hn) ?_;unfold plM;refine List.mem_map.2 ⟨(ps[i],i),?_,?_⟩
 ·exact List.mem_zipIdx_iff_getElem?.2 (by simp)
 ·have:rw_ ps i=ps[i]:=by simp [rw_,List.getD_eq_getElem?_getD,List.getElem?_eq_getElem hi]
  rw [this]
def monL (ds:List Int) (n:Int):List Pw:=(monS ds n).take 121
theorem monL_fit {ds:List Int} {n:Int} (h:fitB ds n=true):monL ds n=monS ds n:=List.take_of_length_le (by have:=of_decide_eq_true h;omega)
theorem monL_8 {ds:List Int} {n:Int} (h8:ds.length≤8) : ∀p∈monL ds n,p.length=8:=fun p hp=>(enumF_mem (by omega) rfl (List.mem_of_mem_take hp)).1
theorem mon_8 {ds:List Int} {n:Int} {m:Nat} (h8:ds.length≤8) : ∀p∈(monS ds n).take m,p.length=8:=fun p hp=>(enumF_mem (by omega) rfl (List.mem_of_mem_take hp)).1
theorem mon_small {ds:List Int} {n:Int} (h8:ds.length≤8) {p:Pw} (hp:p∈monS ds n):pwOk p:=by
 have h:=enumF_mem (by omega) rfl hp;refine ⟨h.1,fun j=>?_⟩
 by_cases hj:j<ds.length
 ·have:=h.2.2.1 j hj;rw [Nat.zero_add] at this
  omega
 ·have:=h.2.1 j (.inr (by omega));rw [this,show zP=List.replicate 8 0 from rfl,rep_get];omega
theorem mon_nodup (ds:List Int) (n:Int) (h8:ds.length≤8):(monS ds n).Nodup:=by
 refine (enumF_srt (by omega) rfl).imp fun h e=>?_;subst e;rw [before_irr] at h
 cases h
theorem mon_fresh {ds:List Int} {n:Int} {m k:Nat} (h8:ds.length≤8) (hk:k<((monS ds n).take m).length):rw_ ((monS ds n).take m) k ∉ ((monS ds n).take m).take k:=fun h=>by
 have hn:=(List.take_sublist m (monS ds n)).nodup (mon_nodup ds n h8)
 have hk':=hk
 have e:rw_ ((monS ds n).take m) k=((monS ds n).take m)[k]:=by simp [rw_,List.getD_eq_getElem?_getD,List.getElem?_eq_getElem hk']
 rw [e] at h
 obtain ⟨j,hj,hje⟩:=List.getElem_of_mem h
 rw [List.getElem_take] at hje
 rw [List.length_take] at hj
 have:=(List.getElem_inj hn).1 hje
 omega
theorem kI:KeyT Tryz.prog 2 ekI okI:=KeyT.of (Go.Maps.int_keyed u2) (fun x y h=>by injection h) fun x hx=>⟨_,Go.Maps.keyOf_int_mk u2 (by
 obtain ⟨h1,h2⟩:=hx
 simp [Lit.wf,IntKind.min,IntKind.max,IntKind.signed,IntKind.bits]
 omega)⟩
def matS (ds:List Int) (fs:List (List Term)) (n:Int):List (List Int):=(monL ds n).map fun p=>(monL ds (n+1)).map (cf (dS ds fs [(p,1)]))
def clS (ds:List Int) (fs:List (List Term)) (n:Int):List (List Int):=kerS (matS ds fs n) (monL ds (n+1)).length
def bdS (ds:List Int) (fs:List (List Term)) (n:Int):List (List Int):=if 0<n then redS (matS ds fs (n - 1)) else []
def csS (ds:List Int) (fs:List (List Term)) (n:Int):List (List Int):=redS ((clS ds fs n).map fun r=>byS r (bdS ds fs n))
def fit2 (ds:List Int) (n:Int):Prop:=fitB ds n=true∧fitB ds (n+1)=true
def fit3 (ds:List Int) (n:Int):Prop:=fit2 ds n∧(0<n→fitB ds (n - 1)=true)
structure Lv1 (H:HP) (ds:List Int) (n:Int) (x:Lv):Prop where
 len:x.l.k=(monL ds n).length
 pw:Pows H x.l.q (monL ds n)
 pl:SumH H (.map (some x.p)) (plM (monL ds n))
 z:n≤0→x.d.k=0
def SlIs (H:HP) (s:Sl) (rs:List (List Int)):Prop:=s.k=rs.length∧RowsR H s.q rs
theorem SlIs.le {H H':HP} {s:Sl} {rs:List (List Int)} (h:SlIs H s rs) (hle:Le H H'):SlIs H' s rs:=⟨h.1,h.2.le hle⟩
def fitP (ds:List Int) (n:Int):Prop:=fitB ds n=true∧(0<n→fitB ds (n - 1)=true)
structure MatOk (ds:List Int) (fs:List (List Term)) (n:Int) (mt:List (List Int)):Prop where
 len:mt.length=(monL ds n).length
 ok : ∀r∈mt,RowOk (monL ds (n+1)).length r
 eq:fitB ds (n+1)=true→mt=matS ds fs n
def Lv2 (H:HP) (ds:List Int) (fs:List (List Term)) (n:Int) (x:Lv):Prop:=∃mt,MatOk ds fs n mt∧SlIs H x.m mt
def Lv3 (H:HP) (ds:List Int) (fs:List (List Term)) (n:Int) (x:Lv):Prop:=SlIs H x.d (bdS ds fs n)∧(fitB ds (n+1)=true→SlIs H x.z (clS ds fs n)∧SlIs H x.s (csS ds fs n))
def Lv3F (H:HP) (ds:List Int) (fs:List (List Term)) (n:Int) (x:Lv):Prop:=SlIs H x.z (clS ds fs n)∧SlIs H x.d (bdS ds fs n)∧SlIs H x.s (csS ds fs n)
structure LvOk (H:HP) (ds:List Int) (fs:List (List Term)) (X:Int→Prop) (n:Int) (x:Lv):Prop where
 one:Lv1 H ds n x
 two : ¬X n→x.m.q.isSome=true→fitB ds n=true→Lv2 H ds fs n x
 three : ¬X n→x.z.q.isSome=true→fitP ds n→Lv3 H ds fs n x
theorem Lv1.le {H H':HP} {ds:List Int} {n:Int} {x:Lv} (h:Lv1 H ds n x) (hle:Le H H'):Lv1 H' ds n x:=⟨h.len,h.pw.le hle,h.pl.le hle,h.z⟩
theorem Lv2.le {H H':HP} {ds:List Int} {fs:List (List Term)} {n:Int} {x:Lv} (h:Lv2 H ds fs n x) (hle:Le H H'):Lv2 H' ds fs n x:=by
 obtain ⟨mt,h1,h2⟩:=h;exact ⟨mt,h1,h2.le hle⟩
theorem Lv3.le {H H':HP} {ds:List Int} {fs:List (List Term)} {n:Int} {x:Lv} (h:Lv3 H ds fs n x) (hle:Le H H'):Lv3 H' ds fs n x:=⟨h.1.le hle,fun hf=>⟨(h.2 hf).1.le hle,(h.2 hf).2.le hle⟩⟩
theorem LvOk.le {H H':HP} {ds:List Int} {fs:List (List Term)} {X:Int→Prop} {n:Int} {x:Lv} (h:LvOk H ds fs X n x) (hle:Le H H'):LvOk H' ds fs X n x:=⟨h.one.le hle,fun h0 h1 h2=>(h.two h0 h1 h2).le hle,fun h0 h1 h2=>(h.three h0 h1 h2).le hle⟩
structure CpxOk (H:HP) (ds:List Int) (fs:List (List Term)) (X:Int→Prop) (ls:List (Int × Lv)):Prop where
 nd:(ls.map (·.1)).Nodup
 ok : ∀x∈ls,LvOk H ds fs X x.1 x.2
theorem CpxOk.le {H H':HP} {ds:List Int} {fs:List (List Term)} {X:Int→Prop} {ls:List (Int × Lv)} (h:CpxOk H ds fs X ls) (hle:Le H H'):CpxOk H' ds fs X ls:=⟨h.nd,fun x hx=>(h.ok x hx).le hle⟩
theorem CpxOk.nil {H:HP} {ds:List Int} {fs:List (List Term)} {X:Int→Prop}:CpxOk H ds fs X []:=⟨by simp,fun x hx=>by simp at hx⟩
theorem CpxOk.cons {H:HP} {ds:List Int} {fs:List (List Term)} {X:Int→Prop} {ls:List (Int × Lv)} {n:Int} {x:Lv} (h:CpxOk H ds fs X ls) (hn : ∀y∈ls,y.1≠n) (hx:LvOk H ds fs X n x):CpxOk H ds fs X ((n,x)::ls):=
 ⟨by rw [List.map_cons,List.nodup_cons];exact ⟨fun hm=>by obtain ⟨y,hy,e⟩:=List.mem_map.1 hm;exact hn y hy e,h.nd⟩,fun y hy=>by
  rcases List.mem_cons.1 hy with rfl | hy
  ·exact hx
  ·exact h.ok y hy⟩
def Nxt (X:Int→Prop) (ls:List (Int × Lv)):Prop:=∀x∈ls,¬X x.1→x.2.m.q.isSome=true→x.1+1∈ls.map (·.1)
theorem Nxt.nil (X:Int→Prop):Nxt X []:=fun x hx=>by simp at hx
theorem Nxt.perm {X:Int→Prop} {ls ls':List (Int × Lv)} (h:Nxt X ls) (hp:ls.Perm ls'):Nxt X ls':=fun x hx hn hm=>(hp.map _).subset (h x (hp.symm.subset hx) hn hm)
theorem Nxt.fresh {X:Int→Prop} {ls:List (Int × Lv)} {n:Int} {x:Lv} (h:Nxt X ls) (hx:x.m.q=none):Nxt X ((n,x)::ls):=fun y hy hn hm=>by
 rcases List.mem_cons.1 hy with rfl | hy
 ·rw [hx] at hm
  cases hm
 ·exact List.mem_cons_of_mem _ (h y hy hn hm)
theorem key_mem {ls:List (Int × Lv)} {n:Int} (h:n∈ls.map (·.1)) : ∃x,(n,x)∈ls:=by
 obtain ⟨y,hy,rfl⟩:=List.mem_map.1 h;exact ⟨y.2,hy⟩
theorem mem_key {ls:List (Int × Lv)} {n:Int} {x:Lv} (h:(n,x)∈ls):n∈ls.map (·.1):=List.mem_map.2 ⟨_,h,rfl⟩
theorem Nxt.swap {X Y:Int→Prop} {ls:List (Int × Lv)} {n:Int} {x x':Lv} (h:Nxt X ((n,x)::ls)) (hne : ∀z∈ls,z.1≠n) (hXY : ∀m,¬Y m→m≠n→¬X m) (hx : ¬Y n→x'.m.q.isSome=true→n+1∈n::ls.map (·.1)):Nxt Y ((n,x')::ls):=fun y hy hn hm=>by
 rcases List.mem_cons.1 hy with rfl | hy
 ·exact hx hn hm
 ·exact h y (List.mem_cons_of_mem _ hy) (hXY _ hn (hne y hy)) hm
theorem CpxOk.out {H:HP} {ds:List Int} {fs:List (List Term)} {X:Int→Prop} {ls:List (Int × Lv)} {n:Int} {x:Lv} (h:CpxOk H ds fs X ls) (hx:(n,x)∈ls) : ∃rest,ls.Perm ((n,x)::rest)∧CpxOk H ds fs X rest∧(∀y∈rest,y.1≠n)∧LvOk H ds fs X n x:=by
 obtain ⟨l1,l2,rfl⟩:=List.append_of_mem hx;have hp:(l1++(n,x)::l2).Perm ((n,x)::(l1++l2)):=List.perm_middle;have hnd:=(hp.map (·.1)).nodup_iff.1 h.nd;rw [List.map_cons,List.nodup_cons] at hnd;exact ⟨l1++l2,hp,⟨hnd.2,fun y hy=>h.ok y (hp.symm.subset (by simp only [List.mem_cons];exact .inr hy))⟩,fun y hy e=>hnd.1 (List.mem_map.2 ⟨y,hy,e⟩),h.ok _ hx⟩
theorem monL_len (ds:List Int) (n:Int):(monL ds n).length≤121:=by unfold monL;rw [List.length_take];omega
theorem monL_fresh {ds:List Int} {n:Int} {k:Nat} (h8:ds.length≤8) (hk:k<(monL ds n).length):rw_ (monL ds n) k ∉ (monL ds n).take k:=mon_fresh h8 hk
theorem monL_small {ds:List Int} {n:Int} {k:Nat} (h8:ds.length≤8) (hk:k<(monL ds n).length):pwOk (rw_ (monL ds n) k):=mon_small h8 (List.mem_of_mem_take (rw_mem hk))
theorem mon121_c {B:World} {H0 H:HP} {L:List SA} {w:World} {qds:Option Addr} {cds:Nat} {ds:List Int} {n:Int} (hds:Ints H qds ds) (hd : ∀j,j<ds.length→1≤ds.getD j 0∧ds.getD j 0≤12) (h8:ds.length≤8) (hn : -1000000≤n∧n≤1000000) (hH:Hp B H0 H L w) :
 Calls Tryz.prog 123 [.slice qds ds.length cds,.int .i64 n,.int .i64 120].toArray w fun e w'=>∃q c,e = .returned (.tuple #[.slice q (monL ds n).length c,.bool (fitB ds n)])∧Hp B H0 H (own 148 8 q (monL ds n).length c (psC (monL ds n))::L) w':=monomials_c (most:=120) hds hd h8 hn (by omega) hH
theorem u124:Tryz.prog.underlying 124=some (TypeDesc.map 2 89):=by kernel_rfl
theorem u86:Tryz.prog.underlying 86=some (TypeDesc.map 148 3):=by kernel_rfl
theorem u88:Tryz.prog.underlying 88=some (TypeDesc.struct #[{name:="list",type:=85,offset:=0,embedded:=false,tag:="",pkgPath:="loop.example/g01219/impl",byteOffset:=0},{name:="place",type:=86,offset:=1,embedded:=false,tag:="",pkgPath:="loop.example/g01219/impl",byteOffset:=24},{name:="matrix",type:=31,offset:=2,embedded:=false,tag:="",pkgPath:="loop.example/g01219/impl",byteOffset:=32},{name:="closed",type:=31,offset:=3,embedded:=false,tag:="",pkgPath:="loop.example/g01219/impl",byteOffset:=56},{name:="boundaries",type:=31,offset:=4,embedded:=false,tag:="",pkgPath:="loop.example/g01219/impl",byteOffset:=80},{name:="classes",type:=31,offset:=5,embedded:=false,tag:="",pkgPath:="loop.example/g01219/impl",byteOffset:=104}]):=by kernel_rfl
theorem sz124:Size Tryz.prog 124 1:=by unfold Size;kernel_rfl
theorem sz86:Size Tryz.prog 86 1:=by unfold Size;kernel_rfl
theorem zv89:ZeroV Tryz.prog 89 (.pointer none):=fun _=>by kernel_rfl
theorem pl124:Plain Tryz.prog 124:=⟨_,u124,rfl⟩
theorem pl86:Plain Tryz.prog 86:=⟨_,u86,rfl⟩
theorem bd88_1 : ∀(b1:Nat) w,(Instr.build 88 #[(1,.map (some b1))]).run Tryz.prog w = .ok (.agg [.slice none 0 0,.map (some b1),.slice none 0 0,.slice none 0 0,.slice none 0 0,.slice none 0 0].toArray) w:=fun b1 _=>by kernel_rfl
theorem bareX_c {B:World} {H0 H:HP} {L:List SA} {w:World} {bc lc:Nat} {bca:Nat} {qcad qcaf:Option Addr} {ccad ccaf:Nat} {cad:List Int} {caf:List (List Term)} {n:Int} {ls:List (Int × Lv)} {X:Int→Prop} (pc0:CellAt H bc 0 (.pointer (some ⟨bca,0,none⟩))) (pc1:CellAt H bc 1 (.map (some lc))) (pcad:CellAt H bca 0 (.slice qcad cad.length ccad)) (pcaf:CellAt H bca 1 (.slice qcaf caf.length ccaf)) (hcad:Ints H qcad cad) (hcaf:Forms H qcaf caf) (hd : ∀j,j<cad.length→1≤cad.getD j 0∧cad.getD j 0≤12) (h8:cad.length≤8) (hn : -1000000≤n∧n≤1000000) (hC:CpxOk H cad caf X ls) (hH:Hp B H0 H (lvM lc (lvK ls)::lvO ls::L) w):Calls Tryz.prog 77 [.pointer (some ⟨bc,0,none⟩),.int .i64 n].toArray w fun e w'=>∃H' ls' x,Le H H' ∧CpxOk H' cad caf X ls' ∧(n,x)∈ls' ∧(∀y∈ls,y∈ls')∧(∀Y,Nxt Y ls→Nxt Y ls')∧e = .returned (.pointer (some ⟨x.b,0,none⟩))∧Hp B H0 H' (cpx lc ls'::L) w':=by
 refine Jx Tryz.func77 rfl 63 rfl rfl [(0,.pointer (some ⟨bc,0,none⟩)),(1,.int .i64 n)] rfl hH ?_;clear hH;refine Je fun _ hK1 _=>(Jb (Jg (Jd rfl) rfl (Jf (Ja (hK1 (Je fun _ hK2 _=>(Je fun _ hK3 _=>(Jb (Jg (Jc rfl) rfl (Jg (Jv rfl) rfl (Jg (Jl u126 rfl sz124 rfl) rfl (Jg (JE (q:=some ⟨bc,0,none⟩) (k:=1) rfl pc1 pl124) rfl (Jg (Jc rfl) rfl (Jg (PR.lookO2 u124 kI zv89 rfl At.z rfl ⟨by omega,by omega⟩) rfl (Jg (Jc rfl) rfl ?_)))))))))))))));refine Jg (JI rfl rfl) rfl (Jg (JI rfl rfl) rfl (Jg (Jd rfl) rfl (Jg (Jd rfl) rfl (Jf (Ja (hK3 (Je fun _ hK4 _=>(Jb (Jg (Jc rfl) rfl (Jf (Ja (hK4 (Ei rfl (fun h19=>?_) (fun h19=>?_))))))))))))))
 ·
  refine Je fun _ hK5 _=>(Jb (Jg (Jc rfl) rfl (Jg (Jd rfl) rfl (Jf (Ja (hK5 (Jt (Jk (Jr rfl (Res.tmp rfl) fun w hH=>?_)))))))));replace hH:=hH.sublist (.cons_cons _ (.cons_cons _ (List.Sublist.refl _)));obtain ⟨b,hb⟩:=Option.isSome_iff_exists.1 h19;obtain ⟨x,hx,rfl⟩:=lvK_mem hb;exact ⟨_,ls,x,(Le.refl _),hC,hx,fun y hy=>hy,fun _ h=>h,by rw [hb];rfl,hH.star⟩
 ·
  refine Jn (Ja (hK2 (Je fun _ hK6 _=>(Jb (ER pwE (Value.int .i64) pwOk rfl fun bm21=>(Jg (PR.build1 rfl (fun w=>bd88_1 _ w)) rfl (JW rfl rfl rfl fun g23=>(Jg (Jd rfl) rfl (Jf (Ja (hK6 (Je fun _ hK7 _=>(Jb (Jg (Jc rfl) rfl (Jg (Jc rfl) rfl (Jg (Jv rfl) rfl ?_))))))))))))))));refine Jg (Jl u126 rfl sz66 rfl) rfl (Jg (JE (q:=some ⟨bc,0,none⟩) (k:=0) rfl pc0 pl66) rfl (Jg (Jv rfl) rfl (Jg (Jl u36 rfl sz22 rfl) rfl (Jg (JE (q:=some ⟨bca,0,none⟩) (k:=0) rfl pcad pl22) rfl (Jg (Jc rfl) rfl (Ju fn123 rfl rfl fun w hH=>(mon121_c hcad hd h8 (by omega) hH).mono ?_))))));rintro _ w ⟨qo34,co34,rfl,hH⟩;refine ⟨_,rfl,fun a hF=>JH hF hH ?_⟩;refine Ev .z fun Ho34 hleo34 hAo34=>?_;replace pc0:=pc0.le hleo34;replace pc1:=pc1.le hleo34;replace pcad:=pcad.le hleo34;replace pcaf:=pcaf.le hleo34;replace hcad:=hcad.le hleo34;replace hcaf:=hcaf.le hleo34;replace hC:=hC.le hleo34;have hxo34:=own_pows (monL_8 h8) hAo34;have hco34:=own_le hAo34;refine Jg (Jc rfl) rfl (Jg (JI rfl rfl) rfl (Jg (JI rfl rfl) rfl (Jg (Jv rfl) rfl (Jg (Jl u88 rfl sz85 rfl) rfl (Et rfl rfl rfl rfl sz85 (by simp [*]) At.z (Jf (Ja (hK7 (Je fun _ hK8 _=>(Je fun _ hK9 _=>(Jb (Jg (Jc rfl) rfl (Jg (Jv rfl) rfl (Jg (Jl u88 rfl sz85 rfl) rfl (Jg (Js rfl At.z rfl pl85) rfl ?_)))))))))))))));refine Jg (Jo u85 rfl rfl) rfl (Jg (Jc rfl) rfl (Jf (Ja (hK9 (Jp (JD (σ:=Nat) (fun (k:Nat)=>[(44,.int .i64 (k:Int))]) (fun (k:Nat)=>Ho34) (fun (k:Nat)=>obj g23 (.cells [.slice qo34 (monL cad n).length co34,.map (some bm21),.slice none 0 0,.slice none 0 0,.slice none 0 0,.slice none 0 0].toArray 88 (0,0))::osum bm21 (plM ((monL cad n).take k))::lvM lc (lvK ls)::lvO ls::L) (fun (k:Nat)=>k≤(monL cad n).length) (fun (k:Nat)=>(monL cad n).length - k) 0 (by omega) ⟨rfl,trivial⟩ rfl rfl ?_))))));rintro k hk _ hAg0;refine Je fun _ hK10 _=>(Jb (Jg (JJ rfl rfl) rfl (Jf (Ja (hK10 (Je fun _ hK11 _=>(Jq rfl (fun h45=>?_) (fun h45=>?_))))))))
  ·
   have hml:=monL_len cad n
   have hk1:k<(monL cad n).length:=by omega
   have h8r:=hxo34.len _ hk1;refine Jn (Ja (hK11 (Je fun _ hK12 _=>(Jp (Je fun _ hK13 _=>(Jb (Jg (Jc rfl) rfl (Jg (Ey u85 sz148 rfl rfl rfl hk1 hxo34.sm) rfl (Jg (JM rfl (hxo34.cell _ hk1) (hxo34.sm (i:=k) hk1) (by rw [intsC_length,hxo34.len _ hk1];exact ag148)) rfl (JP ze148 rfl fun g9=>(Jg (Jd rfl) rfl (JB rfl rfl (by first | exact bytesC_one _ | exact intsC_one _ | exact Term.c_one _ | simp [Value.oneCell']) (by simpa [*] using sz148) (by simp [*]) At.z (Jf (Ja (hK13 (Ea (Rs:=[_,_,_,_,_]) 7 [[], [0], [0,1], [0,1,2], [], [], [0,1,2,3,4,5]] [[], [], [], [8], [7], [], []] [[], [], [], [], [], [], [9]] rfl rfl (by kernel_rfl) ?_))))))))))))))));apply Ji 1 rfl rfl rfl
   ·intros;conv=>lhs;simp only [Jh,reduceEqDiff,reduceAdd]
   ·exact Jc rfl
   apply Ji 2 rfl rfl rfl
   ·intros;conv=>lhs;simp only [Jh,reduceEqDiff,reduceAdd]
   ·exact Jv rfl
   apply Ji 3 rfl rfl rfl
   ·intros;conv=>lhs;simp only [Jh,reduceEqDiff,reduceAdd]
   ·exact Jl u88 rfl sz86 rfl
   apply Ji 4 rfl rfl rfl
   ·intros;conv=>lhs;simp only [Jh,reduceEqDiff,reduceAdd]
   ·exact Js rfl At.z rfl pl86
   apply Ji 5 rfl rfl rfl
   ·intros;conv=>lhs;simp only [Jh,reduceEqDiff,reduceAdd]
   ·exact Jm rfl At.z (by simpa [*] using ag148)
   apply Ji 6 rfl rfl rfl
   ·intros;conv=>lhs;simp only [Jh,reduceEqDiff,reduceAdd]
   ·exact Jc rfl
   apply EZ 7 rfl
   ·intros;conv=>lhs;simp only [Jh,reduceEqDiff,reduceAdd]
   ·
    intro gh X K hK;refine J.putP pwK u86 rfl rfl rfl (monL_small h8 hk1) (show (putM _ _ _).Perm (plM ((monL cad n).take (k+1))) from by rw [rw_take hk1];exact plM_put (by rw [List.length_take];omega) (monL_fresh h8 hk1)) At.z (Jy ?_);exact hK
   ·intro gh gh' h;rfl
   apply JZ [0,1,2,3,4,5,6] [0,1,2,3,4,5,6,7,8,10,11] foll0 rfl rfl rfl (by rfl)
   iterate 2 focus (intros;(conv=>lhs;simp only [JU,Ej,Ka,El,Es,eq_self,reduceEqDiff,reduceIte,reduceSub,reduceAdd,JxA,JxB]);all_goals rfl)
   intro gh;clear gh;refine JF (Ja (hK12 (Jb (Jg (Jz rfl rfl (by first | exact nw _ (by omega) | rfl)) rfl (Jg (Jc rfl) rfl (Jf (Ja (JN (.s .z) (Jw (.s (.s (.s .z))) (Jw (.s (.s (.s .z))) (Jw (.s (.s .z)) (Jw (.s (.s (.s .z))) ?_))))))))))));exact hAg0 (k+1) (by omega) (by omega) 15 rfl rfl ⟨rfl,trivial⟩ rfl (by rfl)
  ·
   refine JG (Jj (Jj (JK (Ja (hK8 (Je fun _ hK14 _=>(Jb (Jg (Jc rfl) rfl (Jg (Jv rfl) rfl (Jg (Jl u126 rfl sz124 rfl) rfl (Jg (JE (q:=some ⟨bc,0,none⟩) (k:=1) rfl pc1 pl124) rfl (Jg (Jc rfl) rfl (Jg (Jc rfl) rfl (Ev (.s .z) fun Hm21 hlem21 hAm21=>?_))))))))))))));replace pc0:=pc0.le hlem21;replace pc1:=pc1.le hlem21;replace pcad:=pcad.le hlem21;replace pcaf:=pcaf.le hlem21;replace hcad:=hcad.le hlem21;replace hcaf:=hcaf.le hlem21;replace hC:=hC.le hlem21;replace hxo34:=hxo34.le hlem21;have hxm21:=omap_H hAm21;refine J.mapUpdate (ek:=ekI) (ev:=evB) (ok:=okI) (v:=g23) u124 kI rfl rfl rfl ⟨by omega,by omega⟩ (.s .z) (Jf (Ja (hK14 (Je fun _ hK15 _=>(Jb (Jg (Jc rfl) rfl (Jg (Jd rfl) rfl (Jf (Ja (hK15 (Jt (Jr rfl (Res.tmp rfl) fun w hH=>?_))))))))))));replace hH:=hH.sublist (.cons_cons _ (.cons_cons _ (.cons_cons _ (List.Sublist.refl _))))
   have hkk:k=(monL cad n).length:=by omega
   have hnk:look (lvK ls) n=none:=by simpa using h19
   rw [lvK_put hnk] at hH;refine ⟨_,(n,⟨g23,bm21,⟨qo34,(monL cad n).length,co34⟩,⟨none,0,0⟩,⟨none,0,0⟩,⟨none,0,0⟩,⟨none,0,0⟩⟩)::ls,_,(hleo34.trans hlem21),hC.cons (lvK_not hnk) ⟨⟨rfl,hxo34,?_,fun _=>rfl⟩,fun _ h=>(by cases h),fun _ h=>(by cases h)⟩,List.mem_cons_self,fun y hy=>List.mem_cons_of_mem _ hy,fun _ h=>h.fresh rfl,rfl,Hp.lvIn ((hH.front (.s (.s .z))).front (.s .z))⟩;rw [hkk,List.take_length] at hxm21;exact hxm21
theorem bareK_c {B:World} {H0 H:HP} {L:List SA} {w:World} {bc lc:Nat} {bca:Nat} {qcad qcaf:Option Addr} {ccad ccaf:Nat} {cad:List Int} {caf:List (List Term)} {n:Int} {xs:List (Int × Nat)} {b:Nat} (pc0:CellAt H bc 0 (.pointer (some ⟨bca,0,none⟩))) (pc1:CellAt H bc 1 (.map (some lc))) (pcad:CellAt H bca 0 (.slice qcad cad.length ccad)) (pcaf:CellAt H bca 1 (.slice qcaf caf.length ccaf)) (hcad:Ints H qcad cad) (hcaf:Forms H qcaf caf) (hn : -1000000≤n∧n≤1000000) (hb:look xs n=some b) (hH:Hp B H0 H (lvM lc xs::L) w):Calls Tryz.prog 77 [.pointer (some ⟨bc,0,none⟩),.int .i64 n].toArray w fun e w'=>e = .returned (.pointer (some ⟨b,0,none⟩))∧Hp B H0 H (lvM lc xs::L) w':=by
 refine Jx Tryz.func77 rfl 63 rfl rfl [(0,.pointer (some ⟨bc,0,none⟩)),(1,.int .i64 n)] rfl hH ?_;clear hH;refine Je fun _ hK1 _=>(Jb (Jg (Jd rfl) rfl (Jf (Ja (hK1 (Je fun _ hK2 _=>(Je fun _ hK3 _=>(Jb (Jg (Jc rfl) rfl (Jg (Jv rfl) rfl (Jg (Jl u126 rfl sz124 rfl) rfl (Jg (JE (q:=some ⟨bc,0,none⟩) (k:=1) rfl pc1 pl124) rfl (Jg (Jc rfl) rfl (Jg (PR.lookO2 u124 kI zv89 rfl At.z rfl ⟨by omega,by omega⟩) rfl (Jg (Jc rfl) rfl ?_)))))))))))))));refine Jg (JI rfl rfl) rfl (Jg (JI rfl rfl) rfl (Jg (Jd rfl) rfl (Jg (Jd rfl) rfl (Jf (Ja (hK3 (Je fun _ hK4 _=>(Jb (Jg (Jc rfl) rfl (Jf (Ja (hK4 (Ei rfl (fun h19=>?_) (fun h19=>?_))))))))))))))
 ·
  refine Je fun _ hK5 _=>(Jb (Jg (Jc rfl) rfl (Jg (Jd rfl) rfl (Jf (Ja (hK5 (Jt (Jk (Jr rfl (Res.tmp rfl) fun w hH=>?_)))))))));replace hH:=hH.sublist (.cons_cons _ (List.Sublist.refl _));exact ⟨by rw [hb];rfl,hH⟩
 ·
  exact absurd h19 (by rw [hb];simp)
theorem look_z {xs:List (Int × Nat)} {n:Int} {b:Nat}:look ((n,b)::xs) n=some b:=by simp [look,List.find?]
theorem look_s {xs:List (Int × Nat)} {n m:Int} {b b':Nat} (h:n≠m) (hl:look xs m=some b):look ((n,b')::xs) m=some b:=by
 unfold look at hl ⊢;rw [List.find?_cons_of_neg (by simpa using h)];exact hl
theorem zv3:ZeroV Tryz.prog 3 (.int .i64 0):=fun _=>by kernel_rfl
theorem bare_c {B:World} {H0 H:HP} {L:List SA} {w:World} {bc lc:Nat} {bca:Nat} {qcad qcaf:Option Addr} {ccad ccaf:Nat} {cad:List Int} {caf:List (List Term)} {n:Int} {ls:List (Int × Lv)} {X:Int→Prop} (pc0:CellAt H bc 0 (.pointer (some ⟨bca,0,none⟩))) (pc1:CellAt H bc 1 (.map (some lc))) (pcad:CellAt H bca 0 (.slice qcad cad.length ccad)) (pcaf:CellAt H bca 1 (.slice qcaf caf.length ccaf)) (hcad:Ints H qcad cad) (hcaf:Forms H qcaf caf) (hd : ∀j,j<cad.length→1≤cad.getD j 0∧cad.getD j 0≤12) (h8:cad.length≤8) (hn : -1000000≤n∧n≤1000000) (hC:CpxOk H cad caf X ls) (hH:Hp B H0 H (cpx lc ls::L) w) :
 Calls Tryz.prog 77 [.pointer (some ⟨bc,0,none⟩),.int .i64 n].toArray w fun e w'=>∃H' ls' x,Le H H' ∧CpxOk H' cad caf X ls' ∧(n,x)∈ls' ∧(∀y∈ls,y∈ls')∧(∀Y,Nxt Y ls→Nxt Y ls')∧e = .returned (.pointer (some ⟨x.b,0,none⟩))∧Hp B H0 H' (cpx lc ls'::L) w':=bareX_c pc0 pc1 pcad pcaf hcad hcaf hd h8 hn hC hH.unstar
theorem row_set {ps:List Pw} (hn:ps.Nodup) {g g':Pw→Int} {i:Nat} {v:Int} (hi:i<ps.length) (h1:g' (rw_ ps i)=v) (h2 : ∀p,p≠rw_ ps i→g' p=g p):(ps.map g).set i v=ps.map g':=by
 have e:rw_ ps i=ps[i]:=by simp [rw_,List.getD_eq_getElem?_getD,List.getElem?_eq_getElem hi]
 rw [e] at h1 h2;refine List.ext_getElem (by simp) fun j hj hj'=>?_;rw [List.getElem_set];simp only [List.length_map] at hj'
 split
 ·rename_i e
  subst e
  simp [h1]
 ·rename_i e
  rw [List.getElem_map,List.getElem_map,h2];exact fun h=>e ((List.getElem_inj hn).1 h).symm
def RowI (s:Sm) (ls:Sm) (g:Pw→Int):Prop:=(∀x∈ls,x∈s)∧(ls.map (·.1)).Nodup∧∀p,g p=if p∈ls.map (·.1) then 0 else cf s p
theorem cf_mem0 : ∀{s:Sm} {p:Pw},p ∉ s.map (·.1)→cf s p=0
 | [],_,_=>rfl
 | x::s,p,h=>by
  simp only [List.map_cons,List.mem_cons,not_or] at h
  simp only [cf]
  rw [if_neg (fun e=>h.1 e.symm)]
  exact cf_mem0 h.2
theorem RowI.start {M:Int} {s:Sm} (hs:Sok M s):RowI s s fun _=>0:=⟨fun _ h=>h,hs.nodup,fun p=>by
 split
 ·rfl
 ·rename_i h
  exact (cf_mem0 h).symm⟩
theorem cf_in {M:Int} : ∀{s:Sm},Sok M s→∀{x:Pw × Int},x∈s→cf s x.1=x.2
 | [],_,_,h=>by simp at h
 | y::s,hs,x,h=>by
  simp only [cf]
  rcases List.mem_cons.1 h with rfl | h
  ·rw [if_pos rfl]
  ·have:y.1≠x.1:=before_ne ((List.pairwise_cons.1 hs.srt).1 x h)
   rw [if_neg this]
   exact cf_in hs.tail h
def putG (g:Pw→Int) (x:Pw × Int):Pw→Int:=fun p=>if p=x.1 then x.2 else g p
theorem RowI.next {M:Int} {s:Sm} (hs:Sok M s) {la lb:Sm} {x:Pw × Int} {g:Pw→Int} (h:RowI s (la++x::lb) g):RowI s (la++lb) (putG g x):=by
 have hp:((la++x::lb).map (·.1)).Perm (x.1::(la++lb).map (·.1)):=(List.perm_middle (a:=x)).map _;have hnd:=List.nodup_cons.1 (hp.nodup_iff.1 h.2.1);refine ⟨fun y hy=>h.1 y (by simp at hy ⊢;rcases hy with h | h <;> simp [h]),hnd.2,fun p=>?_⟩;unfold putG
 by_cases e:p=x.1
 ·subst e;rw [if_pos rfl,if_neg hnd.1,cf_in hs (h.1 x (by simp))]
 ·rw [if_neg e,h.2.2 p]
  have:p∈(la++x::lb).map (·.1)↔p∈(la++lb).map (·.1):=by
   rw [hp.mem_iff,List.mem_cons];exact ⟨fun h=>h.resolve_left e,.inr⟩
  simp only [this]
theorem RowI.end {s:Sm} {g:Pw→Int} (h:RowI s [] g):g=cf s:=funext fun p=>by rw [h.2.2 p];simp
theorem RowI.set {ps:List Pw} (hn:ps.Nodup) {g:Pw→Int} {x:Pw × Int} {i:Nat} (hi:i<ps.length) (hx:rw_ ps i=x.1):(ps.map g).set i x.2=ps.map (putG g x):=
 row_set hn hi (by rw [hx];unfold putG;rw [if_pos rfl]) fun p hp=>by unfold putG;rw [if_neg (hx ▸ hp)]
theorem map_zero (ps:List Pw):List.replicate ps.length (0:Int)=ps.map fun _=>0:=by
 induction ps with
 | nil=>rfl
 | cons p ps ih=>rw [List.length_cons,List.replicate_succ,ih];rfl
theorem look_at {ps:List Pw} (hn:ps.Nodup) {i:Nat} {p:Pw} (hi:i<ps.length) (hx:rw_ ps i=p):(look (plM ps) p).elim (Value.int .i64 0) (Value.int .i64) = .int .i64 (i:Int):=by
 rw [← hx,plM_at hn hi]
 rfl
def rowK (ps:List Pw) (row:List Int) (k:Nat):Sm:=(List.range k).map fun i=>(rw_ ps i,row.getD i 0)
theorem rowK_succ (ps:List Pw) (row:List Int) (k:Nat):rowK ps row (k+1)=rowK ps row k++[(rw_ ps k,row.getD k 0)]:=by
 unfold rowK;rw [List.range_succ,List.map_append]
 rfl
def sumR (ps:List Pw) (row:List Int):Sm:=acc [] (rowK ps row row.length)
theorem rowK_sok {M:Int} {ps:List Pw} (h : ∀p∈ps,Pok M p) {row:List Int} {k:Nat} (hk:k≤ps.length):Sok M (acc [] (rowK ps row k)):=Sok.nil.acc fun x hx=>by
 obtain ⟨i,hi,rfl⟩:=List.mem_map.1 hx
 exact h _ (rw_mem (by have:=List.mem_range.1 hi;omega))
theorem sumR_sok {M:Int} {ps:List Pw} (h : ∀p∈ps,Pok M p) {row:List Int} (hk:row.length≤ps.length):Sok M (sumR ps row):=rowK_sok h hk
theorem row_c {B:World} {H0 H:HP} {L:List SA} {w:World} {bl plb:Nat} {ql:Option Addr} {cl:Nat} {ps:List Pw} {vs:Value} {Ms:Int} {s:Sm} (pl0:CellAt H bl 0 (.slice ql ps.length cl)) (pl1:CellAt H bl 1 (.map (some plb))) (hs:SumH H vs s) (ks:Sok Ms s) (hps:Pows H ql ps) (hpl:SumH H (.map (some plb)) (plM ps)) (hnd:ps.Nodup) (hM:Ms≤1000000) (hin : ∀x∈s,x.1∈ps) (hpl1:ps.length≤1000000) (hH:Hp B H0 H L w):Calls Tryz.prog 81 [.pointer (some ⟨bl,0,none⟩),vs].toArray w fun e w'=>∃q c,e = .returned (.slice q (ps.map (cf s)).length c)∧Hp B H0 H (own 2 1 q (ps.map (cf s)).length c (intsC (ps.map (cf s)))::L) w':=by
 refine Jx Tryz.func81 rfl 31 rfl rfl [(0,.pointer (some ⟨bl,0,none⟩)),(1,vs)] rfl hH ?_;clear hH;obtain ⟨bs,ess,cls,rfl,hbs,hes⟩:=hs;have hs:SumH H (.map (some bs)) s:=⟨bs,ess,cls,rfl,hbs,hes⟩;refine Je fun _ hK1 _=>(Jb (Jg (Jd rfl) rfl (Jf (Ja (hK1 (Je fun _ hK2 _=>(Jb (Jg (Jc rfl) rfl (Jg (Jv rfl) rfl (Jg (Jl u88 rfl sz85 rfl) rfl (Jg (JE (q:=some ⟨bl,0,none⟩) (k:=0) rfl pl0 pl85) rfl (Jg (Jo u85 rfl rfl) rfl (EI (MK.makeI (m:=ps.length) u22 ze2 sz2 by2 rfl rfl rfl rfl (by omega)) rfl fun qo13 co13=>(Jg (Ep (v':=.slice qo13 ps.length co13) (by rw [List.length_replicate]) (Jd rfl)) rfl (Jf ?_)))))))))))))));refine Ja (hK2 (Je fun _ hK3 _=>(Je fun _ hK4 _=>(Jb (Jg (Jc rfl) rfl (J.range u92 rfl hbs hes rfl fun r15=>(Jf (Ja (hK4 (Jp (JD (σ:=Option (Pw × Int) × Sm × (Pw→Int)) (fun ⟨la,ls,g⟩=>[]) (fun ⟨la,ls,g⟩=>H) (fun ⟨la,ls,g⟩=>itr pwE (Value.int .i64) bs ess cls r15 la ls::own 2 1 qo13 ps.length co13 (intsC (ps.map g))::L) (fun ⟨la,ls,g⟩=>RowI s ls g) (fun ⟨la,ls,g⟩=>ls.length) (none,s,fun _=>0) (RowI.start ks) trivial rfl (by dsimp only;rw [← map_zero,List.length_replicate]) ?_)))))))))));rintro ⟨la,ls,g⟩ hI _ hAg0;refine Je fun _ hK5 _=>(Jb (J.next rfl hbs hes (fun _ _=>At.z) rfl (fun hE16=>?_) (fun nx16 la16 lb16 hL16=>?_)))
 ·
  refine Jg (JI rfl rfl) rfl (Jf (Ja (hK5 (Je fun _ hK6 _=>(EE rfl (JG (Jj (Jj (JK (Ja (hK3 (Je fun _ hK7 _=>(Jb (Jg (Jc rfl) rfl (Jg (Jd rfl) rfl (Jf ?_))))))))))))))));refine Ja (hK7 (Jt (Jr rfl (Res.tmp rfl) fun w hH=>?_)));replace hH:=hH.sublist (.cons _ (.cons_cons _ (List.Sublist.refl _)));have hI2:RowI s ls g:=hI;rw [hE16] at hI2;rw [hI2.end] at hH;exact ⟨_,_,by rw [List.length_map],by rw [List.length_map];exact hH⟩
 ·
  subst hL16;have hu:=hI.1 nx16 (by simp);obtain ⟨i,hi,hie⟩:=mem_rw.1 (hin nx16 hu);have hu8:=(ks.key nx16 hu).len;refine Jg (JI rfl rfl) rfl (Jf (Ja (hK5 (Je fun _ hK8 _=>(Ew rfl (Jn (Ja (hK8 (Jp (Je fun _ hK9 _=>(Jb (Jg (PR.entry rfl hbs hes At.z) rfl (Jg (JI rfl rfl) rfl (Jg (JI rfl rfl) rfl (JP ze148 rfl fun g6=>(JB rfl rfl (by first | exact bytesC_one _ | exact intsC_one _ | exact Term.c_one _ | simp [Value.oneCell']) (by simpa [*] using sz148) (by simp [*]) At.z ?_))))))))))))))));refine Jg (Jd rfl) rfl (Jf (Ja (hK9 (Ea (Rs:=[_,_,_]) 10 [[], [], [1], [1,2], [1,2,3], [], [1,2,3,4,5], [], [0,1,2,3,4,5,6,7], [0,1,2,3,4,5,6,7,8]] [[], [], [], [], [], [10], [], [], [12], []] [[], [], [], [], [], [], [], [], [], [12]] rfl rfl (by kernel_rfl) ?_))));apply Ji 1 rfl rfl rfl
  ·intros;conv=>lhs;simp only [Jh,reduceEqDiff,reduceAdd]
  ·exact Jc rfl
  apply Ji 2 rfl rfl rfl
  ·intros;conv=>lhs;simp only [Jh,reduceEqDiff,reduceAdd]
  ·exact Jc rfl
  apply Ji 3 rfl rfl rfl
  ·intros;conv=>lhs;simp only [Jh,reduceEqDiff,reduceAdd]
  ·exact Jv rfl
  apply Ji 4 rfl rfl rfl
  ·intros;conv=>lhs;simp only [Jh,reduceEqDiff,reduceAdd]
  ·exact Jl u88 rfl sz86 rfl
  apply Ji 5 rfl rfl rfl
  ·intros;conv=>lhs;simp only [Jh,reduceEqDiff,reduceAdd]
  ·exact JE (q:=some ⟨bl,0,none⟩) (k:=1) rfl pl1 pl86
  apply Ji 6 rfl rfl rfl
  ·intros;conv=>lhs;simp only [Jh,reduceEqDiff,reduceAdd]
  ·exact Jm rfl At.z (by simpa [*] using ag148)
  apply Ji 7 rfl rfl rfl
  ·intros;conv=>lhs;simp only [Jh,reduceEqDiff,reduceAdd]
  ·exact Ep (v':=.int .i64 (i:Int)) (look_at hnd hi hie) (PR.lookH u86 pwK zv3 rfl hpl rfl (pwOk_of (ks.key nx16 hu) hM))
  apply Ji 8 rfl rfl rfl
  ·intros;conv=>lhs;simp only [Jh,reduceEqDiff,reduceAdd]
  ·exact Jc rfl
  apply Ji 9 rfl rfl rfl
  ·intros;conv=>lhs;simp only [Jh,reduceEqDiff,reduceAdd]
  ·exact Eu u22 sz2 rfl rfl rfl (by omega) At.z
  apply EZ 10 rfl
  ·intros;conv=>lhs;simp only [Jh,reduceEqDiff,reduceAdd]
  ·
   intro gh X K hK;refine ET rfl rfl sz2 (by omega) At.z (Jy ?_);exact hK
  ·intro gh gh' h;rfl
  apply JZ [0,1,2,3,4,5,6,7,8,9] [0,1,2,3,4,5,6,7,8,9,10,11] foll0 rfl rfl rfl (by rfl)
  iterate 2 focus (intros;(conv=>lhs;simp only [JU,Ej,Ka,El,Es,eq_self,reduceEqDiff,reduceIte,reduceSub,reduceAdd,JxA,JxB]);all_goals rfl)
  intro gh;clear gh;refine JF (Ja (JN (.s .z) (Jw .z (Jw (.s .z) ?_))));exact hAg0 (some nx16,la16++lb16,putG g nx16) (hI.next ks) (by simp) 16 rfl rfl trivial rfl (by rw [RowI.set hnd hi hie])
theorem sum_c {B:World} {H0 H:HP} {L:List SA} {w:World} {bl plb:Nat} {ql:Option Addr} {cl:Nat} {ps:List Pw} {qrow:Option Addr} {crow:Nat} {row:List Int} {M:Int} (pl0:CellAt H bl 0 (.slice ql ps.length cl)) (pl1:CellAt H bl 1 (.map (some plb))) (hrow:Ints H qrow row) (hps:Pows H ql ps) (hok : ∀p∈ps,Pok M p) (hM:M≤1000000) (hrl:row.length≤ps.length) (hrv : ∀j, -1000000000≤row.getD j 0∧row.getD j 0≤1000000000) (hpl1:ps.length≤1000000) (hH:Hp B H0 H L w):Calls Tryz.prog 80 [.pointer (some ⟨bl,0,none⟩),.slice qrow row.length crow].toArray w fun e w'=>∃b,e = .returned (.map (some b))∧Hp B H0 H (osum b (sumR ps row)::L) w':=by
 refine Jx Tryz.func80 rfl 28 rfl rfl [(0,.pointer (some ⟨bl,0,none⟩)),(1,.slice qrow row.length crow)] rfl hH ?_;clear hH;refine Je fun _ hK1 _=>(Jb (Jg (Jd rfl) rfl (Jf (Ja (hK1 (Je fun _ hK2 _=>(Jb (ER pwE (Value.int .i64) pwOk rfl fun bm8=>(Jg (Jd rfl) rfl (Jf (Ja (hK2 (Je fun _ hK3 _=>(Je fun _ hK4 _=>(Jb (Jg (Jc rfl) rfl ?_))))))))))))))));refine Jg (Jo u22 rfl rfl) rfl (Jg (Jc rfl) rfl (Jf (Ja (hK4 (Jp (JD (σ:=Nat) (fun (k:Nat)=>[(11,.int .i64 (k:Int))]) (fun (k:Nat)=>H) (fun (k:Nat)=>osum bm8 (acc [] (rowK ps row k))::L) (fun (k:Nat)=>k≤row.length) (fun (k:Nat)=>row.length - k) 0 (by omega) ⟨rfl,trivial⟩ rfl rfl ?_))))));rintro k hk _ hAg0;have ksn:Sok M (acc [] (rowK ps row k)):=rowK_sok hok (by omega);refine Je fun _ hK5 _=>(Jb (Jg (JJ rfl rfl) rfl (Jf (Ja (hK5 (Je fun _ hK6 _=>(Jq rfl (fun h12=>?_) (fun h12=>?_))))))))
 ·
  have hkk:k<row.length:=by omega
  have hrk:=hrv k;have hpk:=hok _ (rw_mem (show k<ps.length by omega));refine Jn (Ja (hK6 (Je fun _ hK7 _=>(Jp (Je fun _ hK8 _=>(Jb (Jg (Jc rfl) rfl (Jg (JL u22 sz2 rfl rfl rfl (by omega) hrow.sm) rfl (Jg (JE rfl (hrow _ (by omega)) pl2) rfl (Jg (Jd rfl) rfl (Jg (Jd rfl) rfl (Jf (Ja (hK8 (Jb (Jg (Jc rfl) rfl ?_))))))))))))))));refine Jg (Jc rfl) rfl (Jg (Jv rfl) rfl (Jg (Jl u88 rfl sz85 rfl) rfl (Jg (JE (q:=some ⟨bl,0,none⟩) (k:=0) rfl pl0 pl85) rfl (Jg (Jc rfl) rfl (Jg (Ey u85 sz148 rfl rfl rfl (by omega) hps.sm) rfl (Jg (JM rfl (hps.cell _ (by omega)) (hps.sm (i:=k) (by omega)) (by rw [intsC_length,hps.len _ (by omega)];exact ag148)) rfl (Jg (Jc rfl) rfl (Ju fn85 rfl rfl fun w hH=>(add_c ksn hpk (by omega) (by omega) (by omega) (hH.front .z)).mono ?_))))))));rintro _ w ⟨rfl,hH⟩;refine ⟨_,rfl,fun a hF=>JH hF hH ?_⟩;refine Jf (JF (Ja (hK7 (Jb (Jg (Jz rfl rfl (by first | exact nw _ (by omega) | rfl)) rfl (Jg (Jc rfl) rfl (Jf (Ja ?_))))))));exact hAg0 (k+1) (by omega) (by omega) 19 rfl rfl ⟨rfl,trivial⟩ rfl (by rw [rowK_succ,acc_one])
 ·
  refine JG (Jj (Jj (JK (Ja (hK3 (Je fun _ hK9 _=>(Jb (Jg (Jc rfl) rfl (Jg (Jd rfl) rfl (Jf (Ja (hK9 (Jt (Jr rfl (Res.tmp rfl) fun w hH=>?_))))))))))))));replace hH:=hH.sublist (.cons_cons _ (List.Sublist.refl _));rw [show k=row.length by omega] at hH;exact ⟨_,rfl,hH⟩
def anyI (T:TypeId) (q:Option Addr) (c:Nat) (Pr:List Int→Prop):SA where
 fp:=fun b=>∃p:Addr,q=some p∧p.block=b
 holds:=fun h=>∃r,Pr r∧(own T 1 q r.length c (intsC r)).holds h
 loc:=fun h h' hb ⟨r,hr,hh⟩=>⟨r,hr,(own T 1 q r.length c (intsC r)).loc h h' hb hh⟩
section
variable {B : World} {H0 H : HP} {L : List SA} {w : World} {T : TypeId} {q : Option Addr} {c : Nat} {Pr : List Int → Prop}
theorem Hp.anyI {r:List Int} (hr:Pr r) (h:Hp B H0 H (own T 1 q r.length c (intsC r)::L) w):Hp B H0 H (anyI T q c Pr::L) w:=h.reAt .z ⟨r,hr,(h.objs _ List.mem_cons_self).1⟩ fun b hb=>hb
theorem Hp.unany (h:Hp B H0 H (G.anyI T q c Pr::L) w) : ∃r,Pr r∧Hp B H0 H (own T 1 q r.length c (intsC r)::L) w:=by
 obtain ⟨r,hr,hh⟩:=(h.objs _ List.mem_cons_self).1;exact ⟨r,hr,h.reAt .z hh fun b hb=>hb⟩
theorem EJ.unany {R:Act→World→Prop} {n:Nat} {us:List (Nat × Value)} {L':List SA} (hr:Rm L (G.anyI T q c Pr) L') (k : ∀r,Pr r→EJ R n B H0 us H (own T 1 q r.length c (intsC r)::L')):EJ R n B H0 us H L:=fun a w hF hH=>by
 obtain ⟨r,h1,h2⟩:=(hH.front hr).unany
 exact k r h1 a w hF h2
end
def RwI (ps:List Pw) (s ls:Sm) (row:List Int):Prop:=(∀x∈ls,x∈s)∧RowOk ps.length row∧((∀x∈s,x.1∈ps)→∃g,RowI s ls g∧row=ps.map g)
theorem RowOk.zeros (W:Nat):RowOk W (List.replicate W 0):=⟨by simp,fun i=>by rw [rep_get];omega⟩
theorem RowOk.set {W:Nat} {row:List Int} (h:RowOk W row) {i:Nat} {v:Int} (hv:0≤v∧v≤10006):RowOk W (row.set i v):=⟨by rw [List.length_set];exact h.len,fun j=>by
 have h1:=h.val j
 rw [List.getD_eq_getElem?_getD,List.getElem?_set]
 split
 ·split
  ·exact hv
  ·simp
 ·rw [← List.getD_eq_getElem?_getD]
  exact h1⟩
section
variable {M : Int} {ps : List Pw} {s la lb : Sm} {row : List Int} {x : Pw × Int}
theorem RwI.start (hs:Sok M s):RwI ps s s (List.replicate ps.length 0):=⟨fun _ h=>h,RowOk.zeros _,fun _=>⟨_,RowI.start hs,map_zero ps⟩⟩
theorem RwI.next (hs:Sok M s) (hn:ps.Nodup) (h:RwI ps s (la++x::lb) row) {i:Nat} (hi:i<ps.length) (hx:x.1∈ps→rw_ ps i=x.1):RwI ps s (la++lb) (row.set i x.2):=by
 have hm:=h.1 x (by simp);have hv:=hs.val x hm;refine ⟨fun y hy=>h.1 y (by simp at hy ⊢;rcases hy with h | h <;> simp [h]),h.2.1.set (by omega),fun hall=>?_⟩;obtain ⟨g,hg,rfl⟩:=h.2.2 hall;exact ⟨_,hg.next hs,RowI.set hn hi (hx (hall x hm))⟩
theorem RwI.end (h:RwI ps s [] row):RowOk ps.length row∧((∀x∈s,x.1∈ps)→row=ps.map (cf s)):=⟨h.2.1,fun hall=>by
 obtain ⟨g,hg,e⟩:=h.2.2 hall
 rw [e,hg.end]⟩
theorem look_ix {p:Pw} (hn:ps.Nodup) (h0:p∈ps∨0<ps.length) : ∃i,i<ps.length∧(p∈ps→rw_ ps i=p)∧(look (plM ps) p).elim (Value.int .i64 0) (Value.int .i64) = .int .i64 (i:Int):=by
 by_cases h:p∈ps
 ·obtain ⟨i,hi,e⟩:=mem_rw.1 h;exact ⟨i,hi,fun _=>e,look_at hn hi e⟩
 ·refine ⟨0,h0.resolve_left h,fun h'=>absurd h' h,?_⟩;rw [look_none fun y hy e=>h (by rw [← plM_keys ps,← e];exact List.mem_map.2 ⟨y,hy,rfl⟩)]
  rfl
end
theorem rowG_c {B:World} {H0 H:HP} {L:List SA} {w:World} {bl plb:Nat} {ql:Option Addr} {cl:Nat} {ps:List Pw} {vs:Value} {Ms:Int} {s:Sm} (pl0:CellAt H bl 0 (.slice ql ps.length cl)) (pl1:CellAt H bl 1 (.map (some plb))) (hs:SumH H vs s) (ks:Sok Ms s) (hps:Pows H ql ps) (hpl:SumH H (.map (some plb)) (plM ps)) (hnd:ps.Nodup) (hM:Ms≤1000000) (hin:(∀x∈s,x.1∈ps)∨0<ps.length) (hpl1:ps.length≤1000000) (hH:Hp B H0 H L w):Calls Tryz.prog 81 [.pointer (some ⟨bl,0,none⟩),vs].toArray w fun e w'=>∃q c r,(RowOk ps.length r∧((∀x∈s,x.1∈ps)→r=ps.map (cf s)))∧e = .returned (.slice q ps.length c)∧Hp B H0 H (own 2 1 q r.length c (intsC r)::L) w':=by
 refine Jx Tryz.func81 rfl 31 rfl rfl [(0,.pointer (some ⟨bl,0,none⟩)),(1,vs)] rfl hH ?_;clear hH;obtain ⟨bs,ess,cls,rfl,hbs,hes⟩:=hs;have hs:SumH H (.map (some bs)) s:=⟨bs,ess,cls,rfl,hbs,hes⟩;refine Je fun _ hK1 _=>(Jb (Jg (Jd rfl) rfl (Jf (Ja (hK1 (Je fun _ hK2 _=>(Jb (Jg (Jc rfl) rfl (Jg (Jv rfl) rfl (Jg (Jl u88 rfl sz85 rfl) rfl (Jg (JE (q:=some ⟨bl,0,none⟩) (k:=0) rfl pl0 pl85) rfl (Jg (Jo u85 rfl rfl) rfl (EI (MK.makeI (m:=ps.length) u22 ze2 sz2 by2 rfl rfl rfl rfl (by omega)) rfl fun qo13 co13=>(Jg (Ep (v':=.slice qo13 ps.length co13) (by rw [List.length_replicate]) (Jd rfl)) rfl (Jf ?_)))))))))))))));refine Ja (hK2 (Je fun _ hK3 _=>(Je fun _ hK4 _=>(Jb (Jg (Jc rfl) rfl (J.range u92 rfl hbs hes rfl fun r15=>(Jf (Ja (hK4 (Jp (JD (σ:=Option (Pw × Int) × Sm × List Int) (fun ⟨la,ls,row⟩=>[]) (fun ⟨la,ls,row⟩=>H) (fun ⟨la,ls,row⟩=>itr pwE (Value.int .i64) bs ess cls r15 la ls::own 2 1 qo13 ps.length co13 (intsC row)::L) (fun ⟨la,ls,row⟩=>RwI ps s ls row) (fun ⟨la,ls,row⟩=>ls.length) (none,s,List.replicate ps.length 0) (RwI.start ks) trivial rfl (by dsimp only;rw [List.length_replicate]) ?_)))))))))));rintro ⟨la,ls,row⟩ hI _ hAg0;refine Je fun _ hK5 _=>(Jb (J.next rfl hbs hes (fun _ _=>At.z) rfl (fun hE16=>?_) (fun nx16 la16 lb16 hL16=>?_)))
 ·
  refine Jg (JI rfl rfl) rfl (Jf (Ja (hK5 (Je fun _ hK6 _=>(EE rfl (JG (Jj (Jj (JK (Ja (hK3 (Je fun _ hK7 _=>(Jb (Jg (Jc rfl) rfl (Jg (Jd rfl) rfl (Jf ?_))))))))))))))));refine Ja (hK7 (Jt (Jr rfl (Res.tmp rfl) fun w hH=>?_)));replace hH:=hH.sublist (.cons _ (.cons_cons _ (List.Sublist.refl _)));have hI2:RwI ps s ls row:=hI;rw [hE16] at hI2;obtain ⟨h1,h2⟩:=hI2.end;exact ⟨_,_,row,⟨h1,h2⟩,rfl,by rw [h1.len];exact hH⟩
 ·
  subst hL16;have hu:=hI.1 nx16 (by simp);obtain ⟨i,hi,hie,hlk⟩:=look_ix hnd (hin.imp (fun h=>h nx16 hu) id);have hu8:=(ks.key nx16 hu).len;have hrl:=hI.2.1.len;refine Jg (JI rfl rfl) rfl (Jf (Ja (hK5 (Je fun _ hK8 _=>(Ew rfl (Jn (Ja (hK8 (Jp (Je fun _ hK9 _=>(Jb (Jg (PR.entry rfl hbs hes At.z) rfl (Jg (JI rfl rfl) rfl (Jg (JI rfl rfl) rfl (JP ze148 rfl fun g6=>(JB rfl rfl (by first | exact bytesC_one _ | exact intsC_one _ | exact Term.c_one _ | simp [Value.oneCell']) (by simpa [*] using sz148) (by simp [*]) At.z ?_))))))))))))))));refine Jg (Jd rfl) rfl (Jf (Ja (hK9 (Ea (Rs:=[_,_,_]) 10 [[], [], [1], [1,2], [1,2,3], [], [1,2,3,4,5], [], [0,1,2,3,4,5,6,7], [0,1,2,3,4,5,6,7,8]] [[], [], [], [], [], [10], [], [], [12], []] [[], [], [], [], [], [], [], [], [], [12]] rfl rfl (by kernel_rfl) ?_))));apply Ji 1 rfl rfl rfl
  ·intros;conv=>lhs;simp only [Jh,reduceEqDiff,reduceAdd]
  ·exact Jc rfl
  apply Ji 2 rfl rfl rfl
  ·intros;conv=>lhs;simp only [Jh,reduceEqDiff,reduceAdd]
  ·exact Jc rfl
  apply Ji 3 rfl rfl rfl
  ·intros;conv=>lhs;simp only [Jh,reduceEqDiff,reduceAdd]
  ·exact Jv rfl
  apply Ji 4 rfl rfl rfl
  ·intros;conv=>lhs;simp only [Jh,reduceEqDiff,reduceAdd]
  ·exact Jl u88 rfl sz86 rfl
  apply Ji 5 rfl rfl rfl
  ·intros;conv=>lhs;simp only [Jh,reduceEqDiff,reduceAdd]
  ·exact JE (q:=some ⟨bl,0,none⟩) (k:=1) rfl pl1 pl86
  apply Ji 6 rfl rfl rfl
  ·intros;conv=>lhs;simp only [Jh,reduceEqDiff,reduceAdd]
  ·exact Jm rfl At.z (by simpa [*] using ag148)
  apply Ji 7 rfl rfl rfl
  ·intros;conv=>lhs;simp only [Jh,reduceEqDiff,reduceAdd]
  ·exact Ep (v':=.int .i64 (i:Int)) hlk (PR.lookH u86 pwK zv3 rfl hpl rfl (pwOk_of (ks.key nx16 hu) hM))
  apply Ji 8 rfl rfl rfl
  ·intros;conv=>lhs;simp only [Jh,reduceEqDiff,reduceAdd]
  ·exact Jc rfl
  apply Ji 9 rfl rfl rfl
  ·intros;conv=>lhs;simp only [Jh,reduceEqDiff,reduceAdd]
  ·exact Eu u22 sz2 rfl rfl rfl (by omega) At.z
  apply EZ 10 rfl
  ·intros;conv=>lhs;simp only [Jh,reduceEqDiff,reduceAdd]
  ·
   intro gh X K hK;refine ET rfl rfl sz2 (by omega) At.z (Jy ?_);exact hK
  ·intro gh gh' h;rfl
  apply JZ [0,1,2,3,4,5,6,7,8,9] [0,1,2,3,4,5,6,7,8,9,10,11] foll0 rfl rfl rfl (by rfl)
  iterate 2 focus (intros;(conv=>lhs;simp only [JU,Ej,Ka,El,Es,eq_self,reduceEqDiff,reduceIte,reduceSub,reduceAdd,JxA,JxB]);all_goals rfl)
  intro gh;clear gh;refine JF (Ja (JN (.s .z) (Jw .z (Jw (.s .z) ?_))));exact hAg0 (some nx16,la16++lb16,row.set i nx16.2) (hI.next ks hnd hi hie) (by simp) 16 rfl rfl trivial rfl rfl
theorem rowG_a {B:World} {H0 H:HP} {L:List SA} {w:World} {bl plb:Nat} {ql:Option Addr} {cl:Nat} {ps:List Pw} {vs:Value} {Ms:Int} {s:Sm} (pl0:CellAt H bl 0 (.slice ql ps.length cl)) (pl1:CellAt H bl 1 (.map (some plb))) (hs:SumH H vs s) (ks:Sok Ms s) (hps:Pows H ql ps) (hpl:SumH H (.map (some plb)) (plM ps)) (hnd:ps.Nodup) (hM:Ms≤1000000) (hin:(∀x∈s,x.1∈ps)∨0<ps.length) (hpl1:ps.length≤1000000) (hH:Hp B H0 H L w) :
 Calls Tryz.prog 81 [.pointer (some ⟨bl,0,none⟩),vs].toArray w fun e w'=>∃q c,e = .returned (.slice q ps.length c)∧Hp B H0 H (anyI 2 q c (fun r=>RowOk ps.length r∧((∀x∈s,x.1∈ps)→r=ps.map (cf s)))::L) w':=(rowG_c pl0 pl1 hs ks hps hpl hnd hM hin hpl1 hH).mono fun e w' h=>by
 obtain ⟨q,c,r,hr,he,hH'⟩:=h
 exact ⟨q,c,he,hH'.anyI hr⟩
theorem sz31:Size Tryz.prog 31 1:=by unfold Size;kernel_rfl
theorem pl31:Plain Tryz.prog 31:=⟨_,u31,rfl⟩
theorem fn77:Fn Tryz.prog 77:=⟨_,Tryz.func77,by kernel_rfl,rfl⟩
theorem fn81:Fn Tryz.prog 81:=⟨_,Tryz.func81,by kernel_rfl,rfl⟩
theorem CpxOk.mono {H:HP} {ds:List Int} {fs:List (List Term)} {X Y:Int→Prop} {ls:List (Int × Lv)} (h:CpxOk H ds fs X ls) (hXY : ∀x∈ls,X x.1→Y x.1):CpxOk H ds fs Y ls:=⟨h.nd,fun x hx=>⟨(h.ok x hx).one,fun hn=>(h.ok x hx).two fun h'=>hn (hXY x hx h'),fun hn=>(h.ok x hx).three fun h'=>hn (hXY x hx h')⟩⟩
theorem LvOk.mono {H:HP} {ds:List Int} {fs:List (List Term)} {X Y:Int→Prop} {n:Int} {x:Lv} (h:LvOk H ds fs X n x) (hXY:X n→Y n):LvOk H ds fs Y n x:=⟨h.one,fun hn=>h.two fun h'=>hn (hXY h'),fun hn=>h.three fun h'=>hn (hXY h')⟩
theorem CpxOk.out2 {H:HP} {ds:List Int} {fs:List (List Term)} {X:Int→Prop} {ls:List (Int × Lv)} {n m:Int} {x y:Lv} (h:CpxOk H ds fs X ls) (hx:(n,x)∈ls) (hy:(m,y)∈ls) (hnm:n≠m) : ∃rest,ls.Perm ((n,x)::(m,y)::rest)∧CpxOk H ds fs X rest∧(∀z∈rest,z.1≠n∧z.1≠m)∧LvOk H ds fs X n x∧LvOk H ds fs X m y:=by
 obtain ⟨r1,hp1,hC1,hn1,hL1⟩:=h.out hx
 have hy1:(m,y)∈r1:=by
  rcases List.mem_cons.1 (hp1.subset hy) with e | e
  ·exact absurd (congrArg Prod.fst e).symm hnm
  ·exact e
 obtain ⟨r2,hp2,hC2,hn2,hL2⟩:=hC1.out hy1;exact ⟨r2,hp1.trans (hp2.cons _),hC2,fun z hz=>⟨hn1 z (hp2.symm.subset (List.mem_cons_of_mem _ hz)),hn2 z hz⟩,hL1,hL2⟩
section
variable {B : World} {H0 H : HP} {L : List SA} {w : World}
theorem Hp.lvOut2 {lb:Nat} {ls rest:List (Int × Lv)} {x y:Int × Lv} (hp:ls.Perm (x::y::rest)) (h:Hp B H0 H (cpx lb ls::L) w):Hp B H0 H (lvB x.2::lvB y.2::lvO rest::lvM lb ((x.1,x.2.b)::(y.1,y.2.b)::lvK rest)::L) w:=by
 have h1:=h.lvOut hp;have h2:=(h1.front (.s .z)).unstar;exact (h2.front (.s (.s .z)))
theorem Hp.lvIn2 {lb:Nat} {rest:List (Int × Lv)} {x y:Int × Lv} (h:Hp B H0 H (lvB x.2::lvB y.2::lvO rest::lvM lb ((x.1,x.2.b)::(y.1,y.2.b)::lvK rest)::L) w):Hp B H0 H (cpx lb (x::y::rest)::L) w:=by
 have h1:=h.front (.s .z);have h2:=(h1.front (.s (.s .z))).front (.s .z);exact Hp.lvIn (x:=x) (rest:=y::rest) ((h2.star.front (.s .z)))
end
def matK (ds:List Int) (fs:List (List Term)) (n:Int) (k:Nat):List (List Int):=((monL ds n).take k).map fun p=>(monL ds (n+1)).map (cf (dS ds fs [(p,1)]))
theorem matK_succ {ds:List Int} {fs:List (List Term)} {n:Int} {k:Nat} (hk:k<(monL ds n).length):matK ds fs n (k+1)=matK ds fs n k++[(monL ds (n+1)).map (cf (dS ds fs [(rw_ (monL ds n) k,1)]))]:=by
 unfold matK;rw [rw_take hk,List.map_append]
 rfl
theorem matK_end {ds:List Int} {fs:List (List Term)} {n:Int} {k:Nat} (hk:k=(monL ds n).length):matK ds fs n k=matS ds fs n:=by
 subst hk;unfold matK matS;rw [List.take_length]
theorem matS_len (ds:List Int) (fs:List (List Term)) (n:Int):(matS ds fs n).length=(monL ds n).length:=by simp [matS]
theorem mon_pok {ds:List Int} {n:Int} (h8:ds.length≤8) {p:Pw} (hp:p∈monS ds n):Pok 20 p:=by
 have h:=enumF_mem (by omega) rfl hp;refine ⟨h.1,fun j=>?_⟩
 by_cases hj:j<ds.length
 ·have:=h.2.2.1 j hj;rw [Nat.zero_add] at this
  omega
 ·have:=h.2.1 j (.inr (by omega));rw [this,show zP=List.replicate 8 0 from rfl,rep_get];omega
theorem mon_ex {ds:List Int} {n:Int} (h8:ds.length≤8) {p:Pw} (hp:p∈monS ds n) (hd : ∀j,j<ds.length→1≤ds.getD j 0∧ds.getD j 0≤12):Ex ds p:=by
 have h:=enumF_mem (by omega) rfl hp;refine ⟨fun i hi=>?_,fun i hi ho=>?_⟩
 ·have:=h.2.1 i (.inr (by omega));rw [this,show zP=List.replicate 8 0 from rfl,rep_get]
 ·have h1:=h.2.2.1 i hi;rw [Nat.zero_add] at h1;refine h1.2.2 ?_;have:=hd i hi;have:=tmod_two (d:=ds.getD i 0) (by omega)
  omega
theorem mon_occ {ds:List Int} {n:Int} {k:Nat} (h8:ds.length≤8) {p:Pw} (hp:p∈monS ds n) (hd : ∀j,j<ds.length→1≤ds.getD j 0∧ds.getD j 0≤12) (hk:k=ds.length):Occ k [(p,1)]:=Ex.occ (fun x hx=>by rw [List.mem_singleton.1 hx];exact mon_ex h8 hp hd) hk
theorem monL_mem {ds:List Int} {n:Int} {k:Nat} (hk:k<(monL ds n).length):rw_ (monL ds n) k∈monS ds n:=List.mem_of_mem_take (rw_mem hk)
theorem monL_nodup {ds:List Int} (h8:ds.length≤8) (n:Int):(monL ds n).Nodup:=(List.take_sublist _ _).nodup (mon_nodup ds n h8)
def Fl (x:Lv):Prop:=x.m.q.isSome=true∧x.z.q.isSome=true
def Kp (ls ls':List (Int × Lv)):Prop:=∀y∈ls,Fl y.2→y∈ls'
theorem Kp.refl (ls:List (Int × Lv)):Kp ls ls:=fun _ h _=>h
theorem Kp.perm {a b c:List (Int × Lv)} (h:Kp a b) (hp:b.Perm c):Kp a c:=fun y hy hF=>hp.subset (h y hy hF)
def MtK (ds:List Int) (fs:List (List Term)) (n:Int) (k:Nat) (ms:List (List Int)):Prop:=ms.length=k∧(∀r∈ms,RowOk (monL ds (n+1)).length r)∧(fitB ds (n+1)=true→ms=matK ds fs n k)
theorem MtK.zero (ds:List Int) (fs:List (List Term)) (n:Int):MtK ds fs n 0 []:=⟨rfl,fun r hr=>by simp at hr,fun _=>rfl⟩
theorem MtK.snoc {ds:List Int} {fs:List (List Term)} {n:Int} {k:Nat} {ms:List (List Int)} {r:List Int} (h:MtK ds fs n k ms) (hk:k<(monL ds n).length) (hr:RowOk (monL ds (n+1)).length r) (he:fitB ds (n+1)=true→r=(monL ds (n+1)).map (cf (dS ds fs [(rw_ (monL ds n) k,1)]))):MtK ds fs n (k+1) (ms++[r]):=by
 obtain ⟨h1,h2,h3⟩:=h;refine ⟨by simp [h1],fun x hx=>?_,fun hf=>?_⟩
 ·rcases List.mem_append.1 hx with hx | hx
  ·exact h2 x hx
  ·rw [List.mem_singleton.1 hx];exact hr
 ·rw [matK_succ hk,h3 hf,he hf]
theorem fit_or (ds:List Int) (n:Int):fitB ds n=true∨0<(monL ds n).length:=by
 cases h:fitB ds n with
 | true=>exact .inl rfl
 | false=>
  right
  unfold fitB at h;have:=of_decide_eq_false h;unfold monL;rw [List.length_take]
  omega
def Hom1 (ds:List Int) (fs:List (List Term)) (n:Int):Prop:=∀p∈monL ds n,∀x∈dS ds fs [(p,1)],x.1∈monL ds (n+1)
theorem withMatrix_c {B:World} {H0 H:HP} {L:List SA} {w:World} {bc lc:Nat} {bca:Nat} {qcad qcaf:Option Addr} {ccad ccaf:Nat} {cad:List Int} {caf:List (List Term)} {n:Int} {ls:List (Int × Lv)} {X:Int→Prop} (pc0:CellAt H bc 0 (.pointer (some ⟨bca,0,none⟩))) (pc1:CellAt H bc 1 (.map (some lc))) (pcad:CellAt H bca 0 (.slice qcad cad.length ccad)) (pcaf:CellAt H bca 1 (.slice qcaf caf.length ccaf)) (hcad:Ints H qcad cad) (hcaf:Forms H qcaf caf) (hd : ∀j,j<cad.length→1≤cad.getD j 0∧cad.getD j 0≤12) (h8:cad.length≤8) (hn : -1≤n∧n≤100000) (hA:AlgOk cad caf) (hX : ¬X n) (hfit:fitB cad n=true) (hom:fitB cad (n+1)=true→Hom1 cad caf n) (hC:CpxOk H cad caf X ls) (hN:Nxt X ls) (hH:Hp B H0 H (cpx lc ls::L) w):Calls Tryz.prog 75 [.pointer (some ⟨bc,0,none⟩),.int .i64 n].toArray w fun e w'=>∃H' ls' x,Le H H' ∧CpxOk H' cad caf X ls' ∧(n,x)∈ls' ∧(∀y∈ls,y.1≠n→y∈ls')∧Nxt X ls' ∧n+1∈ls'.map (·.1)∧(Lv2 H' cad caf n x∧Kp ls ls')∧e = .returned (.pointer (some ⟨x.b,0,none⟩))∧Hp B H0 H' (cpx lc ls'::L) w':=by
 refine Jx Tryz.func75 rfl 55 rfl rfl [(0,.pointer (some ⟨bc,0,none⟩)),(1,.int .i64 n)] rfl hH ?_;have hw0:=hH.old;have hw1:=hH.le;clear hH;refine Je fun _ hK1 _=>(Jb (Jg (Jd rfl) rfl (Jf (Ja (hK1 (Je fun _ hK2 _=>(Jb (Jg (Jc rfl) rfl (Jg (Jc rfl) rfl (Ju fn77 rfl rfl fun w hH=>(bare_c (n:=n) pc0 pc1 pcad pcaf hcad hcaf hd h8 (by omega) hC hH).mono ?_))))))))));rintro _ w ⟨H11,ls11,⟨b11,p11,⟨ql11,kl11,cl11⟩,⟨qm11,km11,cm11⟩,⟨qz11,kz11,cz11⟩,⟨qy11,ky11,cy11⟩,⟨qx11,kx11,cx11⟩⟩,hle11,hC11,hx11,hsub11,hN11,rfl,hH⟩;refine ⟨_,rfl,fun a hF=>JH hF hH ?_⟩;replace pc0:=pc0.le hle11;replace pc1:=pc1.le hle11;replace pcad:=pcad.le hle11;replace pcaf:=pcaf.le hle11;replace hcad:=hcad.le hle11;replace hcaf:=hcaf.le hle11;replace hC:=hC.le hle11;obtain ⟨rs11,hp11,hCr11,hne11,hL11⟩:=hC11.out hx11;obtain rfl:kl11=(monL cad (n)).length:=hL11.one.len;have hpw11:Pows H11 ql11 (monL cad (n)):=hL11.one.pw;have hpl11:SumH H11 (.map (some p11)) (plM (monL cad (n))):=hL11.one.pl;refine J.reL (L':=obj b11 (.cells [.slice ql11 (monL cad (n)).length cl11,.map (some p11),.slice qm11 km11 cm11,.slice qz11 kz11 cz11,.slice qy11 ky11 cy11,.slice qx11 kx11 cx11].toArray 88 (0,0))::lvO rs11::lvM lc ((n,b11)::lvK rs11)::_) (fun w hH=>Hp.lvOut (x:=(n,⟨b11,p11,⟨ql11,(monL cad (n)).length,cl11⟩,⟨qm11,km11,cm11⟩,⟨qz11,kz11,cz11⟩,⟨qy11,ky11,cy11⟩,⟨qx11,kx11,cx11⟩⟩)) hp11 hH) (Jg (Jd rfl) rfl (Jf (Ja (hK2 (Je fun _ hK3 _=>(Je fun _ hK4 _=>(Jb (Jg (Jc rfl) rfl (Jg (Jv rfl) rfl (Jg (Jl u88 rfl sz31 rfl) rfl (Jg (Js rfl At.z rfl pl31) rfl (Jg (PR.eqlNil u31 rfl rfl) rfl (Jf (Ja (hK4 (Ei rfl (fun h16=>?_) (fun h16=>?_)))))))))))))))))
 ·
  refine Je fun _ hK5 _=>(Jb (Jg (Jc rfl) rfl (EI (EP u31 sz22) rfl fun qo18 co18=>(Jg (Jv rfl) rfl (Jg (Jl u88 rfl sz31 rfl) rfl (Et rfl rfl rfl rfl sz31 (by simp [*]) (.s .z) (Jf (Ja (hK5 (Je fun _ hK6 _=>(Jb (Jg (Jc rfl) rfl (Jg (Jc rfl) rfl (Jg (Jz rfl rfl (by first | exact nw _ (by omega) | rfl)) rfl ?_))))))))))))));have hC0:CpxOk H11 cad caf (fun m=>X m∨m=n) ((n,⟨b11,p11,⟨ql11,(monL cad (n)).length,cl11⟩,⟨qo18,0,co18⟩,⟨qz11,kz11,cz11⟩,⟨qy11,ky11,cy11⟩,⟨qx11,kx11,cx11⟩⟩)::rs11):=(hCr11.mono fun x _ h=>.inl h).cons hne11 ⟨⟨rfl,hpw11,hpl11,hL11.one.z⟩,fun h=>absurd (.inr rfl) h,fun h=>absurd (.inr rfl) h⟩;refine J.reL (fun w hH=>Hp.lvIn (x:=(n,⟨b11,p11,⟨ql11,(monL cad (n)).length,cl11⟩,⟨qo18,0,co18⟩,⟨qz11,kz11,cz11⟩,⟨qy11,ky11,cy11⟩,⟨qx11,kx11,cx11⟩⟩)) (rest:=rs11) (((hH.front (.s (.s (.s .z)))).front (.s (.s (.s .z)))).front (.s (.s (.s .z))))) (Ju fn77 rfl rfl fun w hH=>(bare_c (n:=n+1) pc0 pc1 pcad pcaf hcad hcaf hd h8 (by omega) hC0 hH).mono ?_);rintro _ w ⟨H24,ls24,⟨b24,p24,⟨ql24,kl24,cl24⟩,⟨qm24,km24,cm24⟩,⟨qz24,kz24,cz24⟩,⟨qy24,ky24,cy24⟩,⟨qx24,kx24,cx24⟩⟩,hle24,hC24,hx24,hsub24,hN24,rfl,hH⟩;refine ⟨_,rfl,fun a hF=>JH hF hH ?_⟩;replace pc0:=pc0.le hle24;replace pc1:=pc1.le hle24;replace pcad:=pcad.le hle24;replace pcaf:=pcaf.le hle24;replace hcad:=hcad.le hle24;replace hcaf:=hcaf.le hle24;replace hC:=hC.le hle24;replace hCr11:=hCr11.le hle24;replace hL11:=hL11.le hle24;replace hpw11:=hpw11.le hle24;replace hpl11:=hpl11.le hle24;obtain ⟨rs24,hp24,hCr24,hne24,hM24,hL24⟩:=hC24.out2 (hsub24 (n,⟨b11,p11,⟨ql11,(monL cad (n)).length,cl11⟩,⟨qo18,0,co18⟩,⟨qz11,kz11,cz11⟩,⟨qy11,ky11,cy11⟩,⟨qx11,kx11,cx11⟩⟩) (by simp)) hx24 (by omega);obtain rfl:kl24=(monL cad (n+1)).length:=hL24.one.len;have hpw24:Pows H24 ql24 (monL cad (n+1)):=hL24.one.pw;have hpl24:SumH H24 (.map (some p24)) (plM (monL cad (n+1))):=hL24.one.pl;refine J.reL (L':=obj b11 (.cells [.slice ql11 (monL cad (n)).length cl11,.map (some p11),.slice qo18 0 co18,.slice qz11 kz11 cz11,.slice qy11 ky11 cy11,.slice qx11 kx11 cx11].toArray 88 (0,0))::obj b24 (.cells [.slice ql24 (monL cad (n+1)).length cl24,.map (some p24),.slice qm24 km24 cm24,.slice qz24 kz24 cz24,.slice qy24 ky24 cy24,.slice qx24 kx24 cx24].toArray 88 (0,0))::lvO rs24::lvM lc ((n,b11)::(n+1,b24)::lvK rs24)::_) (fun w hH=>Hp.lvOut2 (x:=(n,⟨b11,p11,⟨ql11,(monL cad (n)).length,cl11⟩,⟨qo18,0,co18⟩,⟨qz11,kz11,cz11⟩,⟨qy11,ky11,cy11⟩,⟨qx11,kx11,cx11⟩⟩)) (y:=(n+1,⟨b24,p24,⟨ql24,(monL cad (n+1)).length,cl24⟩,⟨qm24,km24,cm24⟩,⟨qz24,kz24,cz24⟩,⟨qy24,ky24,cy24⟩,⟨qx24,kx24,cx24⟩⟩)) hp24 hH) (Jg (Jd rfl) rfl (Jf (Ja (hK6 (Je fun _ hK7 _=>(Jb (Jg (Jc rfl) rfl (Jg (Jv rfl) rfl (Jg (Jl u88 rfl sz85 rfl) rfl (Jg (Js rfl At.z rfl pl85) rfl (Jg (Jo u85 rfl rfl) rfl (Jg (Jc rfl) rfl (Jf (Ja (hK7 (Jp ?_))))))))))))))));refine JD (σ:=HP × Option Addr × Nat × List Value × List (List Int) × Nat) (fun ⟨Hk,q,c,vals,ms,k⟩=>[(30,.int .i64 (k:Int))]) (fun ⟨Hk,q,c,vals,ms,k⟩=>Hk) (fun ⟨Hk,q,c,vals,ms,k⟩=>obj b11 (.cells [.slice ql11 (monL cad (n)).length cl11,.map (some p11),.slice q k c,.slice qz11 kz11 cz11,.slice qy11 ky11 cy11,.slice qx11 kx11 cx11].toArray 88 (0,0))::obj b24 (.cells [.slice ql24 (monL cad (n+1)).length cl24,.map (some p24),.slice qm24 km24 cm24,.slice qz24 kz24 cz24,.slice qy24 ky24 cy24,.slice qx24 kx24 cx24].toArray 88 (0,0))::lvO rs24::lvM lc ((n,b11)::(n+1,b24)::lvK rs24)::own 22 1 q k c vals::L) (fun ⟨Hk,q,c,vals,ms,k⟩=>Le H24 Hk∧SlF Hk vals ms∧MtK cad caf n k ms∧k≤(monL cad n).length) (fun ⟨Hk,q,c,vals,ms,k⟩=>(monL cad n).length - k) (H24,qo18,co18, [], [],0) ⟨Le.refl _,SlF.nil _,MtK.zero cad caf n,by omega⟩ ⟨rfl,trivial⟩ rfl rfl ?_;rintro ⟨Hk,q,c,vals,ms,k⟩ ⟨hlk,hS,hms,hk⟩ _ hAg0;replace pc0:=pc0.le hlk;replace pc1:=pc1.le hlk;replace pcad:=pcad.le hlk;replace pcaf:=pcaf.le hlk;replace hcad:=hcad.le hlk;replace hcaf:=hcaf.le hlk;replace hC:=hC.le hlk;replace hCr11:=hCr11.le hlk;replace hL11:=hL11.le hlk;replace hpw11:=hpw11.le hlk;replace hpl11:=hpl11.le hlk;replace hCr24:=hCr24.le hlk;replace hL24:=hL24.le hlk;replace hM24:=hM24.le hlk;replace hpw24:=hpw24.le hlk;replace hpl24:=hpl24.le hlk;refine Je fun _ hK8 _=>(Jb (Jg (JJ rfl rfl) rfl (Jf (Ja (hK8 (Je fun _ hK9 _=>(Jq rfl (fun h31=>?_) (fun h31=>?_))))))))
  ·
   have hml:=monL_len cad n
   have hk1:k<(monL cad n).length:=by omega
   have hpm:=monL_mem hk1;have hpk:=mon_pok h8 hpm;have h8r:=hpk.len;have hocc:=mon_occ h8 hpm hd hA.hl;have hds:=dS_sok (ds:=cad) (Sok.one (k:=1) hpk (by omega)) hA.fok hocc;have hinx:fitB cad (n+1)=true→∀x∈dS cad caf [(rw_ (monL cad n) k,1)],x.1∈monL cad (n+1):=fun h=>hom h _ (rw_mem hk1);have hinr:(∀x∈dS cad caf [(rw_ (monL cad n) k,1)],x.1∈monL cad (n+1))∨0<(monL cad (n+1)).length:=(fit_or cad (n+1)).imp hinx id;refine Jn (Ja (hK9 (Je fun _ hK10 _=>(Jp (Je fun _ hK11 _=>(Jb (Jg (Ey u85 sz148 rfl rfl rfl hk1 hpw11.sm) rfl (Jg (JM rfl (hpw11.cell _ hk1) (hpw11.sm (i:=k) hk1) (by rw [intsC_length,hpw11.len _ hk1];exact ag148)) rfl (JP ze148 rfl fun g8=>(JB rfl rfl (by first | exact bytesC_one _ | exact intsC_one _ | exact Term.c_one _ | simp [Value.oneCell']) (by simpa [*] using sz148) (by simp [*]) At.z (Jf (Ja (hK11 (Ea (Rs:=[_,_,_,_,_,_]) 21 [[], [], [1], [1,2], [1,2,3], [], [], [6], [6,7], [6,7,8], [], [], [10,11], [10,11,12], [6,7,8,9,10,11,12,13], [5,6,7,8,9,10,11,12,13,14], [5,6,7,8,9,10,11,12,13,14,15], [1,2,3,4,5,6,7,8,9,10,11,12,13,14,15,16], [0,1,2,3,4,5,6,7,8,9,10,11,12,13,14,15,16,17], [0,1,2,3,4,5,6,7,8,9,10,11,12,13,14,15,16,17,18], [0,1,2,3,4,5,6,7,8,9,10,11,12,13,14,15,16,17,18,19]] [[], [], [], [], [22], [], [], [], [], [], [], [21], [], [], [12], [14,23], [], [16], [], [], []] [[], [], [], [], [], [], [], [], [], [], [], [], [10], [], [], [], [], [26], [], [], [22]] rfl rfl (by kernel_rfl) ?_))))))))))))));apply Ji 1 rfl rfl rfl
   ·intros;conv=>lhs;simp only [Jh,reduceEqDiff,reduceAdd]
   ·exact Jc rfl
   apply Ji 2 rfl rfl rfl
   ·intros;conv=>lhs;simp only [Jh,reduceEqDiff,reduceAdd]
   ·exact Jc rfl
   apply Ji 3 rfl rfl rfl
   ·intros;conv=>lhs;simp only [Jh,reduceEqDiff,reduceAdd]
   ·exact Jv rfl
   apply Ji 4 rfl rfl rfl
   ·intros;conv=>lhs;simp only [Jh,reduceEqDiff,reduceAdd]
   ·exact Jl u88 rfl sz31 rfl
   apply Ji 5 rfl rfl rfl
   ·intros;conv=>lhs;simp only [Jh,reduceEqDiff,reduceAdd]
   ·exact Js rfl At.z rfl pl31
   apply Ji 6 rfl rfl rfl
   ·intros;conv=>lhs;simp only [Jh,reduceEqDiff,reduceAdd]
   ·exact Jc rfl
   apply Ji 7 rfl rfl rfl
   ·intros;conv=>lhs;simp only [Jh,reduceEqDiff,reduceAdd]
   ·exact Jc rfl
   apply Ji 8 rfl rfl rfl
   ·intros;conv=>lhs;simp only [Jh,reduceEqDiff,reduceAdd]
   ·exact Jv rfl
   apply Ji 9 rfl rfl rfl
   ·intros;conv=>lhs;simp only [Jh,reduceEqDiff,reduceAdd]
   ·exact Jl u126 rfl sz66 rfl
   apply Ji 10 rfl rfl rfl
   ·intros;conv=>lhs;simp only [Jh,reduceEqDiff,reduceAdd]
   ·exact JE (q:=some ⟨bc,0,none⟩) (k:=0) rfl pc0 pl66
   apply JR 11 rfl
   ·intros;conv=>lhs;simp only [Jh,reduceEqDiff,reduceAdd]
   ·
    intro gh X K zq zc zq2 zc2 zb zv hK;refine ER pwE (Value.int .i64) pwOk rfl fun bm44=>(Jy ?_);exact hK zq zc zq2 zc2 bm44 zv
   ·intro gh gh' h;refine ⟨?_,?_⟩ <;> rfl
   apply Ji 12 rfl rfl rfl
   ·intros;conv=>lhs;simp only [Jh,reduceEqDiff,reduceAdd]
   ·exact Jm rfl At.z (by simpa [*] using ag148)
   apply EZ 13 rfl
   ·intros;conv=>lhs;simp only [Jh,reduceEqDiff,reduceAdd]
   ·
    intro gh X K hK;refine J.putOne pwK u92 rfl rfl rfl (pwOk_of hpk (by omega)) At.z (Jy ?_);exact hK
   ·intro gh gh' h;first | simp only [h 10 rfl] | rfl
   apply Ef 14 rfl rfl rfl
   ·intros;conv=>lhs;simp only [Jh,reduceEqDiff,reduceAdd]
   ·exact Jc rfl
   ·intro gh gh' h;first | simp only [h 10 rfl] | rfl
   apply JR 15 rfl
   ·intros;conv=>lhs;simp only [Jh,reduceEqDiff,reduceAdd]
   ·
    intro gh X K zq zc zq2 zc2 zb zv hK;refine Ju fn109 rfl rfl fun w hH=>hH.lend .z fun Hl1 hle1 hA1 hB1 hH=>(d_c (pcad.le hle1) (pcaf.le hle1) (hcad.le hle1) (hcaf.le hle1) (omap_H hA1) (Sok.one hpk (by omega)) h8 hA.hd hA.fok hA.hl hocc (by omega) hH).mono ?_;rintro _ w ⟨bo47,rfl,hH⟩;replace hH:=hB1 _ _ hH;refine ⟨_,rfl,fun a hF=>JH hF hH ?_⟩;refine Jw .z (Jw (.s .z) (Jy ?_));exact hK zq zc zq2 zc2 bo47 zv
   ·intro gh gh' h;refine ⟨?_,?_⟩ <;> (first | simp only [h 10 rfl] | rfl)
   apply JR 16 rfl
   ·intros;conv=>lhs;simp only [Jh,reduceEqDiff,reduceAdd]
   ·
    intro gh X K zq zc zq2 zc2 zb zv hK;refine Ju fn81 rfl rfl fun w hH=>hH.lend (.s .z) fun Hl1 hle1 hA1 hB1 hH=>hH.lend .z fun Hl2 hle2 hA2 hB2 hH=>(rowG_a (cellO_le hle2 (obj_cell hA1 rfl)) (cellO_le hle2 (obj_cell hA1 rfl)) (omap_H hA2) hds ((hpw24.le hle1).le hle2) ((hpl24.le hle1).le hle2) (monL_nodup h8 _) (by omega) hinr (by have:=monL_len cad (n+1);omega) hH).mono ?_;rintro _ w ⟨qo48,co48,rfl,hH⟩;replace hH:=hB2 _ _ hH;replace hH:=hB1 _ _ hH;refine ⟨_,rfl,fun a hF=>JH hF hH ?_⟩;refine Jw .z (Jw (.s .z) (Jw (.s (.s .z)) (Jy ?_)));exact hK qo48 co48 zq2 zc2 zb zv
   ·intro gh gh' h;refine ⟨?_,?_⟩ <;> (first | simp only [h 10 rfl,h 14 rfl] | rfl)
   apply JR 17 rfl
   ·intros;conv=>lhs;simp only [Jh,reduceEqDiff,reduceAdd]
   ·
    intro gh X K zq zc zq2 zc2 zb zv hK;refine EI (EN u31 ze22 sz22 rfl rfl) rfl fun qo49 co49=>(Jy ?_);exact hK qo49 co49 zq2 zc2 zb zv
   ·intro gh gh' h;refine ⟨?_,?_⟩ <;> (first | simp only [h 10 rfl,h 14 rfl,h 15 rfl] | rfl)
   apply JR 18 rfl
   ·intros;conv=>lhs;simp only [Jh,reduceEqDiff,reduceAdd]
   ·
    intro gh X K zq zc zq2 zc2 zb zv hK;refine EG u31 ze22 sz22 by22 rfl rfl rfl rfl (by omega) (.s .z) At.z (fun _ _=>At.z) rfl fun qo50 co50=>(Jw .z (Jw (.s .z) (Jy ?_)));exact hK qo50 co50 zq2 zc2 zb zv
   ·intro gh gh' h;refine ⟨?_,?_⟩ <;> (first | simp only [h 10 rfl,h 14 rfl,h 15 rfl,h 16 rfl] | rfl)
   apply Ef 19 rfl rfl rfl
   ·intros;conv=>lhs;simp only [Jh,reduceEqDiff,reduceAdd]
   ·exact Jv rfl
   ·intro gh gh' h;first | simp only [h 10 rfl,h 14 rfl,h 15 rfl,h 16 rfl,h 17 rfl] | rfl
   apply Ef 20 rfl rfl rfl
   ·intros;conv=>lhs;simp only [Jh,reduceEqDiff,reduceAdd]
   ·exact Jl u88 rfl sz31 rfl
   ·intro gh gh' h;first | simp only [h 10 rfl,h 14 rfl,h 15 rfl,h 16 rfl,h 17 rfl] | rfl
   apply EZ 21 rfl
   ·intros;conv=>lhs;simp only [Jh,reduceEqDiff,reduceAdd]
   ·
    intro gh X K hK;refine Et rfl rfl rfl rfl sz31 (by simp [*]) At.z (Jy ?_);exact hK
   ·intro gh gh' h;first | simp only [h 10 rfl,h 14 rfl,h 15 rfl,h 16 rfl,h 17 rfl] | rfl
   apply JZ [0,1,2,3,4,5,6,7,8,9,10,11,12,13,14,15,16,17,18,19,20] [0,1,2,3,4,5,6,7,8,9,11,12,13,14,15,16,17,18,19,20,21,23,24,25] foll0 rfl rfl rfl (by rfl)
   iterate 2 focus (intros;(conv=>lhs;simp only [JU,Ej,Ka,El,Es,eq_self,reduceEqDiff,reduceIte,reduceSub,reduceAdd,JxA,JxB]);all_goals rfl)
   intro gh;generalize (gh 10).b=bm44;generalize (gh 14).b=bo47;generalize (gh 15).c=co48;generalize (gh 15).q=qo48;generalize (gh 16).c=co49;generalize (gh 16).q=qo49;generalize (gh 17).c=co50;generalize (gh 17).q=qo50;clear gh;refine EJ.unany (.s (.s .z)) fun r48 hr48=>(EA .z fun Ho48 hleo48 hAo48=>?_);replace pc0:=pc0.le hleo48;replace pc1:=pc1.le hleo48;replace pcad:=pcad.le hleo48;replace pcaf:=pcaf.le hleo48;replace hcad:=hcad.le hleo48;replace hcaf:=hcaf.le hleo48;replace hC:=hC.le hleo48;replace hCr11:=hCr11.le hleo48;replace hL11:=hL11.le hleo48;replace hpw11:=hpw11.le hleo48;replace hpl11:=hpl11.le hleo48;replace hCr24:=hCr24.le hleo48;replace hL24:=hL24.le hleo48;replace hM24:=hM24.le hleo48;replace hpw24:=hpw24.le hleo48;replace hpl24:=hpl24.le hleo48;replace hS:=hS.le hleo48;have hxo48:=own_ints hAo48;have hco48:=own_le hAo48;have hr48l:=hr48.1.len;have hS2:=hS.snoc (c:=co48) hxo48 hr48l (by omega);have hms2:MtK cad caf n (k+1) (ms++[r48]):=hms.snoc hk1 hr48.1 fun h=>hr48.2 (hinx h);refine JF (Ja (hK10 (Jb (Jg (Jz rfl rfl (by first | exact nw _ (by omega) | rfl)) rfl (Jg (Jc rfl) rfl (Jf (Ja (JN .z (JN .z (JN .z (JN (.s (.s .z)) (Jw .z (Jw (.s (.s (.s (.s .z)))) (Jw (.s (.s (.s (.s .z)))) (Jw (.s (.s (.s (.s .z)))) ?_)))))))))))))));refine Jw (.s (.s (.s (.s .z)))) ?_;exact hAg0 (Ho48,qo50,co50,_,_,k+1) ⟨(hlk.trans hleo48),hS2,hms2,by omega⟩ (by show (monL cad n).length - (k+1)<(monL cad n).length - k;omega) 26 rfl rfl ⟨rfl,trivial⟩ rfl rfl
  ·
   refine JG (Jj (Jj (JK (Ja (hK3 (Je fun _ hK12 _=>(Jb (Jg (Jc rfl) rfl (Ev (.s (.s (.s (.s .z)))) fun Ho18 hleo18 hAo18=>?_)))))))));replace pc0:=pc0.le hleo18;replace pc1:=pc1.le hleo18;replace pcad:=pcad.le hleo18;replace pcaf:=pcaf.le hleo18;replace hcad:=hcad.le hleo18;replace hcaf:=hcaf.le hleo18;replace hC:=hC.le hleo18;replace hCr11:=hCr11.le hleo18;replace hL11:=hL11.le hleo18;replace hpw11:=hpw11.le hleo18;replace hpl11:=hpl11.le hleo18;replace hCr24:=hCr24.le hleo18;replace hL24:=hL24.le hleo18;replace hM24:=hM24.le hleo18;replace hpw24:=hpw24.le hleo18;replace hpl24:=hpl24.le hleo18;replace hS:=hS.le hleo18;have hxo18:=hS.rows (Le.refl _) hAo18;have hco18:=own_le hAo18;refine Jg (Jd rfl) rfl (Jf (Ja (hK12 (Jt (Jr rfl (Res.tmp rfl) fun w hH=>?_)))));replace hH:=hH.sublist (.cons_cons _ (.cons_cons _ (.cons_cons _ (.cons_cons _ (List.Sublist.refl _)))))
   have hke:k=(monL cad n).length:=by omega
   have hm2:Lv2 Ho18 cad caf n ⟨b11,p11,⟨ql11,(monL cad (n)).length,cl11⟩,⟨q,k,c⟩,⟨qz11,kz11,cz11⟩,⟨qy11,ky11,cy11⟩,⟨qx11,kx11,cx11⟩⟩:=⟨ms,⟨hms.1.trans hke,hms.2.1,fun h=>(hms.2.2 h).trans (matK_end hke)⟩,⟨hms.1.symm,hxo18⟩⟩;have hN0:Nxt (fun m=>X m∨m=n) ((n,⟨b11,p11,⟨ql11,(monL cad (n)).length,cl11⟩,⟨qo18,0,co18⟩,⟨qz11,kz11,cz11⟩,⟨qy11,ky11,cy11⟩,⟨qx11,kx11,cx11⟩⟩)::rs11):=((hN11 _ hN).perm hp11).swap hne11 (fun m h _ hX=>h (.inl hX)) fun h=>absurd (.inr rfl) h
   have hne2 : ∀z∈(n+1,⟨b24,p24,⟨ql24,(monL cad (n+1)).length,cl24⟩,⟨qm24,km24,cm24⟩,⟨qz24,kz24,cz24⟩,⟨qy24,ky24,cy24⟩,⟨qx24,kx24,cx24⟩⟩)::rs24,z.1≠n:=fun z hz=>by
    rcases List.mem_cons.1 hz with rfl | hz
    ·show n+1≠n
     omega
    ·exact (hne24 z hz).1
   have hNf:Nxt X ((n,⟨b11,p11,⟨ql11,(monL cad (n)).length,cl11⟩,⟨q,k,c⟩,⟨qz11,kz11,cz11⟩,⟨qy11,ky11,cy11⟩,⟨qx11,kx11,cx11⟩⟩)::(n+1,⟨b24,p24,⟨ql24,(monL cad (n+1)).length,cl24⟩,⟨qm24,km24,cm24⟩,⟨qz24,kz24,cz24⟩,⟨qy24,ky24,cy24⟩,⟨qx24,kx24,cx24⟩⟩)::rs24):=((hN24 _ hN0).perm hp24).swap hne2 (fun m h1 h2 h3=>h3.elim h1 h2) fun _ _=>by simp
   have hq0:qm11=none:=by cases qm11 <;> simp_all
   have hKp:Kp ls ((n,⟨b11,p11,⟨ql11,(monL cad (n)).length,cl11⟩,⟨q,k,c⟩,⟨qz11,kz11,cz11⟩,⟨qy11,ky11,cy11⟩,⟨qx11,kx11,cx11⟩⟩)::(n+1,⟨b24,p24,⟨ql24,(monL cad (n+1)).length,cl24⟩,⟨qm24,km24,cm24⟩,⟨qz24,kz24,cz24⟩,⟨qy24,ky24,cy24⟩,⟨qx24,kx24,cx24⟩⟩)::rs24):=fun y hy hF=>by
    have h1:y∈rs11:=by
     rcases List.mem_cons.1 (hp11.subset (hsub11 y hy)) with rfl | h1
     ·have h2:qm11.isSome=true:=hF.1;rw [hq0] at h2
      cases h2
     ·exact h1
    rcases List.mem_cons.1 (hp24.subset (hsub24 y (List.mem_cons_of_mem _ h1))) with rfl | h2
    ·exact absurd rfl (hne11 _ h1)
    ·exact List.mem_cons_of_mem _ h2
   refine ⟨_,(n,⟨b11,p11,⟨ql11,(monL cad (n)).length,cl11⟩,⟨q,k,c⟩,⟨qz11,kz11,cz11⟩,⟨qy11,ky11,cy11⟩,⟨qx11,kx11,cx11⟩⟩)::(n+1,⟨b24,p24,⟨ql24,(monL cad (n+1)).length,cl24⟩,⟨qm24,km24,cm24⟩,⟨qz24,kz24,cz24⟩,⟨qy24,ky24,cy24⟩,⟨qx24,kx24,cx24⟩⟩)::rs24,_,(((hle11.trans hle24).trans hlk).trans hleo18),?_,List.mem_cons_self,fun y hy hyn=>?_,hNf,by simp,⟨hm2,hKp⟩,rfl,Hp.lvIn2 (x:=(n,⟨b11,p11,⟨ql11,(monL cad (n)).length,cl11⟩,⟨q,k,c⟩,⟨qz11,kz11,cz11⟩,⟨qy11,ky11,cy11⟩,⟨qx11,kx11,cx11⟩⟩)) (y:=(n+1,⟨b24,p24,⟨ql24,(monL cad (n+1)).length,cl24⟩,⟨qm24,km24,cm24⟩,⟨qz24,kz24,cz24⟩,⟨qy24,ky24,cy24⟩,⟨qx24,kx24,cx24⟩⟩)) hH⟩
   ·have hC1:=hCr24.mono (Y:=X) fun z hz h=>h.resolve_right (hne24 z hz).1;refine ((hC1.cons (fun z hz=>(hne24 z hz).2) (hL24.mono fun h=>h.resolve_right (by omega))).cons hne2 ⟨⟨rfl,hpw11,hpl11,hL11.one.z⟩,fun _ _ _=>hm2,hL11.three⟩)
   ·have h1:y∈rs11:=by
     rcases List.mem_cons.1 (hp11.subset (hsub11 y hy)) with rfl | h1
     ·exact absurd rfl hyn
     ·exact h1
    rcases List.mem_cons.1 (hp24.subset (hsub24 y (List.mem_cons_of_mem _ h1))) with rfl | h2
    ·exact absurd rfl hyn
    ·exact List.mem_cons_of_mem _ h2
 ·
  refine Jn (Ja (hK3 (Je fun _ hK13 _=>(Jb (Jg (Jc rfl) rfl (Jg (Jd rfl) rfl (Jf (Ja (hK13 (Jt (Jr rfl (Res.tmp rfl) fun w hH=>?_)))))))))));replace hH:=hH.sublist (.cons_cons _ (.cons_cons _ (.cons_cons _ (List.Sublist.refl _))))
  have hq:qm11.isSome=true:=by cases qm11 <;> simp_all
  exact ⟨_,(n,⟨b11,p11,⟨ql11,(monL cad (n)).length,cl11⟩,⟨qm11,km11,cm11⟩,⟨qz11,kz11,cz11⟩,⟨qy11,ky11,cy11⟩,⟨qx11,kx11,cx11⟩⟩)::rs11,_,hle11,hCr11.cons hne11 hL11,List.mem_cons_self,fun y hy _=>hp11.subset (hsub11 y hy),(hN11 _ hN).perm hp11,(hN11 _ hN).perm hp11 _ List.mem_cons_self hX hq,⟨hL11.two hX hq hfit,fun y hy _=>hp11.subset (hsub11 y hy)⟩,rfl,Hp.lvIn (x:=(n,⟨b11,p11,⟨ql11,(monL cad (n)).length,cl11⟩,⟨qm11,km11,cm11⟩,⟨qz11,kz11,cz11⟩,⟨qy11,ky11,cy11⟩,⟨qx11,kx11,cx11⟩⟩)) hH⟩
theorem fn75:Fn Tryz.prog 75:=⟨_,Tryz.func75,by kernel_rfl,rfl⟩
theorem fn76:Fn Tryz.prog 76:=⟨_,Tryz.func76,by kernel_rfl,rfl⟩
theorem fn78:Fn Tryz.prog 78:=⟨_,Tryz.func78,by kernel_rfl,rfl⟩
theorem equalIn_nilS {P:Program} (w:World) (d:Nat) {t e:TypeId} (a:Option Addr) (l c:Nat) (h:P.underlying t=some (.slice e)):(Op.equalIn (d+1) t (.slice a l c) (.slice none 0 0)).run P w = .ok a.isNone w:=by
 cases a <;> simp [Op.equalIn,run_underlying h]
theorem run_neq_nilS {P:Program} (w:World) {t e:TypeId} (a:Option Addr) (l c:Nat) (h:P.underlying t=some (.slice e)):(binOp .neq t (.slice a l c) (.slice none 0 0)).run P w = .ok (.bool (!a.isNone)) w:=by
 have h2:(Op.equal t (.slice a l c) (.slice none 0 0)).run P w = .ok a.isNone w:=equalIn_nilS w 9999 a l c h
 simp [binOp,h2]
section
variable {P : Program} {ops : Array Oper} {Q : Exit → Act → World → Prop} {n : Nat} {B : World} {H0 H : HP} {rest : List Oper} {us : List (Nat × Value)} {L L' : List SA} {t : TypeId} {p : String} {af : Array Edge} {d : Nat} {x y : Operand}
theorem PR.neqNil {xt yt e:TypeId} {q:Option Addr} {m c:Nat} (hu:P.underlying xt=some (.slice e)) (hx:opv us x=some (.slice q m c)) (hy:opv us y=some (.slice none 0 0)):PR P n B H0 us H L (.binOp .neq xt x y yt) t (.bool (!q.isNone)):=
 fun _ _ _ _ a w hF _=>by simp [execOp,hF.ev hx,hF.ev hy,eqGuard_at_slice,run_neq_nilS w q m c hu]
end
section
variable {B : World} {H0 H : HP} {L : List SA} {w : World}
theorem Hp.lvBack {lb:Nat} {rest:List (Int × Lv)} {x y:Int × Lv} (h:Hp B H0 H (lvB x.2::lvB y.2::lvO rest::lvM lb ((x.1,x.2.b)::(y.1,y.2.b)::lvK rest)::L) w):Hp B H0 H (lvB x.2::lvO (y::rest)::lvM lb ((x.1,x.2.b)::lvK (y::rest))::L) w:=by
 have h1:=h.front (.s .z);have h2:=(h1.front (.s (.s .z))).front (.s .z);exact h2.star.front (.s .z)
end
theorem matS_ok {ds:List Int} {fs:List (List Term)} {n:Int} (hA:AlgOk ds fs) (h8:ds.length≤8) (hd : ∀j,j<ds.length→1≤ds.getD j 0∧ds.getD j 0≤12) : ∀r∈matS ds fs n,RowOk (monL ds (n+1)).length r:=fun r hr=>by
 obtain ⟨p,hp,rfl⟩:=List.mem_map.1 hr
 have hp':p∈monS ds n:=List.mem_of_mem_take hp
 have hs:=dS_sok (ds:=ds) (Sok.one (k:=1) (mon_pok h8 hp') (by omega)) hA.fok (mon_occ h8 hp' hd hA.hl)
 refine ⟨by simp,fun k=>?_⟩
 by_cases hk:k<(monL ds (n+1)).length
 ·have e:((monL ds (n+1)).map (cf (dS ds fs [(p,1)]))).getD k 0=cf (dS ds fs [(p,1)]) (monL ds (n+1))[k]:=by simp [List.getD_eq_getElem?_getD,List.getElem?_eq_getElem hk]
  rw [e]
  exact cf_bd hs _
 ·rw [getD_ge (by simp;omega)]
  omega
theorem clS_red {ds:List Int} {fs:List (List Term)} {n:Int} (hA:AlgOk ds fs) (h8:ds.length≤8) (hd : ∀j,j<ds.length→1≤ds.getD j 0∧ds.getD j 0≤12):Red (monL ds n).length (clS ds fs n):=by
 have h1:=(redS_ok (wdS_ok (n:=(matS ds fs n).length) (matS_ok (n:=n) hA h8 hd))).1;have h2:=(redS_ok (fzS_ok h1.row)).1;have h3:Red (matS ds fs n).length (clS ds fs n):=h2
 rwa [matS_len] at h3
theorem bdS_red {ds:List Int} {fs:List (List Term)} {n:Int} (hA:AlgOk ds fs) (h8:ds.length≤8) (hd : ∀j,j<ds.length→1≤ds.getD j 0∧ds.getD j 0≤12):Red (monL ds n).length (bdS ds fs n):=by
 unfold bdS
 split
 ·have:=(redS_ok (matS_ok (n:=n - 1) hA h8 hd)).1
  rwa [Int.sub_add_cancel] at this
 ·exact Red.nil
theorem Red.led {W:Nat} {R:List (List Int)} (h:Red W R) : ∀r∈R,RowOk W r∧ldR r<W:=fun r hr=>⟨h.row r hr,(h.one r hr).1⟩
def lfK (ds:List Int) (fs:List (List Term)) (n:Int) (k:Nat):List (List Int):=((clS ds fs n).take k).map fun r=>byS r (bdS ds fs n)
theorem lfK_succ {ds:List Int} {fs:List (List Term)} {n:Int} {k:Nat} (hk:k<(clS ds fs n).length):lfK ds fs n (k+1)=lfK ds fs n k++[byS (rw_ (clS ds fs n) k) (bdS ds fs n)]:=by
 unfold lfK;rw [rw_take hk,List.map_append]
 rfl
theorem lfK_end {ds:List Int} {fs:List (List Term)} {n:Int} {k:Nat} (hk:k=(clS ds fs n).length):redS (lfK ds fs n k)=csS ds fs n:=by
 subst hk;unfold lfK csS;rw [List.take_length]
theorem lfK_ok {ds:List Int} {fs:List (List Term)} {n:Int} {k:Nat} (hA:AlgOk ds fs) (h8:ds.length≤8) (hd : ∀j,j<ds.length→1≤ds.getD j 0∧ds.getD j 0≤12) : ∀r∈lfK ds fs n k,RowOk (monL ds n).length r:=fun r hr=>by
 obtain ⟨s,hs,rfl⟩:=List.mem_map.1 hr
 exact byS_ok ((clS_red hA h8 hd).row s (List.mem_of_mem_take hs)) (bdS_red hA h8 hd).row
theorem csS_red {ds:List Int} {fs:List (List Term)} {n:Int} (hA:AlgOk ds fs) (h8:ds.length≤8) (hd : ∀j,j<ds.length→1≤ds.getD j 0∧ds.getD j 0≤12):Red (monL ds n).length (csS ds fs n):=by
 rw [← lfK_end rfl];exact (redS_ok (lfK_ok hA h8 hd)).1
theorem ker_red {V W:Nat} {mt:List (List Int)} (h : ∀r∈mt,RowOk W r) (hl:mt.length=V):Red V (kerS mt W):=by
 have h1:=(redS_ok (wdS_ok (n:=mt.length) h)).1;have h2:=(redS_ok (fzS_ok h1.row)).1;have h3:Red mt.length (kerS mt W):=h2
 rwa [hl] at h3
def lfG (zl bd:List (List Int)) (k:Nat):List (List Int):=(zl.take k).map fun r=>byS r bd
section
variable {zl bd : List (List Int)} {k W : Nat}
theorem lfG_succ (hk:k<zl.length):lfG zl bd (k+1)=lfG zl bd k++[byS (rw_ zl k) bd]:=by
 unfold lfG;rw [rw_take hk,List.map_append]
 rfl
theorem lfG_len (hk:k≤zl.length):(lfG zl bd k).length=k:=by
 unfold lfG;rw [List.length_map,List.length_take]
 omega
theorem lfG_ok (hz : ∀r∈zl,RowOk W r) (hb : ∀r∈bd,RowOk W r) : ∀r∈lfG zl bd k,RowOk W r:=fun r hr=>by
 obtain ⟨s,hs,rfl⟩:=List.mem_map.1 hr
 exact byS_ok (hz s (List.mem_of_mem_take hs)) hb
theorem lfG_end {ds:List Int} {fs:List (List Term)} {n:Int}:redS (lfG (clS ds fs n) (bdS ds fs n) (clS ds fs n).length)=csS ds fs n:=lfK_end rfl
end
theorem atP_c {B:World} {H0 H:HP} {L:List SA} {w:World} {bc lc:Nat} {bca:Nat} {qcad qcaf:Option Addr} {ccad ccaf:Nat} {cad:List Int} {caf:List (List Term)} {n:Int} {ls:List (Int × Lv)} (pc0:CellAt H bc 0 (.pointer (some ⟨bca,0,none⟩))) (pc1:CellAt H bc 1 (.map (some lc))) (pcad:CellAt H bca 0 (.slice qcad cad.length ccad)) (pcaf:CellAt H bca 1 (.slice qcaf caf.length ccaf)) (hcad:Ints H qcad cad) (hcaf:Forms H qcaf caf) (hd : ∀j,j<cad.length→1≤cad.getD j 0∧cad.getD j 0≤12) (h8:cad.length≤8) (hn : -1≤n∧n≤100000) (hA:AlgOk cad caf) (hfit:fitP cad n) (hom : ∀m,m≤n→fit2 cad m→Hom1 cad caf m) (hC:CpxOk H cad caf (fun _=>False) ls) (hN:Nxt (fun _=>False) ls) (hH:Hp B H0 H (cpx lc ls::L) w):Calls Tryz.prog 41 [.pointer (some ⟨bc,0,none⟩),.int .i64 n].toArray w fun e w'=>∃H' ls' x,Le H H' ∧CpxOk H' cad caf (fun _=>False) ls' ∧Nxt (fun _=>False) ls' ∧(n,x)∈ls' ∧(Lv3 H' cad caf n x∧Lv2 H' cad caf n x∧Kp ls ls')∧e = .returned (.pointer (some ⟨x.b,0,none⟩))∧Hp B H0 H' (cpx lc ls'::L) w':=by
 refine Jx Tryz.func41 rfl 73 rfl rfl [(0,.pointer (some ⟨bc,0,none⟩)),(1,.int .i64 n)] rfl hH ?_;have hw0:=hH.old;have hw1:=hH.le;have hml:=monL_len cad n;have hml1:=monL_len cad (n+1);clear hH;refine Je fun _ hK1 _=>(Jb (Jg (Jd rfl) rfl (Jf (Ja (hK1 (Je fun _ hK2 _=>(Jb (Jg (Jc rfl) rfl (Jg (Jc rfl) rfl (Ju fn75 rfl rfl fun w hH=>(withMatrix_c (n:=n) (X:=fun _=>False) pc0 pc1 pcad pcaf hcad hcaf hd h8 (by omega) hA (fun h=>h) hfit.1 (fun h=>hom n (Int.le_refl _) ⟨hfit.1,h⟩) hC hN hH).mono ?_))))))))));rintro _ w ⟨H11,ls11,⟨b11,p11,⟨ql11,kl11,cl11⟩,⟨qm11,km11,cm11⟩,⟨qz11,kz11,cz11⟩,⟨qy11,ky11,cy11⟩,⟨qx11,kx11,cx11⟩⟩,hle11,hC11,hx11,hsub11,hN11,hk11,⟨hm11,hkp11⟩,rfl,hH⟩;refine ⟨_,rfl,fun a hF=>JH hF hH ?_⟩;replace pc0:=pc0.le hle11;replace pc1:=pc1.le hle11;replace pcad:=pcad.le hle11;replace pcaf:=pcaf.le hle11;replace hcad:=hcad.le hle11;replace hcaf:=hcaf.le hle11;replace hC:=hC.le hle11;obtain ⟨⟨b12,p12,⟨ql12,kl12,cl12⟩,⟨qm12,km12,cm12⟩,⟨qz12,kz12,cz12⟩,⟨qy12,ky12,cy12⟩,⟨qx12,kx12,cx12⟩⟩,hx12⟩:=key_mem hk11;obtain ⟨rs11,hp11,hCr11,hne11,hL11,hL12⟩:=hC11.out2 hx11 hx12 (by omega);obtain rfl:kl11=(monL cad n).length:=hL11.one.len;obtain rfl:kl12=(monL cad (n+1)).length:=hL12.one.len;obtain ⟨mt,hmt,hm9⟩:=hm11;obtain ⟨rfl,hmr⟩:km11=mt.length∧RowsR H11 qm11 mt:=hm9;have hmok:=hmt.ok;have hmlen:=hmt.len;have hpw11:Pows H11 ql11 (monL cad n):=hL11.one.pw;have hpl11:SumH H11 (.map (some p11)) (plM (monL cad n)):=hL11.one.pl;have hpw12:Pows H11 ql12 (monL cad (n+1)):=hL12.one.pw;refine J.reL (L':=obj b11 (.cells [.slice ql11 (monL cad (n)).length cl11,.map (some p11),.slice qm11 mt.length cm11,.slice qz11 kz11 cz11,.slice qy11 ky11 cy11,.slice qx11 kx11 cx11].toArray 88 (0,0))::obj b12 (.cells [.slice ql12 (monL cad (n+1)).length cl12,.map (some p12),.slice qm12 km12 cm12,.slice qz12 kz12 cz12,.slice qy12 ky12 cy12,.slice qx12 kx12 cx12].toArray 88 (0,0))::lvO rs11::lvM lc ((n,b11)::(n+1,b12)::lvK rs11)::_) (fun w hH=>Hp.lvOut2 (x:=(n,⟨b11,p11,⟨ql11,(monL cad (n)).length,cl11⟩,⟨qm11,mt.length,cm11⟩,⟨qz11,kz11,cz11⟩,⟨qy11,ky11,cy11⟩,⟨qx11,kx11,cx11⟩⟩)) (y:=(n+1,⟨b12,p12,⟨ql12,(monL cad (n+1)).length,cl12⟩,⟨qm12,km12,cm12⟩,⟨qz12,kz12,cz12⟩,⟨qy12,ky12,cy12⟩,⟨qx12,kx12,cx12⟩⟩)) hp11 hH) (Jg (Jd rfl) rfl (Jf (Ja (hK2 (Je fun _ hK3 _=>(Je fun _ hK4 _=>(Jb (Jg (Jc rfl) rfl (Jg (Jv rfl) rfl (Jg (Jl u88 rfl sz31 rfl) rfl (Jg (Js rfl At.z rfl pl31) rfl (Jg (PR.neqNil u31 rfl rfl) rfl (Jf (Ja (hK4 (Ei rfl (fun h16=>?_) (fun h16=>?_)))))))))))))))))
 ·
  refine Je fun _ hK5 _=>(Jb (Jg (Jc rfl) rfl (Jg (Jd rfl) rfl (Jf (Ja (hK5 (Jt (Jk (Jr rfl (Res.tmp rfl) fun w hH=>?_)))))))));replace hH:=hH.sublist (.cons_cons _ (.cons_cons _ (.cons_cons _ (.cons_cons _ (List.Sublist.refl _)))))
  have hq:qz11.isSome=true:=by cases qz11 <;> simp_all
  exact ⟨_,(n,⟨b11,p11,⟨ql11,(monL cad (n)).length,cl11⟩,⟨qm11,mt.length,cm11⟩,⟨qz11,kz11,cz11⟩,⟨qy11,ky11,cy11⟩,⟨qx11,kx11,cx11⟩⟩)::(n+1,⟨b12,p12,⟨ql12,(monL cad (n+1)).length,cl12⟩,⟨qm12,km12,cm12⟩,⟨qz12,kz12,cz12⟩,⟨qy12,ky12,cy12⟩,⟨qx12,kx12,cx12⟩⟩)::rs11,_,hle11,(hCr11.cons (fun z hz=>(hne11 z hz).2) hL12).cons (fun z hz=>by
   rcases List.mem_cons.1 hz with rfl | hz
   ·show n+1≠n
    omega
   ·exact (hne11 z hz).1) hL11,hN11.perm hp11,List.mem_cons_self,⟨hL11.three (fun h=>h) hq hfit,⟨mt,hmt,rfl,hmr⟩,hkp11.perm hp11⟩,rfl,Hp.lvIn2 (x:=(n,⟨b11,p11,⟨ql11,(monL cad (n)).length,cl11⟩,⟨qm11,mt.length,cm11⟩,⟨qz11,kz11,cz11⟩,⟨qy11,ky11,cy11⟩,⟨qx11,kx11,cx11⟩⟩)) (y:=(n+1,⟨b12,p12,⟨ql12,(monL cad (n+1)).length,cl12⟩,⟨qm12,km12,cm12⟩,⟨qz12,kz12,cz12⟩,⟨qy12,ky12,cy12⟩,⟨qx12,kx12,cx12⟩⟩)) hH⟩
 ·
  refine Jn (Ja (hK3 (Je fun _ hK6 _=>(Ea (Rs:=[_,_,_,_]) 17 [[], [], [1], [1,2], [1,2,3], [], [], [6], [5,6,7], [5,6,7,8], [5,6,7,8,9], [5,6,7,8,9,10], [5,6,7,8,9,10,11], [1,2,3,4,5,6,7,8,9,10,11,12], [0,1,2,3,4,5,6,7,8,9,10,11,12,13], [0,1,2,3,4,5,6,7,8,9,10,11,12,13,14], [0,1,2,3,4,5,6,7,8,9,10,11,12,13,14,15]] [[], [], [], [], [17], [], [], [], [], [], [], [18], [], [], [], [], []] [[], [], [], [], [], [], [], [], [20], [], [], [], [], [], [], [], [17]] rfl rfl (by kernel_rfl) ?_))));apply Ji 1 rfl rfl rfl
  ·intros;conv=>lhs;simp only [Jh,reduceEqDiff,reduceAdd]
  ·exact Jc rfl
  apply Ji 2 rfl rfl rfl
  ·intros;conv=>lhs;simp only [Jh,reduceEqDiff,reduceAdd]
  ·exact Jc rfl
  apply Ji 3 rfl rfl rfl
  ·intros;conv=>lhs;simp only [Jh,reduceEqDiff,reduceAdd]
  ·exact Jv rfl
  apply Ji 4 rfl rfl rfl
  ·intros;conv=>lhs;simp only [Jh,reduceEqDiff,reduceAdd]
  ·exact Jl u88 rfl sz31 rfl
  apply Ji 5 rfl rfl rfl
  ·intros;conv=>lhs;simp only [Jh,reduceEqDiff,reduceAdd]
  ·exact Js rfl At.z rfl pl31
  apply Ji 6 rfl rfl rfl
  ·intros;conv=>lhs;simp only [Jh,reduceEqDiff,reduceAdd]
  ·exact Jc rfl
  apply Ji 7 rfl rfl rfl
  ·intros;conv=>lhs;simp only [Jh,reduceEqDiff,reduceAdd]
  ·exact Jc rfl
  apply Ji 8 rfl rfl rfl
  ·intros;conv=>lhs;simp only [Jh,reduceEqDiff,reduceAdd]
  ·exact Jz rfl rfl (by first | exact nw _ (by omega) | rfl)
  apply JR 9 rfl
  ·intros;conv=>lhs;simp only [Jh,reduceEqDiff,reduceAdd]
  ·
   intro gh X K zq zc zq2 zc2 zb zv hK;refine Ju fn77 rfl rfl fun w hH=>(bareK_c (n:=n+1) pc0 pc1 pcad pcaf hcad hcaf (by omega) (look_s (by omega) look_z) (hH.front .z)).mono ?_;rintro _ w ⟨rfl,hH⟩;refine ⟨_,rfl,fun a hF=>JH hF hH ?_⟩;refine Jy ?_;exact hK zq zc zq2 zc2 zb zv
  ·intro gh gh' h;refine ⟨?_,?_⟩ <;> rfl
  apply Ji 10 rfl rfl rfl
  ·intros;conv=>lhs;simp only [Jh,reduceEqDiff,reduceAdd]
  ·exact Jv rfl
  apply Ji 11 rfl rfl rfl
  ·intros;conv=>lhs;simp only [Jh,reduceEqDiff,reduceAdd]
  ·exact Jl u88 rfl sz85 rfl
  apply Ji 12 rfl rfl rfl
  ·intros;conv=>lhs;simp only [Jh,reduceEqDiff,reduceAdd]
  ·exact Js rfl At.z rfl pl85
  apply Ji 13 rfl rfl rfl
  ·intros;conv=>lhs;simp only [Jh,reduceEqDiff,reduceAdd]
  ·exact Jo u85 rfl rfl
  apply JR 14 rfl
  ·intros;conv=>lhs;simp only [Jh,reduceEqDiff,reduceAdd]
  ·
   intro gh X K zq zc zq2 zc2 zb zv hK;refine Ju fn76 rfl rfl fun w hH=>(kernel_c hmr hmok (by omega) (by omega) hH).mono ?_;rintro _ w ⟨qo31,co31,vso31,rfl,hH⟩;refine ⟨_,rfl,fun a hF=>JH hF hH ?_⟩;refine Jy ?_;exact hK qo31 co31 zq2 zc2 zb vso31
  ·intro gh gh' h;refine ⟨?_,?_⟩ <;> rfl
  apply Ef 15 rfl rfl rfl
  ·intros;conv=>lhs;simp only [Jh,reduceEqDiff,reduceAdd]
  ·exact Jv rfl
  ·intro gh gh' h;first | simp only [h 13 rfl] | rfl
  apply Ef 16 rfl rfl rfl
  ·intros;conv=>lhs;simp only [Jh,reduceEqDiff,reduceAdd]
  ·exact Jl u88 rfl sz31 rfl
  ·intro gh gh' h;first | simp only [h 13 rfl] | rfl
  apply EZ 17 rfl
  ·intros;conv=>lhs;simp only [Jh,reduceEqDiff,reduceAdd]
  ·
   intro gh X K hK;refine Et rfl rfl rfl rfl sz31 (by simp [*]) At.z (Jy ?_);exact hK
  ·intro gh gh' h;first | simp only [h 13 rfl] | rfl
  apply JZ [0,1,2,3,4,5,6,7,8,9,10,11,12,13,14,15,16] [0,1,2,3,4,5,6,7,8,9,10,11,12,13,14,15,16,18,19] foll0 rfl rfl rfl (by rfl)
  iterate 2 focus (intros;(conv=>lhs;simp only [JU,Ej,Ka,El,Es,eq_self,reduceEqDiff,reduceIte,reduceSub,reduceAdd,JxA,JxB]);all_goals rfl)
  intro gh;generalize (gh 13).c=co31;generalize (gh 13).q=qo31;generalize (gh 13).vs=vso31;clear gh;refine EA (.s .z) fun Ho31 hleo31 hAo31=>?_;replace pc0:=pc0.le hleo31;replace pc1:=pc1.le hleo31;replace pcad:=pcad.le hleo31;replace pcaf:=pcaf.le hleo31;replace hcad:=hcad.le hleo31;replace hcaf:=hcaf.le hleo31;replace hC:=hC.le hleo31;replace hCr11:=hCr11.le hleo31;replace hL11:=hL11.le hleo31;replace hL12:=hL12.le hleo31;replace hmr:=hmr.le hleo31;replace hpw11:=hpw11.le hleo31;replace hpl11:=hpl11.le hleo31;replace hpw12:=hpw12.le hleo31;have hxo31:=own_rows hAo31;have hco31:=own_le hAo31.1;have hz3:SlIs Ho31 ⟨qo31,(kerS mt (monL cad (n+1)).length).length,co31⟩ (kerS mt (monL cad (n+1)).length):=⟨rfl,hxo31⟩
  have hneR : ∀z∈(n+1,⟨b12,p12,⟨ql12,(monL cad (n+1)).length,cl12⟩,⟨qm12,km12,cm12⟩,⟨qz12,kz12,cz12⟩,⟨qy12,ky12,cy12⟩,⟨qx12,kx12,cx12⟩⟩)::rs11,z.1≠n:=fun z hz=>by
   rcases List.mem_cons.1 hz with rfl | hz
   ·show n+1≠n
    omega
   ·exact (hne11 z hz).1
  have hCR:CpxOk Ho31 cad caf (fun _=>False) ((n+1,⟨b12,p12,⟨ql12,(monL cad (n+1)).length,cl12⟩,⟨qm12,km12,cm12⟩,⟨qz12,kz12,cz12⟩,⟨qy12,ky12,cy12⟩,⟨qx12,kx12,cx12⟩⟩)::rs11):=hCr11.cons (fun z hz=>(hne11 z hz).2) hL12;have hN0:Nxt (fun m=>m=n) ((n,⟨b11,p11,⟨ql11,(monL cad (n)).length,cl11⟩,⟨qm11,mt.length,cm11⟩,⟨qo31,(kerS mt (monL cad (n+1)).length).length,co31⟩,⟨qy11,ky11,cy11⟩,⟨qx11,kx11,cx11⟩⟩)::(n+1,⟨b12,p12,⟨ql12,(monL cad (n+1)).length,cl12⟩,⟨qm12,km12,cm12⟩,⟨qz12,kz12,cz12⟩,⟨qy12,ky12,cy12⟩,⟨qx12,kx12,cx12⟩⟩)::rs11):=(hN11.perm hp11).swap hneR (fun _ _ _ h=>h) fun h=>absurd rfl h;refine EJ.reL (fun w hH=>Hp.lvBack (x:=(n,⟨b11,p11,⟨ql11,(monL cad (n)).length,cl11⟩,⟨qm11,mt.length,cm11⟩,⟨qo31,(kerS mt (monL cad (n+1)).length).length,co31⟩,⟨qy11,ky11,cy11⟩,⟨qx11,kx11,cx11⟩⟩)) (y:=(n+1,⟨b12,p12,⟨ql12,(monL cad (n+1)).length,cl12⟩,⟨qm12,km12,cm12⟩,⟨qz12,kz12,cz12⟩,⟨qy12,ky12,cy12⟩,⟨qx12,kx12,cx12⟩⟩)) (((hH.front (.s (.s (.s .z)))).front (.s (.s (.s .z)))).front (.s (.s (.s .z))))) (Ja (hK6 (CJ.cutU (σ:=HP × Option Addr × Nat × List (Int × Lv)) (fun ⟨Hj,qj,cj,rsj⟩=>[]) (fun ⟨Hj,qj,cj,rsj⟩=>Hj) (fun ⟨Hj,qj,cj,rsj⟩=>obj b11 (.cells [.slice ql11 (monL cad (n)).length cl11,.map (some p11),.slice qm11 mt.length cm11,.slice qo31 (kerS mt (monL cad (n+1)).length).length co31,.slice qj (bdS cad caf n).length cj,.slice qx11 kx11 cx11].toArray 88 (0,0))::lvO rsj::lvM lc ((n,b11)::lvK rsj)::L) (fun ⟨Hj,qj,cj,rsj⟩=>Le Ho31 Hj∧RowsR Hj qj (bdS cad caf n)∧CpxOk Hj cad caf (fun _=>False) rsj∧(∀z∈rsj,z.1≠n)∧Nxt (fun m=>m=n) ((n,⟨b11,p11,⟨ql11,(monL cad (n)).length,cl11⟩,⟨qm11,mt.length,cm11⟩,⟨qo31,(kerS mt (monL cad (n+1)).length).length,co31⟩,⟨qy11,ky11,cy11⟩,⟨qx11,kx11,cx11⟩⟩)::rsj)∧n+1∈rsj.map (·.1)∧Kp ((n+1,⟨b12,p12,⟨ql12,(monL cad (n+1)).length,cl12⟩,⟨qm12,km12,cm12⟩,⟨qz12,kz12,cz12⟩,⟨qy12,ky12,cy12⟩,⟨qx12,kx12,cx12⟩⟩)::rs11) rsj) ?_ ?_)))
  ·
   intro _ hMt1;refine Je fun _ hK7 _=>(Jb (Jg (Jc rfl) rfl (Jg (EK rfl rfl) rfl (Jf (Ja (hK7 (Jq rfl (fun h35=>?_) (fun h35=>?_))))))))
   ·
    have hbe:bdS cad caf n=redS (matS cad caf (n - 1)):=if_pos h35;have hft:fit2 cad (n - 1):=⟨hfit.2 h35,by rw [Int.sub_add_cancel];exact hfit.1⟩;refine Jb (Jg (Jc rfl) rfl (Jg (Jc rfl) rfl (Jg (Jc rfl) rfl (Jg (EH rfl rfl (by first | exact nw _ (by omega) | rfl)) rfl ?_))));have hC0:CpxOk Ho31 cad caf (fun m=>m=n) ((n,⟨b11,p11,⟨ql11,(monL cad (n)).length,cl11⟩,⟨qm11,mt.length,cm11⟩,⟨qo31,(kerS mt (monL cad (n+1)).length).length,co31⟩,⟨qy11,ky11,cy11⟩,⟨qx11,kx11,cx11⟩⟩)::(n+1,⟨b12,p12,⟨ql12,(monL cad (n+1)).length,cl12⟩,⟨qm12,km12,cm12⟩,⟨qz12,kz12,cz12⟩,⟨qy12,ky12,cy12⟩,⟨qx12,kx12,cx12⟩⟩)::rs11):=(hCR.mono fun _ _ h=>h.elim).cons hneR ⟨⟨rfl,hpw11,hpl11,hL11.one.z⟩,fun h=>absurd rfl h,fun h=>absurd rfl h⟩;refine J.reL (fun w hH=>Hp.lvIn (x:=(n,⟨b11,p11,⟨ql11,(monL cad (n)).length,cl11⟩,⟨qm11,mt.length,cm11⟩,⟨qo31,(kerS mt (monL cad (n+1)).length).length,co31⟩,⟨qy11,ky11,cy11⟩,⟨qx11,kx11,cx11⟩⟩)) (rest:=(n+1,⟨b12,p12,⟨ql12,(monL cad (n+1)).length,cl12⟩,⟨qm12,km12,cm12⟩,⟨qz12,kz12,cz12⟩,⟨qy12,ky12,cy12⟩,⟨qx12,kx12,cx12⟩⟩)::rs11) (((hH.front (.s (.s .z))).front (.s (.s .z))).front (.s (.s .z)))) (Ju fn75 rfl rfl fun w hH=>(withMatrix_c (n:=n - 1) (X:=fun m=>m=n) pc0 pc1 pcad pcaf hcad hcaf hd h8 (by omega) hA (by show ¬(n - 1=n);omega) hft.1 (fun _=>hom (n - 1) (by omega) hft) hC0 hN0 hH).mono ?_);rintro _ w ⟨H40,ls40,⟨b40,p40,⟨ql40,kl40,cl40⟩,⟨qm40,km40,cm40⟩,⟨qz40,kz40,cz40⟩,⟨qy40,ky40,cy40⟩,⟨qx40,kx40,cx40⟩⟩,hle40,hC40,hx40,hsub40,hN40,hk40,⟨hm40,hkp40⟩,rfl,hH⟩;refine ⟨_,rfl,fun a hF=>JH hF hH ?_⟩;replace pc0:=pc0.le hle40;replace pc1:=pc1.le hle40;replace pcad:=pcad.le hle40;replace pcaf:=pcaf.le hle40;replace hcad:=hcad.le hle40;replace hcaf:=hcaf.le hle40;replace hC:=hC.le hle40;replace hCr11:=hCr11.le hle40;replace hL11:=hL11.le hle40;replace hL12:=hL12.le hle40;replace hmr:=hmr.le hle40;replace hpw11:=hpw11.le hle40;replace hpl11:=hpl11.le hle40;replace hpw12:=hpw12.le hle40;replace hxo31:=hxo31.le hle40;replace hz3:=hz3.le hle40;replace hCR:=hCR.le hle40;obtain ⟨rs40,hp40,hCr40,hne40,hM40,hL40⟩:=hC40.out2 (hsub40 (n,⟨b11,p11,⟨ql11,(monL cad (n)).length,cl11⟩,⟨qm11,mt.length,cm11⟩,⟨qo31,(kerS mt (monL cad (n+1)).length).length,co31⟩,⟨qy11,ky11,cy11⟩,⟨qx11,kx11,cx11⟩⟩) (by simp) (by show n≠n - 1;omega)) hx40 (by omega);obtain rfl:kl40=(monL cad (n - 1)).length:=hL40.one.len;obtain ⟨mt40,hmt40,hm9⟩:=hm40;obtain rfl:=hmt40.eq (by rw [Int.sub_add_cancel];exact hfit.1);obtain ⟨rfl,hmr40⟩:km40=(matS cad caf (n - 1)).length∧RowsR H40 qm40 (matS cad caf (n - 1)):=hm9;refine J.reL (L':=obj b11 (.cells [.slice ql11 (monL cad (n)).length cl11,.map (some p11),.slice qm11 mt.length cm11,.slice qo31 (kerS mt (monL cad (n+1)).length).length co31,.slice qy11 ky11 cy11,.slice qx11 kx11 cx11].toArray 88 (0,0))::obj b40 (.cells [.slice ql40 (monL cad (n - 1)).length cl40,.map (some p40),.slice qm40 (matS cad caf (n - 1)).length cm40,.slice qz40 kz40 cz40,.slice qy40 ky40 cy40,.slice qx40 kx40 cx40].toArray 88 (0,0))::lvO rs40::lvM lc ((n,b11)::(n - 1,b40)::lvK rs40)::_) (fun w hH=>Hp.lvOut2 (x:=(n,⟨b11,p11,⟨ql11,(monL cad (n)).length,cl11⟩,⟨qm11,mt.length,cm11⟩,⟨qo31,(kerS mt (monL cad (n+1)).length).length,co31⟩,⟨qy11,ky11,cy11⟩,⟨qx11,kx11,cx11⟩⟩)) (y:=(n - 1,⟨b40,p40,⟨ql40,(monL cad (n - 1)).length,cl40⟩,⟨qm40,(matS cad caf (n - 1)).length,cm40⟩,⟨qz40,kz40,cz40⟩,⟨qy40,ky40,cy40⟩,⟨qx40,kx40,cx40⟩⟩)) hp40 hH) (Jg (Jv rfl) rfl (Jg (Jl u88 rfl sz31 rfl) rfl (Jg (Js rfl (.s .z) rfl pl31) rfl (Ju fn46 rfl rfl fun w hH=>(reduce_c (W:=(monL cad (n - 1+1)).length) hmr40 (matS_ok hA h8 hd) (by rw [matS_len];have:=monL_len cad (n - 1);omega) (by have:=monL_len cad (n - 1+1);omega) hH).mono ?_))));rintro _ w ⟨qo44,co44,vso44,rfl,hH⟩;refine ⟨_,rfl,fun a hF=>JH hF hH ?_⟩;refine Ev .z fun Ho44 hleo44 hAo44=>?_;replace pc0:=pc0.le hleo44;replace pc1:=pc1.le hleo44;replace pcad:=pcad.le hleo44;replace pcaf:=pcaf.le hleo44;replace hcad:=hcad.le hleo44;replace hcaf:=hcaf.le hleo44;replace hC:=hC.le hleo44;replace hCr11:=hCr11.le hleo44;replace hL11:=hL11.le hleo44;replace hL12:=hL12.le hleo44;replace hmr:=hmr.le hleo44;replace hpw11:=hpw11.le hleo44;replace hpl11:=hpl11.le hleo44;replace hpw12:=hpw12.le hleo44;replace hxo31:=hxo31.le hleo44;replace hz3:=hz3.le hleo44;replace hCR:=hCR.le hleo44;replace hCr40:=hCr40.le hleo44;replace hL40:=hL40.le hleo44;replace hmr40:=hmr40.le hleo44;have hxo44:=own_rows hAo44;have hco44:=own_le hAo44.1;refine Jg (Jv rfl) rfl (Jg (Jl u88 rfl sz31 rfl) rfl (Et rfl rfl rfl rfl sz31 (by simp [*]) At.z ?_))
    have hneS : ∀z∈(n - 1,⟨b40,p40,⟨ql40,(monL cad (n - 1)).length,cl40⟩,⟨qm40,(matS cad caf (n - 1)).length,cm40⟩,⟨qz40,kz40,cz40⟩,⟨qy40,ky40,cy40⟩,⟨qx40,kx40,cx40⟩⟩)::rs40,z.1≠n:=fun z hz=>by
     rcases List.mem_cons.1 hz with rfl | hz
     ·show n - 1≠n
      omega
     ·exact (hne40 z hz).1
    have hCS:CpxOk Ho44 cad caf (fun _=>False) ((n - 1,⟨b40,p40,⟨ql40,(monL cad (n - 1)).length,cl40⟩,⟨qm40,(matS cad caf (n - 1)).length,cm40⟩,⟨qz40,kz40,cz40⟩,⟨qy40,ky40,cy40⟩,⟨qx40,kx40,cx40⟩⟩)::rs40):=(hCr40.mono fun z hz h=>absurd h (hne40 z hz).1).cons (fun z hz=>(hne40 z hz).2) (hL40.mono fun h=>by have:n - 1=n:=h;omega);have hNS:=hN40.perm hp40
    have hkS:n+1∈((n - 1,⟨b40,p40,⟨ql40,(monL cad (n - 1)).length,cl40⟩,⟨qm40,(matS cad caf (n - 1)).length,cm40⟩,⟨qz40,kz40,cz40⟩,⟨qy40,ky40,cy40⟩,⟨qx40,kx40,cx40⟩⟩)::rs40).map (·.1):=by
     have h1:=hp40.subset (hsub40 (n+1,⟨b12,p12,⟨ql12,(monL cad (n+1)).length,cl12⟩,⟨qm12,km12,cm12⟩,⟨qz12,kz12,cz12⟩,⟨qy12,ky12,cy12⟩,⟨qx12,kx12,cx12⟩⟩) (by simp) (by show n+1≠n - 1;omega))
     rcases List.mem_cons.1 h1 with h1 | h1
     ·have:=congrArg Prod.fst h1;simp only at this
      omega
     ·exact mem_key h1
    have hKS:Kp ((n+1,⟨b12,p12,⟨ql12,(monL cad (n+1)).length,cl12⟩,⟨qm12,km12,cm12⟩,⟨qz12,kz12,cz12⟩,⟨qy12,ky12,cy12⟩,⟨qx12,kx12,cx12⟩⟩)::rs11) ((n - 1,⟨b40,p40,⟨ql40,(monL cad (n - 1)).length,cl40⟩,⟨qm40,(matS cad caf (n - 1)).length,cm40⟩,⟨qz40,kz40,cz40⟩,⟨qy40,ky40,cy40⟩,⟨qx40,kx40,cx40⟩⟩)::rs40):=fun y hy hF=>by
     rcases List.mem_cons.1 (hp40.subset (hkp40 y (List.mem_cons_of_mem _ hy) hF)) with rfl | h1
     ·exact absurd rfl (hneR _ hy)
     ·exact h1
    refine J.reL (fun w hH=>Hp.lvBack (x:=(n,⟨b11,p11,⟨ql11,(monL cad (n)).length,cl11⟩,⟨qm11,mt.length,cm11⟩,⟨qo31,(kerS mt (monL cad (n+1)).length).length,co31⟩,⟨qo44,(redS (matS cad caf (n - 1))).length,co44⟩,⟨qx11,kx11,cx11⟩⟩)) (y:=(n - 1,⟨b40,p40,⟨ql40,(monL cad (n - 1)).length,cl40⟩,⟨qm40,(matS cad caf (n - 1)).length,cm40⟩,⟨qz40,kz40,cz40⟩,⟨qy40,ky40,cy40⟩,⟨qx40,kx40,cx40⟩⟩)) ((((hH.front (.s (.s (.s .z)))).front (.s (.s (.s .z)))).front (.s (.s (.s .z)))).front (.s (.s (.s .z))))) (Jf (Ja ?_));exact hMt1 (Ho44,qo44,co44,(n - 1,⟨b40,p40,⟨ql40,(monL cad (n - 1)).length,cl40⟩,⟨qm40,(matS cad caf (n - 1)).length,cm40⟩,⟨qz40,kz40,cz40⟩,⟨qy40,ky40,cy40⟩,⟨qx40,kx40,cx40⟩⟩)::rs40) ⟨(hle40.trans hleo44),by rw [hbe];exact hxo44,hCS,hneS,hNS,hkS,hKS⟩ 13 rfl rfl trivial rfl (by dsimp only;rw [hbe])
   ·
    have hbz:bdS cad caf n=[]:=if_neg h35;have hky:ky11=0:=hL11.one.z (by omega);refine Jn (Ja ?_);exact hMt1 (Ho31,qy11,cy11,(n+1,⟨b12,p12,⟨ql12,(monL cad (n+1)).length,cl12⟩,⟨qm12,km12,cm12⟩,⟨qz12,kz12,cz12⟩,⟨qy12,ky12,cy12⟩,⟨qx12,kx12,cx12⟩⟩)::rs11) ⟨(Le.refl _),by rw [hbz];exact RowsR.nil _ _,hCR,hneR,hN0,by simp,Kp.refl _⟩ 2 rfl rfl trivial rfl (by subst hky;dsimp only;rw [hbz];rfl)
  ·
   rintro ⟨Hj,qj,cj,rsj⟩ ⟨hlj,hbx,hCj,hnej,hNj,hkj,hKj⟩;replace pc0:=pc0.le hlj;replace pc1:=pc1.le hlj;replace pcad:=pcad.le hlj;replace pcaf:=pcaf.le hlj;replace hcad:=hcad.le hlj;replace hcaf:=hcaf.le hlj;replace hC:=hC.le hlj;replace hCr11:=hCr11.le hlj;replace hL11:=hL11.le hlj;replace hL12:=hL12.le hlj;replace hmr:=hmr.le hlj;replace hpw11:=hpw11.le hlj;replace hpl11:=hpl11.le hlj;replace hpw12:=hpw12.le hlj;replace hxo31:=hxo31.le hlj;replace hz3:=hz3.le hlj;replace hCR:=hCR.le hlj;have hclR:=ker_red hmok hmlen;have hbdR:=bdS_red (n:=n) hA h8 hd;have hclc:=hclR.count;have hbdc:=hbdR.count;refine Je fun _ hK8 _=>(Jb (EI (EP u31 sz22) rfl fun qo47 co47=>(Jg (Jd rfl) rfl (Jf (Ja (hK8 (Je fun _ hK9 _=>(Je fun _ hK10 _=>(Jb (Jg (Jc rfl) rfl (Jg (Jv rfl) rfl (Jg (Jl u88 rfl sz31 rfl) rfl (Jg (Js rfl (.s .z) rfl pl31) rfl (Jg (Jo u31 rfl rfl) rfl (Jg (Jc rfl) rfl ?_)))))))))))))));refine Jf (Ja (hK10 (Jp (JD (σ:=HP × Option Addr × Nat × List Value × Nat) (fun ⟨Hk,q,c,vals,k⟩=>[(53,.int .i64 (k:Int)),(6,.slice q k c)]) (fun ⟨Hk,q,c,vals,k⟩=>Hk) (fun ⟨Hk,q,c,vals,k⟩=>own 22 1 q k c vals::obj b11 (.cells [.slice ql11 (monL cad (n)).length cl11,.map (some p11),.slice qm11 mt.length cm11,.slice qo31 (kerS mt (monL cad (n+1)).length).length co31,.slice qj (bdS cad caf n).length cj,.slice qx11 kx11 cx11].toArray 88 (0,0))::lvO rsj::lvM lc ((n,b11)::lvK rsj)::L) (fun ⟨Hk,q,c,vals,k⟩=>Le Hj Hk∧SlF Hk vals (lfG (kerS mt (monL cad (n+1)).length) (bdS cad caf n) k)∧k≤(kerS mt (monL cad (n+1)).length).length) (fun ⟨Hk,q,c,vals,k⟩=>(kerS mt (monL cad (n+1)).length).length - k) (Hj,qo47,co47, [],0) ⟨Le.refl _,SlF.nil _,by omega⟩ ⟨rfl,⟨rfl,trivial⟩⟩ rfl rfl ?_))));rintro ⟨Hk,q,c,vals,k⟩ ⟨hlk,hS,hk⟩ _ hAg0;replace pc0:=pc0.le hlk;replace pc1:=pc1.le hlk;replace pcad:=pcad.le hlk;replace pcaf:=pcaf.le hlk;replace hcad:=hcad.le hlk;replace hcaf:=hcaf.le hlk;replace hC:=hC.le hlk;replace hCr11:=hCr11.le hlk;replace hL11:=hL11.le hlk;replace hL12:=hL12.le hlk;replace hmr:=hmr.le hlk;replace hpw11:=hpw11.le hlk;replace hpl11:=hpl11.le hlk;replace hpw12:=hpw12.le hlk;replace hxo31:=hxo31.le hlk;replace hz3:=hz3.le hlk;replace hCR:=hCR.le hlk;replace hbx:=hbx.le hlk;replace hCj:=hCj.le hlk;refine Je fun _ hK11 _=>(Jb (Jg (JJ rfl rfl) rfl (Jf (Ja (hK11 (Je fun _ hK12 _=>(Jq rfl (fun h54=>?_) (fun h54=>?_))))))))
   ·
    have hkc:k<(kerS mt (monL cad (n+1)).length).length:=by omega
    refine Jn (Ja (hK12 (Je fun _ hK13 _=>(Jp (Je fun _ hK14 _=>(Jb (Jg (JL u31 sz22 rfl rfl rfl hkc hxo31.sm) rfl ?_)))))));obtain ⟨qe56,ce56,he56,le56,Fe56⟩:=hxo31 k hkc;refine Jg (JE rfl he56 pl22) rfl (Jg (Jd rfl) rfl (Jf (Ja (hK14 (Jb (Jg (Jc rfl) rfl (Jg (Jc rfl) rfl (Jg (Jc rfl) rfl (Jg (Jv rfl) rfl (Jg (Jl u88 rfl sz31 rfl) rfl (Jg (Js rfl (.s .z) rfl pl31) rfl (Ju fn78 rfl rfl fun w hH=>(reduceBy_c (W:=(monL cad n).length) Fe56 hbx (hclR.row _ (rw_mem hkc)) hbdR.led (by omega) (by omega) hH).mono ?_))))))))))));rintro _ w ⟨qo63,co63,rfl,hH⟩;refine ⟨_,rfl,fun a hF=>JH hF hH ?_⟩;refine Ev .z fun Ho63 hleo63 hAo63=>?_;replace pc0:=pc0.le hleo63;replace pc1:=pc1.le hleo63;replace pcad:=pcad.le hleo63;replace pcaf:=pcaf.le hleo63;replace hcad:=hcad.le hleo63;replace hcaf:=hcaf.le hleo63;replace hC:=hC.le hleo63;replace hCr11:=hCr11.le hleo63;replace hL11:=hL11.le hleo63;replace hL12:=hL12.le hleo63;replace hmr:=hmr.le hleo63;replace hpw11:=hpw11.le hleo63;replace hpl11:=hpl11.le hleo63;replace hpw12:=hpw12.le hleo63;replace hxo31:=hxo31.le hleo63;replace hz3:=hz3.le hleo63;replace hCR:=hCR.le hleo63;replace hbx:=hbx.le hleo63;replace hCj:=hCj.le hleo63;replace hS:=hS.le hleo63;replace Fe56:=Fe56.le hleo63;have hxo63:=own_ints hAo63;have hco63:=own_le hAo63;refine EI (EN u31 ze22 sz22 rfl rfl) rfl fun qo64 co64=>(EG u31 ze22 sz22 by22 rfl rfl rfl rfl (by omega) .z At.z (fun _ _=>At.z) rfl fun qo65 co65=>?_);have hS2:=hS.snoc hxo63 rfl hco63;refine Jg (Jd rfl) rfl (Jf (JF (Ja (hK13 (Jb (Jg (Jz rfl rfl (by first | exact nw _ (by omega) | rfl)) rfl (Jg (Jc rfl) rfl (Jf (Ja (JN .z ?_))))))))));exact hAg0 (Ho63,qo65,co65,_,k+1) ⟨(hlk.trans hleo63),by rw [lfG_succ hkc];exact hS2,by omega⟩ (by show (kerS mt (monL cad (n+1)).length).length - (k+1)<(kerS mt (monL cad (n+1)).length).length - k;omega) 18 rfl rfl ⟨rfl,⟨rfl,trivial⟩⟩ rfl rfl
   ·
    refine JG (Jj (Jj (JK (Ja (hK9 (Je fun _ hK15 _=>(Jb (Jg (Jc rfl) rfl (Jg (Ep (v':=.slice q (lfG (kerS mt (monL cad (n+1)).length) (bdS cad caf n) k).length c) (by rw [lfG_len hk]) (Jc rfl)) rfl (Ev .z fun Ho47 hleo47 hAo47=>?_))))))))));replace pc0:=pc0.le hleo47;replace pc1:=pc1.le hleo47;replace pcad:=pcad.le hleo47;replace pcaf:=pcaf.le hleo47;replace hcad:=hcad.le hleo47;replace hcaf:=hcaf.le hleo47;replace hC:=hC.le hleo47;replace hCr11:=hCr11.le hleo47;replace hL11:=hL11.le hleo47;replace hL12:=hL12.le hleo47;replace hmr:=hmr.le hleo47;replace hpw11:=hpw11.le hleo47;replace hpl11:=hpl11.le hleo47;replace hpw12:=hpw12.le hleo47;replace hxo31:=hxo31.le hleo47;replace hz3:=hz3.le hleo47;replace hCR:=hCR.le hleo47;replace hbx:=hbx.le hleo47;replace hCj:=hCj.le hleo47;replace hS:=hS.le hleo47;have hxo47:=hS.rows (Le.refl _) hAo47;have hco47:=own_le hAo47;refine Ju fn46 rfl rfl fun w hH=>(reduce_c (W:=(monL cad n).length) hxo47 (lfG_ok hclR.row hbdR.row) (by rw [lfG_len hk];omega) (by omega) hH).mono ?_;rintro _ w ⟨qo69,co69,vso69,rfl,hH⟩;refine ⟨_,rfl,fun a hF=>JH hF hH ?_⟩;refine Ev .z fun Ho69 hleo69 hAo69=>?_;replace pc0:=pc0.le hleo69;replace pc1:=pc1.le hleo69;replace pcad:=pcad.le hleo69;replace pcaf:=pcaf.le hleo69;replace hcad:=hcad.le hleo69;replace hcaf:=hcaf.le hleo69;replace hC:=hC.le hleo69;replace hCr11:=hCr11.le hleo69;replace hL11:=hL11.le hleo69;replace hL12:=hL12.le hleo69;replace hmr:=hmr.le hleo69;replace hpw11:=hpw11.le hleo69;replace hpl11:=hpl11.le hleo69;replace hpw12:=hpw12.le hleo69;replace hxo31:=hxo31.le hleo69;replace hz3:=hz3.le hleo69;replace hCR:=hCR.le hleo69;replace hbx:=hbx.le hleo69;replace hCj:=hCj.le hleo69;replace hS:=hS.le hleo69;replace hxo47:=hxo47.le hleo69;have hxo69:=own_rows hAo69;have hco69:=own_le hAo69.1;refine Jg (Jv rfl) rfl (Jg (Jl u88 rfl sz31 rfl) rfl (Et rfl rfl rfl rfl sz31 (by simp [*]) At.z (Jf (Ja (hK15 (Je fun _ hK16 _=>(Jb (Jg (Jc rfl) rfl (Jg (Jd rfl) rfl (Jf (Ja (hK16 (Jt (Jr rfl (Res.tmp rfl) fun w hH=>?_))))))))))))));replace hH:=hH.sublist (.cons_cons _ (.cons_cons _ (.cons_cons _ (List.Sublist.refl _))))
    have hke:k=(kerS mt (monL cad (n+1)).length).length:=by omega
    subst hke
    have hL3:Lv3 Ho69 cad caf n ⟨b11,p11,⟨ql11,(monL cad (n)).length,cl11⟩,⟨qm11,mt.length,cm11⟩,⟨qo31,(kerS mt (monL cad (n+1)).length).length,co31⟩,⟨qj,(bdS cad caf n).length,cj⟩,⟨qo69,(redS (lfG (kerS mt (monL cad (n+1)).length) (bdS cad caf n) (kerS mt (monL cad (n+1)).length).length)).length,co69⟩⟩:=⟨⟨rfl,hbx⟩,fun hf9=>by
     obtain rfl:=hmt.eq hf9
     exact ⟨⟨rfl,hxo31⟩,by rw [← lfG_end];exact ⟨rfl,hxo69⟩⟩⟩
    have hq0:qz11=none:=by cases qz11 <;> simp_all
    have hKf:Kp ls ((n,⟨b11,p11,⟨ql11,(monL cad (n)).length,cl11⟩,⟨qm11,mt.length,cm11⟩,⟨qo31,(kerS mt (monL cad (n+1)).length).length,co31⟩,⟨qj,(bdS cad caf n).length,cj⟩,⟨qo69,(redS (lfG (kerS mt (monL cad (n+1)).length) (bdS cad caf n) (kerS mt (monL cad (n+1)).length).length)).length,co69⟩⟩)::rsj):=fun y hy hF=>by
     rcases List.mem_cons.1 (hp11.subset (hkp11 y hy hF)) with rfl | h1
     ·have h2:qz11.isSome=true:=hF.2;rw [hq0] at h2
      cases h2
     ·exact List.mem_cons_of_mem _ (hKj y h1 hF)
    exact ⟨_,(n,⟨b11,p11,⟨ql11,(monL cad (n)).length,cl11⟩,⟨qm11,mt.length,cm11⟩,⟨qo31,(kerS mt (monL cad (n+1)).length).length,co31⟩,⟨qj,(bdS cad caf n).length,cj⟩,⟨qo69,(redS (lfG (kerS mt (monL cad (n+1)).length) (bdS cad caf n) (kerS mt (monL cad (n+1)).length).length)).length,co69⟩⟩)::rsj,_,(((((hle11.trans hleo31).trans hlj).trans hlk).trans hleo47).trans hleo69),hCj.cons hnej ⟨⟨rfl,hpw11,hpl11,fun h=>by show (bdS cad caf n).length=0;rw [bdS,if_neg (by omega)];rfl⟩,fun _ _ _=>⟨mt,hmt,rfl,hmr⟩,fun _ _ _=>hL3⟩,hNj.swap hnej (fun _ _ h=>h) fun _ _=>List.mem_cons_of_mem _ hkj,List.mem_cons_self,⟨hL3,⟨mt,hmt,rfl,hmr⟩,hKf⟩,rfl,Hp.lvIn (x:=(n,⟨b11,p11,⟨ql11,(monL cad (n)).length,cl11⟩,⟨qm11,mt.length,cm11⟩,⟨qo31,(kerS mt (monL cad (n+1)).length).length,co31⟩,⟨qj,(bdS cad caf n).length,cj⟩,⟨qo69,(redS (lfG (kerS mt (monL cad (n+1)).length) (bdS cad caf n) (kerS mt (monL cad (n+1)).length).length)).length,co69⟩⟩)) (rest:=rsj) ((hH.front (.s .z)).front (.s .z))⟩
theorem at_c {B:World} {H0 H:HP} {L:List SA} {w:World} {bc lc bca:Nat} {qcad qcaf:Option Addr} {ccad ccaf:Nat} {cad:List Int} {caf:List (List Term)} {n:Int} {ls:List (Int × Lv)} (pc0:CellAt H bc 0 (.pointer (some ⟨bca,0,none⟩))) (pc1:CellAt H bc 1 (.map (some lc))) (pcad:CellAt H bca 0 (.slice qcad cad.length ccad)) (pcaf:CellAt H bca 1 (.slice qcaf caf.length ccaf)) (hcad:Ints H qcad cad) (hcaf:Forms H qcaf caf) (hd : ∀j,j<cad.length→1≤cad.getD j 0∧cad.getD j 0≤12) (h8:cad.length≤8) (hn : -1≤n∧n≤100000) (hA:AlgOk cad caf) (hfit:fit3 cad n) (hom : ∀m,m≤n→fit2 cad m→Hom1 cad caf m) (hC:CpxOk H cad caf (fun _=>False) ls) (hN:Nxt (fun _=>False) ls) (hH:Hp B H0 H (cpx lc ls::L) w) :
 Calls Tryz.prog 41 [.pointer (some ⟨bc,0,none⟩),.int .i64 n].toArray w fun e w'=>∃H' ls' x,Le H H' ∧CpxOk H' cad caf (fun _=>False) ls' ∧Nxt (fun _=>False) ls' ∧(n,x)∈ls' ∧(Lv3F H' cad caf n x∧SlIs H' x.m (matS cad caf n)∧Kp ls ls')∧e = .returned (.pointer (some ⟨x.b,0,none⟩))∧Hp B H0 H' (cpx lc ls'::L) w':=(atP_c pc0 pc1 pcad pcaf hcad hcaf hd h8 hn hA ⟨hfit.1.1,hfit.2⟩ hom hC hN hH).mono fun e w' h=>by
 obtain ⟨H',ls',x,h1,h2,h3,h4,⟨⟨h5,h6⟩,⟨mt,h7,h8⟩,h9⟩,h10,h11⟩:=h
 obtain rfl:=h7.eq hfit.1.2
 exact ⟨H',ls',x,h1,h2,h3,h4,⟨⟨(h6 hfit.1.2).1,h5,(h6 hfit.1.2).2⟩,h8,h9⟩,h10,h11⟩
theorem u135:Tryz.prog.underlying 135=some (TypeDesc.slice 105):=by kernel_rfl
theorem by105:Bytes Tryz.prog 105 8:=by unfold Bytes;kernel_rfl
theorem fn118:Fn Tryz.prog 118:=⟨_,Tryz.func118,by kernel_rfl,rfl⟩
theorem EnI.stop {ds:List Int} {i:Nat} {m mm:Pw} {n e:Int} {A acc:List Pw} (h:EnI ds i m n e A mm) (hl:401≤(capL 401 acc A).length):capL 401 acc A=capL 401 acc (enS ds i m n):=by
 rw [← h.eq,← capL_app,capL_full hl]
theorem EnI.stop2 {ds:List Int} {i:Nat} {m mm:Pw} {n e:Int} {A acc:List Pw} (h:EnI ds i m n e A mm) (he : ¬0≤e):capL 401 acc A=capL 401 acc (enS ds i m n):=by rw [← h.end (by omega)]
theorem topS_odd {d n:Int} (h0:1≤d) (h:d.tmod 2≠0):min (min (n.tdiv d) 1) 20=topM d n:=by
 have:=tmod_two (d:=d) (by omega);rw [topM,if_pos (by omega)]
 omega
theorem topS_even {d n:Int} (h : ¬d.tmod 2≠0):min (n.tdiv d) 20=topM d n:=by
 rw [topM,if_neg (by omega)]
theorem Mono.set {m:List Int} (h:Mono m) {i:Nat} {e:Int} (he:0≤e∧e≤255):Mono (m.set i e):=⟨by rw [List.length_set];exact h.len,fun j=>by
 rw [getD_set8]
 split
 ·exact he
 ·exact h.bd j⟩
structure EnB (ds:List Int) (i:Nat) (m:Pw) (n e:Int) (A:List Pw) (mm:Pw):Prop where
 en:EnI ds i m n e A mm
 mo:Mono mm
theorem l01FillX_c {B:World} {H0 H:HP} {L:List SA} {w:World} {qds:Option Addr} {cds:Nat} {ds:List Int} {m:List Int} {i:Nat} {n:Int} {qo:Option Addr} {co:Nat} {acc:List Pw} (hds:Ints H qds ds) (hm:Mono m) (hd : ∀j,j<ds.length→1≤ds.getD j 0∧ds.getD j 0≤12) (hi:i≤ds.length) (h8:ds.length≤8) (hn : -1000000≤n∧n≤1000000) (ha:acc.length≤400) (hrec:i<ds.length→∀(m':Pw) (n':Int) (acc':List Pw) (qo':Option Addr) (co':Nat),Mono m' → -1000000≤n' ∧n' ≤1000000→acc'.length≤400→∀(L:List SA) (w:World),Hp B H0 H (own 105 8 qo' acc'.length co' (msC acc')::L) w→Calls Tryz.prog 118 [.slice qds ds.length cds,.agg (bytesC m').toArray,.int .i64 ((i+1:Nat):Int),.int .i64 n',.slice qo' acc'.length co'].toArray w fun r w'=>∃q c,r = .returned (.slice q (capL 401 acc' (enS ds (i+1) m' n')).length c)∧Hp B H0 H (own 105 8 q (capL 401 acc' (enS ds (i+1) m' n')).length c (msC (capL 401 acc' (enS ds (i+1) m' n')))::L) w') (hH:Hp B H0 H (own 105 8 qo acc.length co (msC acc)::L) w):Calls Tryz.prog 118 [.slice qds ds.length cds,.agg (bytesC m).toArray,.int .i64 (i:Int),.int .i64 n,.slice qo acc.length co].toArray w fun e w'=>∃q c,e = .returned (.slice q (capL 401 acc (enS ds i m n)).length c)∧Hp B H0 H (own 105 8 q (capL 401 acc (enS ds i m n)).length c (msC (capL 401 acc (enS ds i m n)))::L) w':=by
 refine Jx Tryz.func118 rfl 68 rfl rfl [(0,.slice qds ds.length cds),(1,.agg (bytesC m).toArray),(2,.int .i64 (i:Int)),(3,.int .i64 n),(4,.slice qo acc.length co)] rfl hH ?_;have hml:=hm.len;clear hH;refine Je fun _ hK1 _=>(Jb (JW rfl rfl rfl fun g6=>(Jg (Jd rfl) rfl (Jf (Ja (hK1 (Je fun _ hK2 _=>(Je fun _ hK3 _=>(Jb (Jg (Jc rfl) rfl (Jg (Jc rfl) rfl (Jg (Jo u22 rfl rfl) rfl (Jg (EL rfl rfl) rfl (Jf (Ja (hK3 ?_))))))))))))))));refine Jq rfl (fun h16=>?_) (fun h16=>?_)
 ·
  refine Je fun _ hK4 _=>(Je fun _ hK5 _=>(Jb (Jg (Jc rfl) rfl (Jg (EL rfl rfl) rfl (Jf (Ja (hK5 (Jq rfl (fun h18=>?_) (fun h18=>?_)))))))))
  ·
   refine Je fun _ hK6 _=>(Jb (Jg (Jc rfl) rfl (Jg (Jm rfl At.z (by simpa [*] using ag105)) rfl (EI (MK.lit8 cf8B u135 ze105 rfl sz105 hm.len rfl) rfl fun qo21 co21=>(J.append8 cf8B u135 ze105 rfl sz105 by105 rfl rfl rfl (by omega) .z (.s .z) (fun _ _=>(.s .z)) rfl fun qo22 co22=>(Jg (Jd rfl) rfl (Jf (Ja (hK6 (Jt (Jk (Jk (Jr rfl (Res.tmp rfl) fun w hH=>?_)))))))))))));replace hH:=hH.sublist (.cons _ (.cons _ (.cons_cons _ (List.Sublist.refl _))));rw [show enS ds i m n=[m] from by rw [enS,enum_end (by omega),if_pos h18],capL_one (by omega),List.length_append];exact ⟨qo22,co22,rfl,hH⟩
  ·
   refine Jn (Ja (hK4 (Je fun _ hK7 _=>(Jb (Jg (Jc rfl) rfl (Jg (Jd rfl) rfl (Jf (Ja (hK7 (Jt (Jk (Jr rfl (Res.tmp rfl) fun w hH=>?_))))))))))));replace hH:=hH.sublist (.cons _ (.cons_cons _ (List.Sublist.refl _)));rw [show enS ds i m n=[] from by rw [enS,enum_end (by omega),if_neg h18],capL_nil];exact ⟨qo,co,rfl,hH⟩
 ·
  have hil:i<ds.length:=by omega
  have hdi:=hd i hil;have htb:=tdiv_b hdi.1 hn;have htt:=tmod_bd n;have hts:=topM_20 (ds.getD i 0) n;have htl:=topM_lo hdi.1 hn;refine Jn (Ja (hK2 (Je fun _ hK8 _=>(Jb (Jg (Jc rfl) rfl (Jg (Jc rfl) rfl (Jg (Jc rfl) rfl (Jg (JL u22 sz2 rfl rfl rfl hil hds.sm) rfl (Jg (JE rfl (hds _ hil) pl2) rfl (Jg (PR.quo rfl rfl (by omega) (nw _ (by omega))) rfl (Jg (Jd rfl) rfl (Jf (Ja (hK8 (CJ.cutU (σ:=Int) (fun (t:Int)=>[(11,.int .i64 t)]) (fun (t:Int)=>H) (fun (t:Int)=>obj g6 (.cells (bytesC m).toArray 105 (0,0))::own 105 8 qo acc.length co (msC acc)::L) (fun (t:Int)=>min t 20=topM (ds.getD i 0) n) ?_ ?_)))))))))))))))
  ·
   intro _ hMt1;refine Je fun _ hK9 _=>(Jb (Jg (Jc rfl) rfl (Jg (Jc rfl) rfl (Jg (JL u22 sz2 rfl rfl rfl hil hds.sm) rfl (Jg (JE rfl (hds _ hil) pl2) rfl (Jg (EF rfl rfl (by decide) rfl) rfl (Jg (Eo rfl rfl) rfl (Jf (Ja (hK9 (Jq rfl (fun h35=>?_) (fun h35=>?_))))))))))))
   ·
    refine Jb (Jg (Jc rfl) rfl (Jg (PR.min2 rfl rfl) rfl (Jg (Jd rfl) rfl (Jf (Ja ?_)))));exact hMt1 (min (n.tdiv (ds.getD i 0)) 1) (topS_odd hdi.1 h35) 9 rfl rfl ⟨(vi (min_if _ _)),trivial⟩ rfl rfl
   ·
    refine Jn (Ja ?_);exact hMt1 (n.tdiv (ds.getD i 0)) (topS_even h35) 6 rfl rfl ⟨rfl,trivial⟩ rfl rfl
  ·
   rintro t ht;refine Je fun _ hK10 _=>(Je fun _ hK11 _=>(Jb (Jg (Jc rfl) rfl (Jg (Ep (v':=.int .i64 (topM (ds.getD i 0) n)) (by rw [min_if,ht]) (PR.min2 rfl rfl)) rfl (Jg (Jd rfl) rfl (Jf (Ja (hK11 (Jp (JD (σ:=Int × List Pw × Pw × Option Addr × Nat) (fun ⟨e,A,mm,qo1,co1⟩=>[(12,.int .i64 e),(4,.slice qo1 (capL 401 acc A).length co1)]) (fun ⟨e,A,mm,qo1,co1⟩=>H) (fun ⟨e,A,mm,qo1,co1⟩=>obj g6 (.cells (bytesC mm).toArray 105 (0,0))::own 105 8 qo1 (capL 401 acc A).length co1 (msC (capL 401 acc A))::L) (fun ⟨e,A,mm,qo1,co1⟩=>EnB ds i m n e A mm) (fun ⟨e,A,mm,qo1,co1⟩=>(e+1).toNat) (topM (ds.getD i 0) n, [],m,qo,co) ⟨EnI.start hm.len hil hdi.1 hn,hm⟩ ⟨rfl,⟨(by rw [capL_nil];rfl),trivial⟩⟩ rfl (by dsimp only;rw [capL_nil]) ?_))))))))));rintro ⟨e,A,mm,qo1,co1⟩ hI _ hAg0;have hen:=hI.en;have hlo:=hen.lo;have hhi:=hen.hi;have hmml:=hI.mo.len;refine Je fun _ hK12 _=>(Je fun _ hK13 _=>(Jb (Jg (Jc rfl) rfl (Jg (PR.geq rfl rfl) rfl (Jg (Jc rfl) rfl (Ek (jd:=42) rfl (fun h41=>?_) (fun h41=>?_)))))))
   ·
    try have h41p:=of_decide_eq_true h41
    refine JV (Jc rfl) rfl rfl rfl h41 (JV (Jo u135 rfl rfl) rfl rfl rfl h41 (JV (PR.leq rfl rfl) rfl rfl rfl h41 (Jg (JY rfl h41 rfl) rfl (Jf (Ja (hK13 (Jq rfl (fun h45p=>?_) (fun h45p=>?_))))))))
    ·
     have hlb:=left_b hdi h41p hhi hn;have hmo:=hI.mo.set (i:=i) (e:=e) (by omega);refine Jn (Ja (hK12 (Je fun _ hK14 _=>(Jp (Je fun _ hK15 _=>(Jb (Jg (Jc rfl) rfl (Jg (Jc rfl) rfl (Jg (PR.conv u2 u5 rfl (u8_id (by omega))) rfl (Jg (JT u105 sz5 rfl rfl rfl (by omega)) rfl (J.storeB rfl rfl sz5 (by simp [*];omega) At.z (Jf (Ja (hK15 (Ea (Rs:=[_,_]) 15 [[], [], [], [2], [], [], [], [], [6,7], [6,7,8], [5,6,7,8,9], [4,5,6,7,8,9,10], [], [0,1,2,3,4,5,6,7,8,9,10,11,12], [0,1,2,3,4,5,6,7,8,9,10,11,12,13]] [[], [15], [], [], [], [], [], [], [], [], [], [], [], [], []] [[], [], [], [], [], [], [], [], [], [], [], [], [], [16], []] rfl rfl (by kernel_rfl) ?_)))))))))))))));apply Ji 1 rfl rfl rfl
     ·intros;conv=>lhs;simp only [Jh,reduceEqDiff,reduceAdd]
     ·exact Jc rfl
     apply Ji 2 rfl rfl rfl
     ·intros;conv=>lhs;simp only [Jh,reduceEqDiff,reduceAdd]
     ·exact Jm rfl At.z (by simpa [*] using ag105)
     apply Ji 3 rfl rfl rfl
     ·intros;conv=>lhs;simp only [Jh,reduceEqDiff,reduceAdd]
     ·exact Jc rfl
     apply Ji 4 rfl rfl rfl
     ·intros;conv=>lhs;simp only [Jh,reduceEqDiff,reduceAdd]
     ·exact Jz rfl rfl (by first | exact nw _ (by omega) | rfl)
     apply Ji 5 rfl rfl rfl
     ·intros;conv=>lhs;simp only [Jh,reduceEqDiff,reduceAdd]
     ·exact Jc rfl
     apply Ji 6 rfl rfl rfl
     ·intros;conv=>lhs;simp only [Jh,reduceEqDiff,reduceAdd]
     ·exact Jc rfl
     apply Ji 7 rfl rfl rfl
     ·intros;conv=>lhs;simp only [Jh,reduceEqDiff,reduceAdd]
     ·exact Jc rfl
     apply Ji 8 rfl rfl rfl
     ·intros;conv=>lhs;simp only [Jh,reduceEqDiff,reduceAdd]
     ·exact Jc rfl
     apply Ji 9 rfl rfl rfl
     ·intros;conv=>lhs;simp only [Jh,reduceEqDiff,reduceAdd]
     ·exact JL u22 sz2 rfl rfl rfl hil hds.sm
     apply Ji 10 rfl rfl rfl
     ·intros;conv=>lhs;simp only [Jh,reduceEqDiff,reduceAdd]
     ·exact JE rfl (hds _ hil) pl2
     apply Ji 11 rfl rfl rfl
     ·intros;conv=>lhs;simp only [Jh,reduceEqDiff,reduceAdd]
     ·exact EO rfl rfl (nw _ (by omega))
     apply Ji 12 rfl rfl rfl
     ·intros;conv=>lhs;simp only [Jh,reduceEqDiff,reduceAdd]
     ·exact EH rfl rfl (nw _ (by omega))
     apply Ji 13 rfl rfl rfl
     ·intros;conv=>lhs;simp only [Jh,reduceEqDiff,reduceAdd]
     ·exact Jc rfl
     apply JR 14 rfl
     ·intros;conv=>lhs;simp only [Jh,reduceEqDiff,reduceAdd]
     ·
      intro gh X K zq zc zq2 zc2 zb zv hK;refine Ju fn118 rfl rfl fun w hH=>(hrec hil (mm.set i e) (n - e * ds.getD i 0) (capL 401 acc A) qo1 co1 hmo hlb.2 (by omega) _ _ (hH.front .z)).mono ?_;rintro _ w ⟨qo66,co66,rfl,hH⟩;refine ⟨_,rfl,fun a hF=>JH hF hH ?_⟩;refine Jy ?_;exact hK qo66 co66 zq2 zc2 zb zv
     ·intro gh gh' h;refine ⟨?_,?_⟩ <;> rfl
     apply Ef 15 rfl rfl rfl
     ·intros;conv=>lhs;simp only [Jh,reduceEqDiff,reduceAdd]
     ·exact Jd rfl
     ·intro gh gh' h;first | simp only [h 13 rfl] | rfl
     apply JZ [0,1,2,3,4,5,6,7,8,9,10,11,12,13,14] [0,1,2,3,4,5,6,7,8,9,10,11,12,13,14,15] foll0 rfl rfl rfl (by rfl)
     iterate 2 focus (intros;(conv=>lhs;simp only [JU,Ej,Ka,El,Es,eq_self,reduceEqDiff,reduceIte,reduceSub,reduceAdd,JxA,JxB]);all_goals rfl)
     intro gh;generalize (gh 13).c=co66;generalize (gh 13).q=qo66;clear gh;refine JF (Ja (hK14 (Jb (Jg (Jc rfl) rfl (Jg (EH rfl rfl (by first | exact nw _ (by omega) | rfl)) rfl (Jg (Jd rfl) rfl (Jf (Ja (Jw .z (Jw (.s .z) ?_))))))))));exact hAg0 (e - 1,A++enG ds i m n e,mm.set i e,qo66,co66) ⟨hen.next h41p,hmo⟩ (by show (e - 1+1).toNat<(e+1).toNat;omega) 31 rfl rfl ⟨rfl,⟨(by rw [← capL_app,← enG_set hen.set];rfl),trivial⟩⟩ rfl (by dsimp only;rw [← capL_app,← enG_set hen.set])
    ·
     refine JG (Jj (Jj (JK (Ja (hK10 (Je fun _ hK16 _=>(Jb (Jg (Jc rfl) rfl (Jg (Jd rfl) rfl (Jf (Ja (hK16 (Jt (Jr rfl (Res.tmp rfl) fun w hH=>?_))))))))))))));replace hH:=hH.sublist (.cons _ (.cons_cons _ (List.Sublist.refl _)));rw [← hen.stop (by omega)];exact ⟨_,_,rfl,hH⟩
   ·
    try have h41p:=of_decide_eq_false h41
    refine JQ rfl rfl rfl h41 (JQ rfl rfl rfl h41 (JQ rfl rfl rfl h41 (Jg (JX rfl h41 rfl) rfl (Jf (Ja (hK13 (EE rfl (JG (Jj (Jj (JK (Ja (hK10 (Je fun _ hK17 _=>(Jb (Jg (Jc rfl) rfl ?_))))))))))))))));refine Jg (Jd rfl) rfl (Jf (Ja (hK17 (Jt (Jr rfl (Res.tmp rfl) fun w hH=>?_)))));replace hH:=hH.sublist (.cons _ (.cons_cons _ (List.Sublist.refl _)));rw [← hen.stop2 h41p];exact ⟨_,_,rfl,hH⟩
theorem l01Fill_n {B:World} {H0 H:HP} {qds:Option Addr} {cds:Nat} {ds:List Int} (hds:Ints H qds ds) (hd : ∀j,j<ds.length→1≤ds.getD j 0∧ds.getD j 0≤12) (h8:ds.length≤8) : ∀(k i:Nat) (m:Pw) (n:Int) (acc:List Pw) (qo:Option Addr) (co:Nat),ds.length - i≤k→i≤ds.length→Mono m→ -1000000≤n∧n≤1000000→acc.length≤400→∀(L:List SA) (w:World),Hp B H0 H (own 105 8 qo acc.length co (msC acc)::L) w→Calls Tryz.prog 118 [.slice qds ds.length cds,.agg (bytesC m).toArray,.int .i64 (i:Int),.int .i64 n,.slice qo acc.length co].toArray w fun r w'=>∃q c,r = .returned (.slice q (capL 401 acc (enS ds i m n)).length c)∧Hp B H0 H (own 105 8 q (capL 401 acc (enS ds i m n)).length c (msC (capL 401 acc (enS ds i m n)))::L) w'
 | 0,i,m,n,acc,qo,co,hk,hi,hm,hn,ha,L,w,hH=>l01FillX_c hds hm hd hi h8 hn ha (fun h=>by omega) hH
 | k+1,i,m,n,acc,qo,co,hk,hi,hm,hn,ha,L,w,hH=>l01FillX_c hds hm hd hi h8 hn ha (fun h m' n' acc' qo' co' h1 h2 h3 L w hH=>l01Fill_n hds hd h8 k (i+1) m' n' acc' qo' co' (by omega) (by omega) h1 h2 h3 L w hH) hH
def monT (ds:List Int) (n:Int):List Pw:=(monS ds n).take 401
theorem mon_capS (ds:List Int) (n:Int) (m:Pw) (hm:m=zP):capL 401 [] (enS ds 0 m n)=monT ds n:=by
 subst hm;rw [capL_zero]
 rfl
theorem monT_fit {ds:List Int} {n:Int}:(decide (((monT ds n).length:Int)>120)) = !fitB ds n:=by
 unfold monT fitB;rw [List.length_take,← decide_not];simp only [decide_eq_decide]
 omega
theorem monT_eq {ds:List Int} {n:Int} (h:fitB ds n=true):monT ds n=monS ds n:=List.take_of_length_le (by have:=of_decide_eq_true h;omega)
theorem Mono.zP:Mono zP:=⟨rfl,fun j=>by rw [show G.zP=List.replicate 8 0 from rfl,rep_get];omega⟩
theorem l01Monomials_c {B:World} {H0 H:HP} {L:List SA} {w:World} {qds:Option Addr} {cds:Nat} {ds:List Int} {n:Int} (hds:Ints H qds ds) (hd : ∀j,j<ds.length→1≤ds.getD j 0∧ds.getD j 0≤12) (h8:ds.length≤8) (hn : -1000000≤n∧n≤1000000) (hH:Hp B H0 H L w):Calls Tryz.prog 68 [.slice qds ds.length cds,.int .i64 n].toArray w fun e w'=>∃q c,e = .returned (.slice q (monT ds n).length c)∧Hp B H0 H (own 105 8 q (monT ds n).length c (msC (monT ds n))::L) w':=by
 refine Jx Tryz.func68 rfl 9 rfl rfl [(0,.slice qds ds.length cds),(1,.int .i64 n)] rfl hH ?_;clear hH;refine Je fun _ hK1 _=>(Jb (Jg (Jd rfl) rfl (Jf (Ja (hK1 (Je fun _ hK2 _=>(Jb (Jg (Jc rfl) rfl (Jg (EB bz105) rfl (Jg (Jc rfl) rfl (J.own0 105 8 (Ju fn118 rfl rfl fun w hH=>(l01Fill_n hds hd h8 ds.length 0 zP n [] none 0 (by omega) (by omega) Mono.zP hn (by simp) _ _ hH).mono ?_))))))))))));rintro _ w ⟨qo2,co2,rfl,hH⟩;refine ⟨_,rfl,fun a hF=>JH hF hH ?_⟩;refine Jg (Jd rfl) rfl (Jf (Ja (hK2 (Jt (Jr rfl (Res.tmp rfl) fun w hH=>?_)))));replace hH:=hH.sublist (.cons_cons _ (List.Sublist.refl _));rw [mon_capS _ _ _ rfl] at hH ⊢;exact ⟨qo2,co2,rfl,hH⟩
theorem fn68:Fn Tryz.prog 68:=⟨_,Tryz.func68,by kernel_rfl,rfl⟩
def wiB (ds:List Int) (a b:Int):Bool:=(List.range (b+1 - max a 0).toNat).all fun k:Nat=>fitB ds (max a 0+(k:Int))
theorem wiB_no {ds:List Int} {a b:Int} {k:Nat} (h:max a 0+(k:Int)≤b) (hf:fitB ds (max a 0+(k:Int))=false):wiB ds a b=false:=by
 cases hh:wiB ds a b with
 | false=>rfl
 | true=>
  have:=List.all_eq_true.1 hh k (List.mem_range.2 (by omega));rw [hf] at this
  cases this
theorem wiB_yes {ds:List Int} {a b:Int} (h : ∀k:Nat,max a 0+(k:Int)≤b→fitB ds (max a 0+(k:Int))=true):wiB ds a b=true:=
 List.all_eq_true.2 fun k hk=>h k (by have:=List.mem_range.1 hk;omega)
theorem vmax (lo:Int):Value.int .i64 (if 0>lo then 0 else lo) = .int .i64 (max lo 0+((0:Nat):Int)):=by
 congr 1
 omega
def lsZ (row other:List Int) (f:Int) (k:Nat):List Int:=(List.range row.length).map fun i=>if i<k then fld (row.getD i 0 - f * other.getD i 0) else 0
@[simp] theorem lsZ_len (row other:List Int) (f:Int) (k:Nat):(lsZ row other f k).length=row.length:=by simp [lsZ]
theorem lsZ_get {row other:List Int} {f:Int} {k i:Nat} (h:i<row.length):(lsZ row other f k).getD i 0=if i<k then fld (row.getD i 0 - f * other.getD i 0) else 0:=by simp [lsZ,List.getD_eq_getElem?_getD,h]
theorem lsZ_zero (row other:List Int) (f:Int):lsZ row other f 0=List.replicate row.length 0:=list_eq_of (by simp) fun j hj=>by rw [lsZ_get (by simpa using hj),if_neg (by omega),rep_get]
theorem lsZ_set {row other:List Int} {f:Int} {k:Nat} (hk:k<row.length):(lsZ row other f k).set k (fld (row.getD k 0 - f * other.getD k 0))=lsZ row other f (k+1):=list_eq_of (by simp) fun j hj=>by
 have hj':j<row.length:=by simpa using hj
 rw [getD_set8,lsZ_get hj',lsZ_get hj',lsZ_len]
 by_cases e:k=j
 ·subst e
  rw [if_pos ⟨rfl,hk⟩,if_pos (by omega)]
 ·rw [if_neg (fun h=>e h.1)]
  by_cases h:j<k
  ·rw [if_pos h,if_pos (by omega)]
  ·rw [if_neg h,if_neg (by omega)]
theorem lsZ_end {row other:List Int} {f:Int} {k:Nat} (hk:k=row.length):lsZ row other f k=lessS row other f:=by
 subst hk
 exact list_eq_of (by simp) fun j hj=>by
  have hj':j<row.length:=by simpa using hj
  rw [lsZ_get hj',if_pos hj',lessS_get hj']
theorem oneBy_z {W:Nat} {row r:List Int} (h:RowOk W row) (hr:RowOk W r) (h0:row.getD (ldR r) 0=0):oneBy row r=row:=list_eq_of (by simp [oneBy]) fun j hj=>by
 rw [oneBy_get h hr,h0,Int.zero_mul,Int.sub_zero,fld_id (h.val j)]
theorem l03Within_c {B:World} {H0 H:HP} {L:List SA} {w:World} {qad qaf:Option Addr} {cad caf:Nat} {ad:List Int} {af:List (List Term)} {lo:Int} {hi:Int} (had:Ints H qad ad) (haf:Forms H qaf af) (hd : ∀j,j<ad.length→1≤ad.getD j 0∧ad.getD j 0≤12) (h8:ad.length≤8) (hl : -100000≤lo∧lo≤100000) (hh : -100000≤hi∧hi≤100000) (hH:Hp B H0 H L w):Calls Tryz.prog 65 [.agg [.slice qad ad.length cad,.slice qaf af.length caf].toArray,.int .i64 lo,.int .i64 hi].toArray w fun e w'=>e = .returned (.bool (wiB ad lo hi))∧Hp B H0 H L w':=by
 refine Jx Tryz.func65 rfl 21 rfl rfl [(0,.agg [.slice qad ad.length cad,.slice qaf af.length caf].toArray),(1,.int .i64 lo),(2,.int .i64 hi)] rfl hH ?_;clear hH;refine Je fun _ hK1 _=>(Jb (JW rfl rfl rfl fun g3=>(Jg (Jd rfl) rfl (Jf (Ja (hK1 (Je fun _ hK2 _=>(Je fun _ hK3 _=>(Jb (Jg (Jc rfl) rfl (Jg (Ep (v':=.int .i64 (max lo 0+((0:Nat):Int))) (vmax _) (PR.max2 rfl rfl)) rfl (Jg (Jd rfl) rfl (Jf (Ja (hK3 (Jp ?_))))))))))))))));refine JD (σ:=Nat) (fun (k:Nat)=>[(7,.int .i64 (max lo 0+(k:Int)))]) (fun (k:Nat)=>H) (fun (k:Nat)=>obj g3 (.cells [.slice qad ad.length cad,.slice qaf af.length caf].toArray 36 (0,0))::L) (fun (k:Nat)=>(max lo 0+(k:Int)≤hi+1∨k=0)∧∀j,j<k→fitB ad (max lo 0+(j:Int))=true) (fun (k:Nat)=>(hi+1 - (max lo 0+(k:Int))).toNat) 0 ⟨.inr rfl,fun j hj=>by omega⟩ ⟨rfl,trivial⟩ rfl rfl ?_;rintro k ⟨hk,hI⟩ _ hAg0;refine Je fun _ hK4 _=>(Je fun _ hK5 _=>(Jb (Jg (Jc rfl) rfl (Jg (Jc rfl) rfl (Jg (PR.leq rfl rfl) rfl (Jf (Ja (hK5 (Jq rfl (fun h12=>?_) (fun h12=>?_))))))))))
 ·
  refine Jn (Ja (hK4 (Je fun _ hK6 _=>(Jp (Je fun _ hK7 _=>(Jb (Jg (Jl u36 rfl sz22 rfl) rfl (Jg (Js rfl At.z rfl pl22) rfl (Jg (Jc rfl) rfl (Ju fn68 rfl rfl fun w hH=>(l01Monomials_c had hd h8 (by omega) hH).mono ?_))))))))));rintro _ w ⟨qo18,co18,rfl,hH⟩;refine ⟨_,rfl,fun a hF=>JH hF hH ?_⟩;refine Jg (Jo u135 rfl rfl) rfl (Jg (EK rfl rfl) rfl (Jf (Ja (hK7 (Ei rfl (fun h20=>?_) (fun h20=>?_))))))
  ·
   refine Je fun _ hK8 _=>(Jb (Jg (Jd rfl) rfl (Jf (Ja (hK8 (Jt (JO (Jk (Jk (JO (Jk (Jr rfl (Res.tmp rfl) fun w hH=>?_))))))))))));replace hH:=hH.tail;replace hH:=hH.tail;exact ⟨by rw [wiB_no (k:=k) (by omega) (by rw [monT_fit] at h20;simpa using h20)],hH⟩
  ·
   refine Jn (JF (Ja (hK6 (Jb (Jg (Jc rfl) rfl (Jg (Jz rfl rfl (by first | exact nw _ (by omega) | rfl)) rfl (Jg (Jd rfl) rfl (Jf (Ja (JN .z ?_))))))))));exact hAg0 (k+1) ⟨.inl (by omega),upto hI (by rw [monT_fit] at h20;simpa using h20)⟩ (by show (hi+1 - (max lo 0+((k+1:Nat):Int))).toNat<(hi+1 - (max lo 0+(k:Int))).toNat;omega) 13 rfl rfl ⟨(vi (by omega)),trivial⟩ rfl rfl
 ·
  refine JG (Jj (Jj (JK (Ja (hK2 (Je fun _ hK9 _=>(Jb (Jg (Jd rfl) rfl (Jf (Ja (hK9 (Jt (Jr rfl (Res.tmp rfl) fun w hH=>?_)))))))))))));replace hH:=hH.tail;exact ⟨by rw [wiB_yes (fun j hj=>hI j (by omega))],hH⟩
theorem l03First_c {B:World} {H0 H:HP} {L:List SA} {w:World} {qxs:Option Addr} {cxs:Nat} {xs:List Int} (hxs:Ints H qxs xs) (hn:xs.length≤1000000) (hH:Hp B H0 H L w):Calls Tryz.prog 96 [.slice qxs xs.length cxs].toArray w fun e w'=>e = .returned (.int .i64 (idxOf xs nzI))∧Hp B H0 H L w':=by
 refine Jx Tryz.func96 rfl 16 rfl rfl [(0,.slice qxs xs.length cxs)] rfl hH ?_;clear hH;refine Je fun _ hK1 _=>(Jb (Jg (Jd rfl) rfl (Jf (Ja (hK1 (Je fun _ hK2 _=>(Je fun _ hK3 _=>(Jb (Jg (Jd rfl) rfl (Jf (Ja (hK3 (Jp (JD (σ:=Nat) (fun (k:Nat)=>[(3,.int .i64 (k:Int))]) (fun (k:Nat)=>H) (fun (k:Nat)=>L) (fun (k:Nat)=>k≤xs.length∧∀j,j<k→nzI (xs.getD j 0)=false) (fun (k:Nat)=>xs.length - k) 0 ⟨by omega,fun j hj=>by omega⟩ ⟨rfl,trivial⟩ rfl rfl ?_))))))))))))));rintro k ⟨hk,hI⟩ _ hAg0;refine Je fun _ hK4 _=>(Je fun _ hK5 _=>(Jb (Jg (Jc rfl) rfl (Jg (Jc rfl) rfl (Jg (Jo u22 rfl rfl) rfl (Jg (JJ rfl rfl) rfl (Jf (Ja (hK5 (Jq rfl (fun h7=>?_) (fun h7=>?_)))))))))))
 ·
  refine Jn (Ja (hK4 (Je fun _ hK6 _=>(Jp (Je fun _ hK7 _=>(Jb (Jg (Jc rfl) rfl (Jg (Jc rfl) rfl (Jg (JL u22 sz2 rfl rfl rfl (by omega) hxs.sm) rfl (Jg (JE rfl (hxs _ (by omega)) pl2) rfl (Jg (Eo rfl rfl) rfl (Jf (Ja (hK7 (Jq rfl (fun h14=>?_) (fun h14=>?_))))))))))))))))
  ·
   refine Je fun _ hK8 _=>(Jb (Jg (Jc rfl) rfl (Jg (Jd rfl) rfl (Jf (Ja (hK8 (Jt (JO (Jk (Jk (JO (Jk (Jr rfl (Res.tmp rfl) fun w hH=>?_)))))))))))));exact ⟨by rw [idxOf_hit (k:=k) (by omega) hI (decide_eq_true h14)],hH⟩
  ·
   refine Jn (JF (Ja (hK6 (Jb (Jg (Jc rfl) rfl (Jg (Jz rfl rfl (by first | exact nw _ (by omega) | rfl)) rfl (Jg (Jd rfl) rfl (Jf (Ja ?_)))))))));exact hAg0 (k+1) ⟨by omega,upto hI (decide_eq_false h14)⟩ (by show xs.length - (k+1)<xs.length - k;omega) 13 rfl rfl ⟨rfl,trivial⟩ rfl rfl
 ·
  refine JG (Jj (Jj (JK (Ja (hK2 (Je fun _ hK9 _=>(Jb (Jg (Jd rfl) rfl (Jf (Ja (hK9 (Jt (Jr rfl (Res.tmp rfl) fun w hH=>?_)))))))))))));exact ⟨by rw [idxOf_miss (fun j hj=>hI j (by omega))],hH⟩
theorem l03Less_c {B:World} {H0 H:HP} {L:List SA} {w:World} {qxs:Option Addr} {cxs:Nat} {xs:List Int} {qys:Option Addr} {cys:Nat} {ys:List Int} {k:Int} (hxs:Ints H qxs xs) (hys:Ints H qys ys) (hn:xs.length≤1000000) (hl:ys.length=xs.length) (hx : ∀j,0≤xs.getD j 0∧xs.getD j 0≤10006) (hy : ∀j,0≤ys.getD j 0∧ys.getD j 0≤10006) (hk:0≤k∧k≤10006) (hH:Hp B H0 H L w):Calls Tryz.prog 97 [.slice qxs xs.length cxs,.slice qys ys.length cys,.int .i64 k].toArray w fun e w'=>∃q c,e = .returned (.slice q (lessS xs ys k).length c)∧Hp B H0 H (own 2 1 q (lessS xs ys k).length c (intsC (lessS xs ys k))::L) w':=by
 refine Jx Tryz.func97 rfl 34 rfl rfl [(0,.slice qxs xs.length cxs),(1,.slice qys ys.length cys),(2,.int .i64 k)] rfl hH ?_;clear hH;refine Je fun _ hK1 _=>(Jb (Jg (Jd rfl) rfl (Jf (Ja (hK1 (Je fun _ hK2 _=>(Jb (Jg (Jc rfl) rfl (Jg (Jo u22 rfl rfl) rfl (EI (MK.makeI (m:=xs.length) u22 ze2 sz2 by2 rfl rfl rfl rfl (by omega)) rfl fun qo11 co11=>(Jg (Ep (v':=.slice qo11 xs.length co11) (by rw [List.length_replicate]) (Jd rfl)) rfl (Jf (Ja (hK2 (Je fun _ hK3 _=>(Je fun _ hK4 _=>?_))))))))))))))));refine Jb (Jg (Jd rfl) rfl (Jf (Ja (hK4 (Jp (JD (σ:=Nat) (fun (i:Nat)=>[(8,.int .i64 (i:Int))]) (fun (i:Nat)=>H) (fun (i:Nat)=>own 2 1 qo11 xs.length co11 (intsC (lsZ xs ys k i))::L) (fun (i:Nat)=>i≤xs.length) (fun (i:Nat)=>xs.length - i) 0 (by omega) ⟨rfl,trivial⟩ rfl (by rw [lsZ_zero,List.length_replicate]) ?_))))));rintro i hi _ hAg0;refine Je fun _ hK5 _=>(Je fun _ hK6 _=>(Jb (Jg (Jc rfl) rfl (Jg (Jc rfl) rfl (Jg (Jo u22 rfl rfl) rfl (Jg (JJ rfl rfl) rfl (Jf (Ja (hK6 (Jq rfl (fun h15=>?_) (fun h15=>?_)))))))))))
 ·
  have hik:i<xs.length:=by omega
  have hxi:=hx i;have hyi:=hy i;have hmb:=mul_bd (a:=k) (b:=ys.getD i 0) hk hyi;refine Jn (Ja (hK5 (Je fun _ hK7 _=>(Jp (Ea (Rs:=[_]) 16 [[], [], [], [], [2,3], [2,3,4], [], [], [], [7,8], [7,8,9], [6,7,8,9,10], [2,3,4,5,6,7,8,9,10,11], [2,3,4,5,6,7,8,9,10,11,12], [0,1,2,3,4,5,6,7,8,9,10,11,12,13], [0,1,2,3,4,5,6,7,8,9,10,11,12,13,14]] [[], [], [], [], [], [], [], [], [], [], [], [], [], [], [16], []] [[], [], [], [], [], [], [], [], [], [], [], [], [], [], [], [16]] rfl rfl (by kernel_rfl) ?_)))));apply Ji 1 rfl rfl rfl
  ·intros;conv=>lhs;simp only [Jh,reduceEqDiff,reduceAdd]
  ·exact Jc rfl
  apply Ji 2 rfl rfl rfl
  ·intros;conv=>lhs;simp only [Jh,reduceEqDiff,reduceAdd]
  ·exact Jc rfl
  apply Ji 3 rfl rfl rfl
  ·intros;conv=>lhs;simp only [Jh,reduceEqDiff,reduceAdd]
  ·exact Jc rfl
  apply Ji 4 rfl rfl rfl
  ·intros;conv=>lhs;simp only [Jh,reduceEqDiff,reduceAdd]
  ·exact Jc rfl
  apply Ji 5 rfl rfl rfl
  ·intros;conv=>lhs;simp only [Jh,reduceEqDiff,reduceAdd]
  ·exact JL u22 sz2 rfl rfl rfl (by omega) hxs.sm
  apply Ji 6 rfl rfl rfl
  ·intros;conv=>lhs;simp only [Jh,reduceEqDiff,reduceAdd]
  ·exact JE rfl (hxs _ (by omega)) pl2
  apply Ji 7 rfl rfl rfl
  ·intros;conv=>lhs;simp only [Jh,reduceEqDiff,reduceAdd]
  ·exact Jc rfl
  apply Ji 8 rfl rfl rfl
  ·intros;conv=>lhs;simp only [Jh,reduceEqDiff,reduceAdd]
  ·exact Jc rfl
  apply Ji 9 rfl rfl rfl
  ·intros;conv=>lhs;simp only [Jh,reduceEqDiff,reduceAdd]
  ·exact Jc rfl
  apply Ji 10 rfl rfl rfl
  ·intros;conv=>lhs;simp only [Jh,reduceEqDiff,reduceAdd]
  ·exact JL u22 sz2 rfl rfl rfl (by omega) hys.sm
  apply Ji 11 rfl rfl rfl
  ·intros;conv=>lhs;simp only [Jh,reduceEqDiff,reduceAdd]
  ·exact JE rfl (hys _ (by omega)) pl2
  apply Ji 12 rfl rfl rfl
  ·intros;conv=>lhs;simp only [Jh,reduceEqDiff,reduceAdd]
  ·exact EO rfl rfl (nw _ (by omega))
  apply Ji 13 rfl rfl rfl
  ·intros;conv=>lhs;simp only [Jh,reduceEqDiff,reduceAdd]
  ·exact EH rfl rfl (nw _ (by omega))
  apply Ez 14 rfl
  ·intros;conv=>lhs;simp only [Jh,reduceEqDiff,reduceAdd]
  ·
   intro gh X K zq zc zq2 zc2 zb zv hK;refine Ju fn98 rfl rfl fun w hH=>(l01Mod_c (by omega) hH).mono ?_;rintro _ w ⟨rfl,hH⟩;refine ⟨_,rfl,fun a hF=>JH hF hH ?_⟩;refine Jy ?_;exact hK zq zc zq2 zc2 zb zv
  ·intro gh gh' h;rfl
  apply Ji 15 rfl rfl rfl
  ·intros;conv=>lhs;simp only [Jh,reduceEqDiff,reduceAdd]
  ·exact Eu u22 sz2 rfl rfl rfl (by omega) At.z
  apply EZ 16 rfl
  ·intros;conv=>lhs;simp only [Jh,reduceEqDiff,reduceAdd]
  ·
   intro gh X K hK;refine ET rfl rfl sz2 (by omega) At.z (Jy ?_);exact hK
  ·intro gh gh' h;rfl
  apply JZ [0,1,2,3,4,5,6,7,8,9,10,11,12,13,14,15] [0,1,2,3,4,5,6,7,8,9,10,11,12,13,14,15] foll0 rfl rfl rfl (by rfl)
  iterate 2 focus (intros;(conv=>lhs;simp only [JU,Ej,Ka,El,Es,eq_self,reduceEqDiff,reduceIte,reduceSub,reduceAdd,JxA,JxB]);all_goals rfl)
  intro gh;clear gh;refine JF (Ja (hK7 (Jb (Jg (Jc rfl) rfl (Jg (Jz rfl rfl (by first | exact nw _ (by omega) | rfl)) rfl (Jg (Jd rfl) rfl (Jf (Ja ?_))))))));exact hAg0 (i+1) (by omega) (by show xs.length - (i+1)<xs.length - i;omega) 23 rfl rfl ⟨rfl,trivial⟩ rfl (by rw [lsZ_set (by omega)])
 ·
  refine JG (Jj (Jj (JK (Ja (hK3 (Je fun _ hK8 _=>(Jb (Jg (Jc rfl) rfl (Jg (Jd rfl) rfl (Jf (Ja (hK8 (Jt (Jr rfl (Res.tmp rfl) fun w hH=>?_))))))))))))));replace hH:=hH.sublist (.cons_cons _ (List.Sublist.refl _));rw [lsZ_end (by omega)] at hH;exact ⟨_,_,by rw [lessS_len],by rw [lessS_len];exact hH⟩
theorem fn96:Fn Tryz.prog 96:=⟨_,Tryz.func96,by kernel_rfl,rfl⟩
theorem fn97:Fn Tryz.prog 97:=⟨_,Tryz.func97,by kernel_rfl,rfl⟩
theorem l03By_c {B:World} {H0 H:HP} {L:List SA} {w:World} {qrow:Option Addr} {crow:Nat} {row:List Int} {qrs:Option Addr} {crs:Nat} {rs:List (List Int)} {W:Nat} (hrow:Ints H qrow row) (hrs:RowsR H qrs rs) (hw:RowOk W row) (hW : ∀r∈rs,RowOk W r∧ldR r<W) (hn:rs.length≤1000000) (hWn:W≤1000000) (hcr:row.length≤crow) (hH:Hp B H0 H L w):Calls Tryz.prog 70 [.slice qrow row.length crow,.slice qrs rs.length crs].toArray w fun e w'=>∃H' q c,Le H H' ∧Ints H' q (byS row rs)∧(byS row rs).length≤c∧e = .returned (.slice q (byS row rs).length c)∧Hp B H0 H' L w':=by
 refine Jx Tryz.func70 rfl 34 rfl rfl [(0,.slice qrow row.length crow),(1,.slice qrs rs.length crs)] rfl hH ?_;have hw0:=hH.old;have hw1:=hH.le;clear hH;refine Je fun _ hK1 _=>(Jb (Jg (Jd rfl) rfl (Jf (Ja (hK1 (Je fun _ hK2 _=>(Je fun _ hK3 _=>(Jb (Jg (Jd rfl) rfl (Jf (Ja (hK3 (Jp (JD (σ:=HP × Option Addr × Nat × Nat) (fun ⟨Hk,q,c,k⟩=>[(5,.int .i64 (k:Int)),(0,.slice q (byS row (rs.take k)).length c)]) (fun ⟨Hk,q,c,k⟩=>Hk) (fun ⟨Hk,q,c,k⟩=>L) (fun ⟨Hk,q,c,k⟩=>Le H Hk∧Ints Hk q (byS row (rs.take k))∧(byS row (rs.take k)).length≤c∧k≤rs.length) (fun ⟨Hk,q,c,k⟩=>rs.length - k) (H,qrow,crow,0) ⟨Le.refl _,hrow,hcr,by omega⟩ ⟨rfl,⟨rfl,trivial⟩⟩ rfl rfl ?_))))))))))))));rintro ⟨Hk,q,c,k⟩ ⟨hlk,hS,hSc,hk⟩ _ hAg0;replace hrow:=hrow.le hlk;replace hrs:=hrs.le hlk;refine Je fun _ hK4 _=>(Je fun _ hK5 _=>(Jb (Jg (Jc rfl) rfl (Jg (Jc rfl) rfl (Jg (Jo u31 rfl rfl) rfl (Jg (JJ rfl rfl) rfl (Jf (Ja (hK5 (Jq rfl (fun h10=>?_) (fun h10=>?_)))))))))))
 ·
  have hk1:k<rs.length:=by omega
  have hrk:=hW _ (rw_mem hk1);have hbk:=byS_ok (B:=rs.take k) hw (fun r hr=>(hW r (List.mem_of_mem_take hr)).1);have hbl:=hbk.len;have hrl:=hrk.1.len;have hld:=idxOf_ld (r:=rw_ rs k) (by omega);have hbv:=hbk.val (ldR (rw_ rs k));have hrle:=hrk.2;refine Jn (Ja (hK4 (Je fun _ hK6 _=>(Jp (Je fun _ hK7 _=>(Jb (Jg (Jc rfl) rfl (Jg (Jc rfl) rfl (Jg (JL u31 sz22 rfl rfl rfl hk1 hrs.sm) rfl ?_)))))))));obtain ⟨qe16,ce16,he16,le16,Fe16⟩:=hrs k hk1;refine Jg (JE rfl he16 pl22) rfl (Ju fn96 rfl rfl fun w hH=>(l03First_c Fe16 (by omega) hH).mono ?_);rintro _ w ⟨rfl,hH⟩;refine ⟨_,rfl,fun a hF=>JH hF hH ?_⟩;refine Jg (Ep (v':=.int .i64 ((ldR (rw_ rs k):Nat):Int)) (by rw [hld]) (Jd rfl)) rfl (Jf (Ja (hK7 (Je fun _ hK8 _=>(Jb (Jg (Jc rfl) rfl (Jg (Jc rfl) rfl (Jg (JL u22 sz2 rfl rfl rfl (by omega) hS.sm) rfl (Jg (JE rfl (hS _ (by omega)) pl2) rfl (Jg (Eo rfl rfl) rfl (Jf (Ja (hK8 (Jq rfl (fun h22=>?_) (fun h22=>?_)))))))))))))))
  ·
   refine Ea (Rs:=[]) 11 [[], [], [], [1,2], [1,2,3], [], [], [5,6], [5,6,7], [0,1,2,3,4,5,6,7,8], [0,1,2,3,4,5,6,7,8,9]] [[], [], [], [], [], [], [], [], [], [], []] [[], [], [], [], [], [], [], [], [], [], []] rfl rfl (by kernel_rfl) ?_;apply Ji 1 rfl rfl rfl
   ·intros;conv=>lhs;simp only [Jh,reduceEqDiff,reduceAdd]
   ·exact Jc rfl
   apply Ji 2 rfl rfl rfl
   ·intros;conv=>lhs;simp only [Jh,reduceEqDiff,reduceAdd]
   ·exact Jc rfl
   apply Ji 3 rfl rfl rfl
   ·intros;conv=>lhs;simp only [Jh,reduceEqDiff,reduceAdd]
   ·exact Jc rfl
   apply Ji 4 rfl rfl rfl
   ·intros;conv=>lhs;simp only [Jh,reduceEqDiff,reduceAdd]
   ·exact JL u31 sz22 rfl rfl rfl hk1 hrs.sm
   obtain ⟨qe27,ce27,he27,le27,Fe27⟩:=hrs k hk1;apply Ji 5 rfl rfl rfl
   ·intros;conv=>lhs;simp only [Jh,reduceEqDiff,reduceAdd]
   ·exact JE rfl he27 pl22
   apply Ji 6 rfl rfl rfl
   ·intros;conv=>lhs;simp only [Jh,reduceEqDiff,reduceAdd]
   ·exact Jc rfl
   apply Ji 7 rfl rfl rfl
   ·intros;conv=>lhs;simp only [Jh,reduceEqDiff,reduceAdd]
   ·exact Jc rfl
   apply Ji 8 rfl rfl rfl
   ·intros;conv=>lhs;simp only [Jh,reduceEqDiff,reduceAdd]
   ·exact JL u22 sz2 rfl rfl rfl (by omega) hS.sm
   apply Ji 9 rfl rfl rfl
   ·intros;conv=>lhs;simp only [Jh,reduceEqDiff,reduceAdd]
   ·exact JE rfl (hS _ (by omega)) pl2
   apply JR 10 rfl
   ·intros;conv=>lhs;simp only [Jh,reduceEqDiff,reduceAdd]
   ·
    intro gh X K zq zc zq2 zc2 zb zv hK;refine Ju fn97 rfl rfl fun w hH=>(l03Less_c hS Fe27 (by omega) (by rw [hbl,hrl]) hbk.val hrk.1.val hbv hH).mono ?_;rintro _ w ⟨qo32,co32,rfl,hH⟩;refine ⟨_,rfl,fun a hF=>JH hF hH ?_⟩;refine Jy ?_;exact hK qo32 co32 zq2 zc2 zb zv
   ·intro gh gh' h;refine ⟨?_,?_⟩ <;> rfl
   apply Ef 11 rfl rfl rfl
   ·intros;conv=>lhs;simp only [Jh,reduceEqDiff,reduceAdd]
   ·exact Jd rfl
   ·intro gh gh' h;first | simp only [h 9 rfl] | rfl
   apply JZ [0,1,2,3,4,5,6,7,8,9,10] [0,1,2,3,4,5,6,7,8,9,10] foll0 rfl rfl rfl (by rfl)
   iterate 2 focus (intros;(conv=>lhs;simp only [JU,Ej,Ka,El,Es,eq_self,reduceEqDiff,reduceIte,reduceSub,reduceAdd,JxA,JxB]);all_goals rfl)
   intro gh;generalize (gh 9).c=co32;generalize (gh 9).q=qo32;clear gh;refine EA .z fun Ho32 hleo32 hAo32=>?_;replace hrow:=hrow.le hleo32;replace hrs:=hrs.le hleo32;replace hS:=hS.le hleo32;replace Fe16:=Fe16.le hleo32;replace Fe27:=Fe27.le hleo32;have hxo32:=own_ints hAo32;have hco32:=own_le hAo32;refine JF (Ja (hK6 (Jb (Jg (Jc rfl) rfl (Jg (Jz rfl rfl (by first | exact nw _ (by omega) | rfl)) rfl (Jg (Jd rfl) rfl (Jf (Ja ?_))))))));exact hAg0 (Ho32,qo32,co32,k+1) ⟨(hlk.trans hleo32),by rw [byS_take hk1];exact hxo32,by rw [byS_take hk1];exact hco32,by omega⟩ (by show rs.length - (k+1)<rs.length - k;omega) 31 rfl rfl ⟨rfl,⟨(by rw [byS_take hk1];rfl),trivial⟩⟩ rfl rfl
  ·
   refine Jn (JF (Ja (hK6 (Jb (Jg (Jc rfl) rfl (Jg (Jz rfl rfl (by first | exact nw _ (by omega) | rfl)) rfl (Jg (Jd rfl) rfl (Jf (Ja ?_)))))))));exact hAg0 (Hk,q,c,k+1) ⟨hlk,by rw [byS_take hk1,oneBy_z hbk hrk.1 (by omega)];exact hS,by rw [byS_take hk1,oneBy_z hbk hrk.1 (by omega)];exact hSc,by omega⟩ (by show rs.length - (k+1)<rs.length - k;omega) 20 rfl rfl ⟨rfl,⟨(by rw [byS_take hk1,oneBy_z hbk hrk.1 (by omega)];rfl),trivial⟩⟩ rfl rfl
 ·
  refine JG (Jj (Jj (JK (Ja (hK2 (Je fun _ hK9 _=>(Jb (Jg (Jc rfl) rfl (Jg (Jd rfl) rfl (Jf (Ja (hK9 (Jt (Jr rfl (Res.tmp rfl) fun w hH=>?_))))))))))))))
  obtain rfl:k=rs.length:=by omega
  rw [List.take_length] at hS hSc ⊢;exact ⟨_,_,_,hlk,hS,hSc,rfl,hH⟩
theorem fn70:Fn Tryz.prog 70:=⟨_,Tryz.func70,by kernel_rfl,rfl⟩
theorem fn99:Fn Tryz.prog 99:=⟨_,Tryz.func99,by kernel_rfl,rfl⟩
def stI (u:List Int) (s:List (List Int) × Bool) (r:List Int):List (List Int) × Bool:=if s.2 then s else if ldR u<ldR r then (s.1++[u],true) else s
def stP (u:List Int) (s:List (List Int) × Bool) (r:List Int):List (List Int) × Bool:=((stI u s r).1++[oneBy r u],(stI u s r).2)
def goK (u:List Int) (rs:List (List Int)) (i:Nat):List (List Int) × Bool:=(rs.take i).foldl (stP u) ([],false)
theorem goK_succ {u:List Int} {rs:List (List Int)} {i:Nat} (hi:i<rs.length):goK u rs (i+1)=stP u (goK u rs i) (rw_ rs i):=by
 unfold goK;rw [rw_take hi,List.foldl_append]
 rfl
theorem stI_a {u:List Int} {s:List (List Int) × Bool} {r:List Int} (h:s.2=true):stI u s r=s:=by unfold stI;rw [if_pos h]
theorem stI_b {u:List Int} {s:List (List Int) × Bool} {r:List Int} (h:s.2=false) (hl:ldR u<ldR r):stI u s r=(s.1++[u],true):=by unfold stI;rw [h,if_neg (by decide),if_pos hl]
theorem stI_c {u:List Int} {s:List (List Int) × Bool} {r:List Int} (h:s.2=false) (hl : ¬ldR u<ldR r):stI u s r=s:=by unfold stI;rw [h,if_neg (by decide),if_neg hl]
theorem stP_true (u:List Int) : ∀(rs o:List (List Int)),rs.foldl (stP u) (o,true)=(o++rs.map (fun x=>oneBy x u),true)
 | [],o=>by simp
 | r::rs,o=>by
  rw [List.foldl_cons,show stP u (o,true) r=(o++[oneBy r u],true) from rfl,stP_true u rs,List.map_cons,List.append_assoc]
  rfl
theorem stP_ins (u:List Int) : ∀(rs o:List (List Int)),(if (rs.foldl (stP u) (o,false)).2 then (rs.foldl (stP u) (o,false)).1 else (rs.foldl (stP u) (o,false)).1++[u])=o++insS u rs
 | [],o=>rfl
 | r::rs,o=>by
  rw [List.foldl_cons]
  by_cases h:ldR u<ldR r
  ·have e:stP u (o,false) r=(o++[u]++[oneBy r u],true):=by unfold stP;rw [stI_b rfl h]
   rw [e,stP_true,if_pos rfl]
   simp only [insS]
   rw [if_pos h,List.map_cons]
   simp [oneBy]
  ·have e:stP u (o,false) r=(o++[oneBy r u],false):=by unfold stP;rw [stI_c rfl h]
   rw [e,stP_ins u rs]
   simp only [insS]
   rw [if_neg h]
   simp [oneBy]
theorem goK_end {u:List Int} {rs:List (List Int)} {i:Nat} (hi:i=rs.length):(if (goK u rs i).2 then (goK u rs i).1 else (goK u rs i).1++[u])=insS u rs:=by
 subst hi;unfold goK;rw [List.take_length,stP_ins u rs []]
 rfl
theorem goK_yes {u:List Int} {rs:List (List Int)} {i:Nat} (hi:i=rs.length) (h:(goK u rs i).2=true):(goK u rs i).1=insS u rs:=by rw [← goK_end hi,if_pos h]
theorem goK_no {u:List Int} {rs:List (List Int)} {i:Nat} (hi:i=rs.length) (h:(goK u rs i).2=false):(goK u rs i).1++[u]=insS u rs:=by rw [← goK_end hi,h];rfl
theorem stI_len {u:List Int} {s:List (List Int) × Bool} {r:List Int}:(stI u s r).1.length≤s.1.length+1:=by
 unfold stI
 split
 ·omega
 ·split
  ·simp
  ·omega
theorem goK_len (u:List Int) (rs:List (List Int)) : ∀i,(goK u rs i).1.length≤2 * i
 | 0=>by simp [goK]
 | i+1=>by
  by_cases hi:i<rs.length
  ·rw [goK_succ hi]
   have h1:=goK_len u rs i
   have h2:=stI_len (u:=u) (s:=goK u rs i) (r:=rw_ rs i)
   unfold stP
   rw [List.length_append]
   simp only [List.length_cons,List.length_nil]
   omega
  ·have e:goK u rs (i+1)=goK u rs i:=by
    unfold goK
    rw [List.take_of_length_le (by omega),List.take_of_length_le (by omega)]
   rw [e]
   have:=goK_len u rs i
   omega
theorem put_no {rs:List (List Int)} {row:List Int} (h:idxOf (byS row rs) nzI<0):putS rs row=rs:=by
 have h1:zR (byS row rs)=true:=by rw [← zR_eq];exact decide_eq_true h
 unfold putS;rw [if_neg (of_decide_eq_true h1)]
theorem put_lt {b:List Int} (h : ¬idxOf b nzI<0):ldR b<b.length:=by
 have h1:zR b=false:=by rw [← zR_eq];exact decide_eq_false h
 exact Decidable.not_not.1 (of_decide_eq_false h1)
theorem put_yes {rs:List (List Int)} {row:List Int} (h:ldR (byS row rs)<(byS row rs).length):putS rs row=insS (unitS (byS row rs)) rs:=by
 unfold putS;rw [if_pos h]
theorem l03Put_c {B:World} {H0 H:HP} {L:List SA} {w:World} {qrs:Option Addr} {crs:Nat} {rs:List (List Int)} {qrow:Option Addr} {crow:Nat} {row:List Int} {W:Nat} (hrs:RowsR H qrs rs) (hrow:Ints H qrow row) (hR:Red W rs) (hw:RowOk W row) (hWn:W≤100000) (hcr:row.length≤crow) (hcs:rs.length≤crs) (hH:Hp B H0 H L w):Calls Tryz.prog 49 [.slice qrs rs.length crs,.slice qrow row.length crow].toArray w fun e w'=>∃H' q c,Le H H' ∧RowsR H' q (putS rs row)∧(putS rs row).length≤c∧e = .returned (.slice q (putS rs row).length c)∧Hp B H0 H' L w':=by
 refine Jx Tryz.func49 rfl 74 rfl rfl [(0,.slice qrs rs.length crs),(1,.slice qrow row.length crow)] rfl hH ?_;have hw0:=hH.old;have hw1:=hH.le;have hRc:=hR.count;clear hH;refine Je fun _ hK1 _=>(Jb (Jg (Jd rfl) rfl (Jf (Ja (hK1 (Je fun _ hK2 _=>(Jb (Jg (Jc rfl) rfl (Jg (Jc rfl) rfl (Ju fn70 rfl rfl fun w hH=>(l03By_c (W:=W) hrow hrs hw hR.led (by omega) (by omega) hcr hH).mono ?_))))))))));rintro _ w ⟨Hf11,qf11,cf11,hlf11,hI11,hcc11,rfl,hH⟩;refine ⟨_,rfl,fun a hF=>JH hF hH ?_⟩;replace hrs:=hrs.le hlf11;replace hrow:=hrow.le hlf11;have hbk:=byS_ok hw hR.row;have hbl:=hbk.len;refine Jg (Jd rfl) rfl (Jf (Ja (hK2 (Je fun _ hK3 _=>(Jb (Jg (Jc rfl) rfl (Ju fn96 rfl rfl fun w hH=>(l03First_c hI11 (by omega) hH).mono ?_)))))));rintro _ w ⟨rfl,hH⟩;refine ⟨_,rfl,fun a hF=>JH hF hH ?_⟩;refine Jg (Jd rfl) rfl (Jf (Ja (hK3 (Je fun _ hK4 _=>(Je fun _ hK5 _=>(Jb (Jg (Jc rfl) rfl (Jg (JJ rfl rfl) rfl (Jf (Ja (hK5 (Jq rfl (fun h15=>?_) (fun h15=>?_)))))))))))))
 ·
  refine Je fun _ hK6 _=>(Jb (Jg (Jc rfl) rfl (Jg (Jd rfl) rfl (Jf (Ja (hK6 (Jt (Jk (Jr rfl (Res.tmp rfl) fun w hH=>?_)))))))));rw [put_no h15];exact ⟨_,_,_,hlf11,hrs,hcs,rfl,hH⟩
 ·
  have hlt:=put_lt h15;have hld:=idxOf_ld hlt;have hbv:=hbk.val (ldR (byS row rs));have huk:=hbk.unit;have hul:=unitS_ld hbk hlt;have huL:=huk.len;have hiv:=fld_bd (-(ivZ ((byS row rs).getD (ldR (byS row rs)) 0)));have hivb:=ivZ_bd hbv.1;refine Jn (Ja (hK4 (Je fun _ hK7 _=>(Ea (Rs:=[]) 13 [[], [0], [0,1], [], [], [], [4,5], [4,5,6], [4,5,6,7], [4,5,6,7,8], [4,5,6,7,8,9], [0,1,2,3,4,5,6,7,8,9,10], [0,1,2,3,4,5,6,7,8,9,10,11]] [[], [], [], [], [], [], [], [], [], [], [], [2], []] [[], [], [], [], [], [], [], [], [], [], [], [], []] rfl rfl (by kernel_rfl) ?_))));apply Ji 1 rfl rfl rfl
  ·intros;conv=>lhs;simp only [Jh,reduceEqDiff,reduceAdd]
  ·exact Jc rfl
  apply Ji 2 rfl rfl rfl
  ·intros;conv=>lhs;simp only [Jh,reduceEqDiff,reduceAdd]
  ·exact Jo u22 rfl rfl
  apply JR 3 rfl
  ·intros;conv=>lhs;simp only [Jh,reduceEqDiff,reduceAdd]
  ·
   intro gh X K zq zc zq2 zc2 zb zv hK;refine EI (MK.makeI (m:=(byS row rs).length) u22 ze2 sz2 by2 rfl rfl rfl rfl (by omega)) rfl fun qo19 co19=>(Jy ?_);exact hK qo19 co19 zq2 zc2 zb zv
  ·intro gh gh' h;refine ⟨?_,?_⟩ <;> rfl
  apply Ji 4 rfl rfl rfl
  ·intros;conv=>lhs;simp only [Jh,reduceEqDiff,reduceAdd]
  ·exact Jc rfl
  apply Ji 5 rfl rfl rfl
  ·intros;conv=>lhs;simp only [Jh,reduceEqDiff,reduceAdd]
  ·exact Jc rfl
  apply Ji 6 rfl rfl rfl
  ·intros;conv=>lhs;simp only [Jh,reduceEqDiff,reduceAdd]
  ·exact Ep (v':=.int .i64 ((ldR (byS row rs):Nat):Int)) (by rw [hld]) (Jc rfl)
  apply Ji 7 rfl rfl rfl
  ·intros;conv=>lhs;simp only [Jh,reduceEqDiff,reduceAdd]
  ·exact JL u22 sz2 rfl rfl rfl hlt hI11.sm
  apply Ji 8 rfl rfl rfl
  ·intros;conv=>lhs;simp only [Jh,reduceEqDiff,reduceAdd]
  ·exact JE rfl (hI11 _ hlt) pl2
  apply Ez 9 rfl
  ·intros;conv=>lhs;simp only [Jh,reduceEqDiff,reduceAdd]
  ·
   intro gh X K zq zc zq2 zc2 zb zv hK;refine Ju fn99 rfl rfl fun w hH=>(l01Inverse_c (by omega) hH).mono ?_;rintro _ w ⟨rfl,hH⟩;refine ⟨_,rfl,fun a hF=>JH hF hH ?_⟩;refine Jy ?_;exact hK zq zc zq2 zc2 zb zv
  ·intro gh gh' h;rfl
  apply Ji 10 rfl rfl rfl
  ·intros;conv=>lhs;simp only [Jh,reduceEqDiff,reduceAdd]
  ·exact PR.neg rfl ((nw _ (by omega)).trans (Int.zero_sub _))
  apply Ez 11 rfl
  ·intros;conv=>lhs;simp only [Jh,reduceEqDiff,reduceAdd]
  ·
   intro gh X K zq zc zq2 zc2 zb zv hK;refine Ju fn98 rfl rfl fun w hH=>(l01Mod_c (by omega) hH).mono ?_;rintro _ w ⟨rfl,hH⟩;refine ⟨_,rfl,fun a hF=>JH hF hH ?_⟩;refine Jy ?_;exact hK zq zc zq2 zc2 zb zv
  ·intro gh gh' h;rfl
  apply JR 12 rfl
  ·intros;conv=>lhs;simp only [Jh,reduceEqDiff,reduceAdd]
  ·
   intro gh X K zq zc zq2 zc2 zb zv hK;refine Ju fn97 rfl rfl fun w hH=>hH.lend .z fun Hl1 hle1 hA1 hB1 hH=>(l03Less_c (own_ints hA1) (hI11.le hle1) (by simp;omega) (by simp) (fun j=>by rw [rep_get];omega) hbk.val hiv hH).mono ?_;rintro _ w ⟨qo28,co28,rfl,hH⟩;replace hH:=hB1 _ _ hH;refine ⟨_,rfl,fun a hF=>JH hF hH ?_⟩;refine Jw .z (Jw (.s .z) (Jy ?_));exact hK qo28 co28 zq2 zc2 zb zv
  ·intro gh gh' h;refine ⟨?_,?_⟩ <;> (first | simp only [h 2 rfl] | rfl)
  apply Ef 13 rfl rfl rfl
  ·intros;conv=>lhs;simp only [Jh,reduceEqDiff,reduceAdd]
  ·exact Jd rfl
  ·intro gh gh' h;first | simp only [h 2 rfl,h 11 rfl] | rfl
  apply JZ [0,1,2,3,4,5,6,7,8,9,10,11,12] [0,1,2,3,4,5,6,7,8,9,10,11,12] foll0 rfl rfl rfl (by rfl)
  iterate 2 focus (intros;(conv=>lhs;simp only [JU,Ej,Ka,El,Es,eq_self,reduceEqDiff,reduceIte,reduceSub,reduceAdd,JxA,JxB]);all_goals rfl)
  intro gh;generalize (gh 2).c=co19;generalize (gh 2).q=qo19;generalize (gh 11).c=co28;generalize (gh 11).q=qo28;clear gh;refine EA (.s .z) fun Ho28 hleo28 hAo28=>?_;replace hrs:=hrs.le hleo28;replace hrow:=hrow.le hleo28;replace hI11:=hI11.le hleo28;have hxo28:=own_ints hAo28;have hco28:=own_le hAo28;have hxu:Ints Ho28 qo28 (unitS (byS row rs)):=hxo28;have hcu:(unitS (byS row rs)).length≤co28:=hco28;refine JN .z (Ja (hK7 (Je fun _ hK8 _=>(Jb (EI (EP u31 sz22) rfl fun qo29 co29=>(Jg (Jd rfl) rfl (Jg (Jd rfl) rfl (Jf (Ja (hK8 (Je fun _ hK9 _=>(Je fun _ hK10 _=>(Jb (Jg (Jd rfl) rfl (Jf (Ja (hK10 ?_)))))))))))))))));refine Jp (JD (σ:=HP × Option Addr × Nat × List Value × Nat) (fun ⟨Hk,q,c,vals,i⟩=>[(8,.int .i64 (i:Int)),(6,.slice q (goK (unitS (byS row rs)) rs i).1.length c),(7,.bool (goK (unitS (byS row rs)) rs i).2)]) (fun ⟨Hk,q,c,vals,i⟩=>Hk) (fun ⟨Hk,q,c,vals,i⟩=>own 22 1 q (goK (unitS (byS row rs)) rs i).1.length c vals::L) (fun ⟨Hk,q,c,vals,i⟩=>Le Ho28 Hk∧SlF Hk vals (goK (unitS (byS row rs)) rs i).1∧i≤rs.length) (fun ⟨Hk,q,c,vals,i⟩=>rs.length - i) (Ho28,qo29,co29, [],0) ⟨Le.refl _,SlF.nil _,by omega⟩ ⟨rfl,⟨rfl,⟨rfl,trivial⟩⟩⟩ rfl rfl ?_);rintro ⟨Hk,q,c,vals,i⟩ ⟨hlk,hS,hi⟩ _ hAg0;replace hrs:=hrs.le hlk;replace hrow:=hrow.le hlk;replace hI11:=hI11.le hlk;replace hxo28:=hxo28.le hlk;replace hxu:=hxu.le hlk;refine Je fun _ hK11 _=>(Je fun _ hK12 _=>(Jb (Jg (Jc rfl) rfl (Jg (Jc rfl) rfl (Jg (Jo u31 rfl rfl) rfl (Jg (JJ rfl rfl) rfl (Jf (Ja (hK12 (Jq rfl (fun h33=>?_) (fun h33=>?_)))))))))))
  ·
   have hik:i<rs.length:=by omega
   have hgl:=goK_len (unitS (byS row rs)) rs i;have hrk:=hR.led _ (rw_mem hik);have hrl:=hrk.1.len;have hldi:=idxOf_ld (r:=rw_ rs i) (by omega);have hvv:=hrk.1.val (ldR (byS row rs));refine Jn (Ja (hK11 (Je fun _ hK13 _=>(Jp (CJ.cutU (σ:=Option Addr × Nat × List Value) (fun ⟨q1,c1,vals1⟩=>[(6,.slice q1 (stI (unitS (byS row rs)) (goK (unitS (byS row rs)) rs i) (rw_ rs i)).1.length c1),(7,.bool (stI (unitS (byS row rs)) (goK (unitS (byS row rs)) rs i) (rw_ rs i)).2)]) (fun ⟨q1,c1,vals1⟩=>Hk) (fun ⟨q1,c1,vals1⟩=>own 22 1 q1 (stI (unitS (byS row rs)) (goK (unitS (byS row rs)) rs i) (rw_ rs i)).1.length c1 vals1::L) (fun ⟨q1,c1,vals1⟩=>SlF Hk vals1 (stI (unitS (byS row rs)) (goK (unitS (byS row rs)) rs i) (rw_ rs i)).1) ?_ ?_)))))
   ·
    intro _ hMt1;refine Je fun _ hK14 _=>(Jb (Jg (Jc rfl) rfl (Jg (Em rfl) rfl (Jg (Jc rfl) rfl (Ek (jd:=38) rfl (fun hg38=>?_) (fun hg38=>?_))))))
    ·
     try have hg38p:=of_decide_eq_true hg38
     refine JV (Jc rfl) rfl rfl rfl hg38 (JV (Jc rfl) rfl rfl rfl hg38 (JV (JL u31 sz22 rfl rfl rfl hik hrs.sm) rfl rfl rfl hg38 ?_));obtain ⟨qe42,ce42,he42,le42,Fe42⟩:=hrs i hik;refine JV (JE rfl he42 pl22) rfl rfl rfl hg38 (EW fn96 rfl rfl hg38 rfl rfl fun w hH=>(l03First_c Fe42 (by omega) hH).mono ?_);rintro _ w ⟨rfl,hH⟩;refine ⟨_,rfl,fun a hF=>JH hF hH ?_⟩;refine JV (Jc rfl) rfl rfl rfl hg38 (JV (EK rfl rfl) rfl rfl rfl hg38 (Jg (JY rfl hg38 rfl) rfl (Jf (Ja (hK14 (Jq rfl (fun h46=>?_) (fun h46=>?_)))))))
     ·
      refine Je fun _ hK15 _=>(Jb (Jg (Jc rfl) rfl (Jg (Jc rfl) rfl (EI (EN u31 ze22 sz22 rfl rfl) rfl fun qo49 co49=>(EG u31 ze22 sz22 by22 rfl rfl rfl rfl (by omega) .z At.z (fun _ _=>At.z) rfl fun qo50 co50=>?_)))));have hS2:=hS.snoc hxu rfl hcu;refine Jg (Jd rfl) rfl (Jf (Ja (hK15 (Jb (Jg (Jd rfl) rfl (Jf (Ja (JN .z ?_))))))));exact hMt1 (qo50,co50,_) (by rw [stI_b (not_f hg38) (by omega)];exact hS2) 17 rfl rfl ⟨(by rw [stI_b (not_f hg38) (by omega),List.length_append];rfl),⟨(by rw [stI_b (not_f hg38) (by omega)];rfl),trivial⟩⟩ rfl (by dsimp only;rw [stI_b (not_f hg38) (by omega),List.length_append];rfl)
     ·
      refine Jn (Ja ?_);exact hMt1 (q,c,vals) (by rw [stI_c (not_f hg38) (by omega)];exact hS) 11 rfl rfl ⟨(by rw [stI_c (not_f hg38) (by omega)];rfl),⟨(by rw [stI_c (not_f hg38) (by omega)];rfl),trivial⟩⟩ rfl (by rw [stI_c (not_f hg38) (by omega)])
    ·
     try have hg38p:=of_decide_eq_false hg38
     refine JQ rfl rfl rfl hg38 (JQ rfl rfl rfl hg38 (JQ rfl rfl rfl hg38 (JQ rfl rfl rfl hg38 (JQ rfl rfl rfl hg38 (JQ rfl rfl rfl hg38 (JQ rfl rfl rfl hg38 (Jg (JX rfl hg38 rfl) rfl (Jf (Ja (hK14 (EE rfl (Jn (Ja ?_)))))))))))));exact hMt1 (q,c,vals) (by rw [stI_a (not_t hg38)];exact hS) 11 rfl rfl ⟨(by rw [stI_a (not_t hg38)];rfl),⟨(by rw [stI_a (not_t hg38)];rfl),trivial⟩⟩ rfl (by rw [stI_a (not_t hg38)])
   ·
    rintro ⟨q1,c1,vals1⟩ hT;have hsl:=stI_len (u:=(unitS (byS row rs))) (s:=(goK (unitS (byS row rs)) rs i)) (r:=rw_ rs i);refine Ea (Rs:=[_]) 17 [[], [], [], [1,2], [1,2,3], [], [], [], [6,7], [6,7,8], [], [6,7,8,9,10], [6,7,8,9,10,11], [1,2,3,4,5,6,7,8,9,10,11,12], [1,2,3,4,5,6,7,8,9,10,11,12,13], [0,1,2,3,4,5,6,7,8,9,10,11,12,13,14], [0,1,2,3,4,5,6,7,8,9,10,11,12,13,14,15]] [[], [], [], [], [], [], [], [], [], [], [], [], [], [], [], [14], []] [[], [], [], [], [], [], [], [], [], [], [], [], [], [], [], [17], []] rfl rfl (by kernel_rfl) ?_;apply Ji 1 rfl rfl rfl
    ·intros;conv=>lhs;simp only [Jh,reduceEqDiff,reduceAdd]
    ·exact Jc rfl
    apply Ji 2 rfl rfl rfl
    ·intros;conv=>lhs;simp only [Jh,reduceEqDiff,reduceAdd]
    ·exact Jc rfl
    apply Ji 3 rfl rfl rfl
    ·intros;conv=>lhs;simp only [Jh,reduceEqDiff,reduceAdd]
    ·exact Jc rfl
    apply Ji 4 rfl rfl rfl
    ·intros;conv=>lhs;simp only [Jh,reduceEqDiff,reduceAdd]
    ·exact JL u31 sz22 rfl rfl rfl hik hrs.sm
    obtain ⟨qe55,ce55,he55,le55,Fe55⟩:=hrs i hik;apply Ji 5 rfl rfl rfl
    ·intros;conv=>lhs;simp only [Jh,reduceEqDiff,reduceAdd]
    ·exact JE rfl he55 pl22
    apply Ji 6 rfl rfl rfl
    ·intros;conv=>lhs;simp only [Jh,reduceEqDiff,reduceAdd]
    ·exact Jc rfl
    apply Ji 7 rfl rfl rfl
    ·intros;conv=>lhs;simp only [Jh,reduceEqDiff,reduceAdd]
    ·exact Jc rfl
    apply Ji 8 rfl rfl rfl
    ·intros;conv=>lhs;simp only [Jh,reduceEqDiff,reduceAdd]
    ·exact Jc rfl
    apply Ji 9 rfl rfl rfl
    ·intros;conv=>lhs;simp only [Jh,reduceEqDiff,reduceAdd]
    ·exact JL u31 sz22 rfl rfl rfl hik hrs.sm
    obtain ⟨qe60,ce60,he60,le60,Fe60⟩:=hrs i hik;apply Ji 10 rfl rfl rfl
    ·intros;conv=>lhs;simp only [Jh,reduceEqDiff,reduceAdd]
    ·exact JE rfl he60 pl22
    apply Ji 11 rfl rfl rfl
    ·intros;conv=>lhs;simp only [Jh,reduceEqDiff,reduceAdd]
    ·exact Ep (v':=.int .i64 ((ldR (byS row rs):Nat):Int)) (by rw [hld]) (Jc rfl)
    apply Ji 12 rfl rfl rfl
    ·intros;conv=>lhs;simp only [Jh,reduceEqDiff,reduceAdd]
    ·exact JL u22 sz2 rfl rfl rfl (by omega) Fe60.sm
    apply Ji 13 rfl rfl rfl
    ·intros;conv=>lhs;simp only [Jh,reduceEqDiff,reduceAdd]
    ·exact JE rfl (Fe60 _ (by omega)) pl2
    apply JR 14 rfl
    ·intros;conv=>lhs;simp only [Jh,reduceEqDiff,reduceAdd]
    ·
     intro gh X K zq zc zq2 zc2 zb zv hK;refine Ju fn97 rfl rfl fun w hH=>(l03Less_c Fe55 hxu (by omega) (by omega) hrk.1.val huk.val hvv hH).mono ?_;rintro _ w ⟨qo64,co64,rfl,hH⟩;refine ⟨_,rfl,fun a hF=>JH hF hH ?_⟩;refine Jy ?_;exact hK qo64 co64 zq2 zc2 zb zv
    ·intro gh gh' h;refine ⟨?_,?_⟩ <;> rfl
    apply JR 15 rfl
    ·intros;conv=>lhs;simp only [Jh,reduceEqDiff,reduceAdd]
    ·
     intro gh X K zq zc zq2 zc2 zb zv hK;refine EI (EN u31 ze22 sz22 rfl rfl) rfl fun qo65 co65=>(Jy ?_);exact hK qo65 co65 zq2 zc2 zb zv
    ·intro gh gh' h;refine ⟨?_,?_⟩ <;> (first | simp only [h 13 rfl] | rfl)
    apply JR 16 rfl
    ·intros;conv=>lhs;simp only [Jh,reduceEqDiff,reduceAdd]
    ·
     intro gh X K zq zc zq2 zc2 zb zv hK;refine EG u31 ze22 sz22 by22 rfl rfl rfl rfl (by omega) (.s .z) At.z (fun _ _=>At.z) rfl fun qo66 co66=>(Jw .z (Jw (.s .z) (Jy ?_)));exact hK qo66 co66 zq2 zc2 zb zv
    ·intro gh gh' h;refine ⟨?_,?_⟩ <;> (first | simp only [h 13 rfl,h 14 rfl] | rfl)
    apply Ef 17 rfl rfl rfl
    ·intros;conv=>lhs;simp only [Jh,reduceEqDiff,reduceAdd]
    ·exact Jd rfl
    ·intro gh gh' h;first | simp only [h 13 rfl,h 14 rfl,h 15 rfl] | rfl
    apply JZ [0,1,2,3,4,5,6,7,8,9,10,11,12,13,14,15,16] [0,1,2,3,4,5,6,7,8,9,10,11,12,13,14,15,16] foll0 rfl rfl rfl (by rfl)
    iterate 2 focus (intros;(conv=>lhs;simp only [JU,Ej,Ka,El,Es,eq_self,reduceEqDiff,reduceIte,reduceSub,reduceAdd,JxA,JxB]);all_goals rfl)
    intro gh;generalize (gh 13).c=co64;generalize (gh 13).q=qo64;generalize (gh 14).c=co65;generalize (gh 14).q=qo65;generalize (gh 15).c=co66;generalize (gh 15).q=qo66;clear gh;refine EA .z fun Ho64 hleo64 hAo64=>?_;replace hrs:=hrs.le hleo64;replace hrow:=hrow.le hleo64;replace hI11:=hI11.le hleo64;replace hxo28:=hxo28.le hleo64;replace hxu:=hxu.le hleo64;replace hS:=hS.le hleo64;replace hT:=hT.le hleo64;replace Fe55:=Fe55.le hleo64;replace Fe60:=Fe60.le hleo64;have hxo64:=own_ints hAo64;have hco64:=own_le hAo64
    have hxv:Ints Ho64 qo64 (oneBy (rw_ rs i) (unitS (byS row rs))):=by
     unfold oneBy;rw [hul];exact hxo64
    have hT3:=hT.snoc hxv (by unfold oneBy;rw [lessS_len,lessS_len]) hco64;refine JF (Ja (hK13 (Jb (Jg (Jc rfl) rfl (Jg (Jz rfl rfl (by first | exact nw _ (by omega) | rfl)) rfl (Jg (Jd rfl) rfl (Jf (Ja (JN .z ?_)))))))));exact hAg0 (Ho64,qo66,co66,_,i+1) ⟨(hlk.trans hleo64),by rw [goK_succ hik];exact hT3,by omega⟩ (by show rs.length - (i+1)<rs.length - i;omega) 29 rfl rfl ⟨rfl,⟨(by rw [goK_succ hik];unfold stP;rw [List.length_append];rfl),⟨(by rw [goK_succ hik];rfl),trivial⟩⟩⟩ rfl (by dsimp only;rw [goK_succ hik];unfold stP;rw [List.length_append];rfl)
  ·
   refine JG (Jj (Jj (JK (Ja (hK9 (Je fun _ hK16 _=>(Je fun _ hK17 _=>(Jb (Jg (Jc rfl) rfl (Jg (Em rfl) rfl (Jf (Ja (hK17 (Ei rfl (fun h68=>?_) (fun h68=>?_)))))))))))))))
   ·
    have hgl:=goK_len (unitS (byS row rs)) rs i;refine Jb (Jg (Jc rfl) rfl (Jg (Jc rfl) rfl (EI (EN u31 ze22 sz22 rfl rfl) rfl fun qo71 co71=>(EG u31 ze22 sz22 by22 rfl rfl rfl rfl (by omega) .z At.z (fun _ _=>At.z) rfl fun qo72 co72=>?_))));have hS3:=hS.snoc hxu rfl hcu;refine Jg (Jd rfl) rfl (Jf (Ja (hK16 (Je fun _ hK18 _=>(Jb (Jg (Jc rfl) rfl (Ev (.s .z) fun Ho29 hleo29 hAo29=>?_)))))));replace hrs:=hrs.le hleo29;replace hrow:=hrow.le hleo29;replace hI11:=hI11.le hleo29;replace hxo28:=hxo28.le hleo29;replace hxu:=hxu.le hleo29;replace hS:=hS.le hleo29;replace hS3:=hS3.le hleo29;have hxo29:=hS3.rows (Le.refl _) hAo29;have hco29:=own_le hAo29;refine Jg (Jd rfl) rfl (Jf (Ja (hK18 (Jt (Jr rfl (Res.tmp rfl) fun w hH=>?_)))));replace hH:=hH.tail;rw [put_yes hlt,← goK_no (i:=i) (by omega) (not_f h68)];exact ⟨_,_,_,(((hlf11.trans hleo28).trans hlk).trans hleo29),hxo29,by rw [List.length_append];exact hco29,by rw [List.length_append];rfl,hH⟩
   ·
    refine Jn (Ja (hK16 (Je fun _ hK19 _=>(Jb (Jg (Jc rfl) rfl (Ev .z fun Ho29 hleo29 hAo29=>?_))))));replace hrs:=hrs.le hleo29;replace hrow:=hrow.le hleo29;replace hI11:=hI11.le hleo29;replace hxo28:=hxo28.le hleo29;replace hxu:=hxu.le hleo29;replace hS:=hS.le hleo29;have hxo29:=hS.rows (Le.refl _) hAo29;have hco29:=own_le hAo29;refine Jg (Jd rfl) rfl (Jf (Ja (hK19 (Jt (Jr rfl (Res.tmp rfl) fun w hH=>?_)))));rw [put_yes hlt,← goK_yes (i:=i) (by omega) (not_t h68)];exact ⟨_,_,_,(((hlf11.trans hleo28).trans hlk).trans hleo29),hxo29,hco29,rfl,hH⟩
theorem fn119:Fn Tryz.prog 119:=⟨_,Tryz.func119,by kernel_rfl,rfl⟩
theorem fn49:Fn Tryz.prog 49:=⟨_,Tryz.func49,by kernel_rfl,rfl⟩
theorem redS_take {rs:List (List Int)} {k:Nat} (hk:k<rs.length):redS (rs.take (k+1))=putS (redS (rs.take k)) (rw_ rs k):=by
 unfold redS;rw [rw_take hk,List.foldl_append]
 rfl
theorem take_ok {W:Nat} {rs:List (List Int)} (h : ∀r∈rs,RowOk W r) (k:Nat) : ∀r∈rs.take k,RowOk W r:=fun r hr=>h r (List.mem_of_mem_take hr)
theorem uni_eq {row:List Int} {W n k:Nat} (hr:row.length=W):((([]++row)++List.replicate n 0):List Int).set (W+k) 1=row++uniR n k:=by
 unfold uniR;subst hr;rw [JxB,List.set_append,if_neg (by omega),Nat.add_sub_cancel_left]
theorem fzK_ylen {R:List (List Int)} {W m:Nat} (hm:m<R.length) (h:zR ((rw_ R m).take W)=true):(fzK R W (m+1)).length=(fzK R W m).length+1:=by
 rw [fzK_yes hm h,List.length_append]
 rfl
theorem zR_take {W:Nat} {r:List Int} (hl:ldR r<r.length) (hW:W≤r.length):zR (r.take W)=decide (W≤ldR r):=by
 unfold zR;refine decide_eq_decide.2 ⟨fun h=>?_,fun h hh=>?_⟩
 ·refine Classical.byContradiction fun hc=>h ?_
  have hlt:ldR r<W:=by omega
  have e:(r.take W).getD (ldR r) 0=r.getD (ldR r) 0:=by rw [List.getD_eq_getElem?_getD,List.getD_eq_getElem?_getD,List.getElem?_take,if_pos hlt]
  have:ldR (r.take W)=ldR r:=ldR_of (fun j hj=>by rw [List.getD_eq_getElem?_getD,List.getElem?_take,if_pos (by omega),← List.getD_eq_getElem?_getD];exact ldR_lt hj) (by rw [e];exact ldR_ne hl);rw [this,List.length_take]
  omega
 ·have h1:=ldR_ne hh;have h2:=hh;rw [List.length_take] at h2;rw [List.getD_eq_getElem?_getD,List.getElem?_take,if_pos (by omega),← List.getD_eq_getElem?_getD,ldR_lt (by omega)] at h1;exact h1 rfl
theorem l03Reduce_c {B:World} {H0 H:HP} {L:List SA} {w:World} {qrs:Option Addr} {crs:Nat} {rs:List (List Int)} {W:Nat} (hrs:RowsR H qrs rs) (hW : ∀r∈rs,RowOk W r) (hn:rs.length≤1000000) (hWn:W≤100000) (hH:Hp B H0 H L w):Calls Tryz.prog 119 [.slice qrs rs.length crs].toArray w fun e w'=>∃H' q c,Le H H' ∧RowsR H' q (redS rs)∧(redS rs).length≤c∧e = .returned (.slice q (redS rs).length c)∧Hp B H0 H' L w':=by
 refine Jx Tryz.func119 rfl 19 rfl rfl [(0,.slice qrs rs.length crs)] rfl hH ?_;have hw0:=hH.old;have hw1:=hH.le;clear hH;refine Je fun _ hK1 _=>(Jb (Jg (Jd rfl) rfl (Jf (Ja (hK1 (Je fun _ hK2 _=>(Jb (EI (EP u31 sz22) rfl fun qo5 co5=>(Jg (Jd rfl) rfl ?_)))))))));have hnil:=SlF.nil H;refine Ev .z fun Ho5 hleo5 hAo5=>?_;replace hrs:=hrs.le hleo5;replace hnil:=hnil.le hleo5;have hxo5:=hnil.rows (Le.refl _) hAo5;have hco5:=own_le hAo5;refine Jf (Ja (hK2 (Je fun _ hK3 _=>(Je fun _ hK4 _=>(Jb (Jg (Jd rfl) rfl (Jf (Ja (hK4 (Jp (JD (σ:=HP × Option Addr × Nat × Nat) (fun ⟨Hk,q,c,k⟩=>[(4,.int .i64 (k:Int)),(3,.slice q (redS (rs.take k)).length c)]) (fun ⟨Hk,q,c,k⟩=>Hk) (fun ⟨Hk,q,c,k⟩=>L) (fun ⟨Hk,q,c,k⟩=>Le Ho5 Hk∧RowsR Hk q (redS (rs.take k))∧(redS (rs.take k)).length≤c∧k≤rs.length) (fun ⟨Hk,q,c,k⟩=>rs.length - k) (Ho5,qo5,co5,0) ⟨Le.refl _,hxo5,hco5,by omega⟩ ⟨rfl,⟨rfl,trivial⟩⟩ rfl rfl ?_)))))))))));rintro ⟨Hk,q,c,k⟩ ⟨hlk,hS,hSc,hk⟩ _ hAg0;replace hrs:=hrs.le hlk;replace hnil:=hnil.le hlk;replace hxo5:=hxo5.le hlk;have hRk:=(redS_ok (take_ok hW k)).1;refine Je fun _ hK5 _=>(Je fun _ hK6 _=>(Jb (Jg (Jc rfl) rfl (Jg (Jc rfl) rfl (Jg (Jo u31 rfl rfl) rfl (Jg (JJ rfl rfl) rfl (Jf (Ja (hK6 (Jq rfl (fun h9=>?_) (fun h9=>?_)))))))))))
 ·
  have hk1:k<rs.length:=by omega
  have hrk:=hW _ (rw_mem hk1);refine Jn (Ja (hK5 (Je fun _ hK7 _=>(Jp (Jb (Jg (Jc rfl) rfl (Jg (Jc rfl) rfl (Jg (Jc rfl) rfl (Jg (JL u31 sz22 rfl rfl rfl hk1 hrs.sm) rfl ?_)))))))));obtain ⟨qe16,ce16,he16,le16,Fe16⟩:=hrs k hk1;refine Jg (JE rfl he16 pl22) rfl (Ju fn49 rfl rfl fun w hH=>(l03Put_c hS Fe16 hRk hrk (by omega) le16 hSc hH).mono ?_);rintro _ w ⟨Hf17,qf17,cf17,hlf17,hI17,hcc17,rfl,hH⟩;refine ⟨_,rfl,fun a hF=>JH hF hH ?_⟩;replace hrs:=hrs.le hlf17;replace hnil:=hnil.le hlf17;replace hxo5:=hxo5.le hlf17;replace hS:=hS.le hlf17;replace Fe16:=Fe16.le hlf17;refine Jg (Jd rfl) rfl (Jf (JF (Ja (hK7 (Jb (Jg (Jc rfl) rfl (Jg (Jz rfl rfl (by first | exact nw _ (by omega) | rfl)) rfl (Jg (Jd rfl) rfl (Jf (Ja ?_))))))))));exact hAg0 (Hf17,qf17,cf17,k+1) ⟨(hlk.trans hlf17),by rw [redS_take hk1];exact hI17,by rw [redS_take hk1];exact hcc17,by omega⟩ (by show rs.length - (k+1)<rs.length - k;omega) 16 rfl rfl ⟨rfl,⟨(by rw [redS_take hk1];rfl),trivial⟩⟩ rfl rfl
 ·
  refine JG (Jj (Jj (JK (Ja (hK3 (Je fun _ hK8 _=>(Jb (Jg (Jc rfl) rfl (Jg (Jd rfl) rfl (Jf (Ja (hK8 (Jt (Jr rfl (Res.tmp rfl) fun w hH=>?_))))))))))))))
  obtain rfl:k=rs.length:=by omega
  rw [List.take_length] at hS hSc ⊢;exact ⟨_,_,_,(hleo5.trans hlk),hS,hSc,rfl,hH⟩
theorem l03Kernel_c {B:World} {H0 H:HP} {L:List SA} {w:World} {qrs:Option Addr} {crs:Nat} {rs:List (List Int)} {W:Nat} (hrs:RowsR H qrs rs) (hW : ∀r∈rs,RowOk W r) (hn:rs.length+W≤100000) (hH:Hp B H0 H L w):Calls Tryz.prog 142 [.slice qrs rs.length crs,.int .i64 (W:Int)].toArray w fun e w'=>∃H' q c,Le H H' ∧RowsR H' q (kerS rs W)∧(kerS rs W).length≤c∧e = .returned (.slice q (kerS rs W).length c)∧Hp B H0 H' L w':=by
 refine Jx Tryz.func142 rfl 65 rfl rfl [(0,.slice qrs rs.length crs),(1,.int .i64 (W:Int))] rfl hH ?_;have hw0:=hH.old;have hw1:=hH.le;clear hH;refine Je fun _ hK1 _=>(Jb (Jg (Jd rfl) rfl (Jf (Ja (hK1 (Je fun _ hK2 _=>(Jb (Jg (Jc rfl) rfl (Jg (Jo u31 rfl rfl) rfl (Jg (Jd rfl) rfl (Jf (Ja (hK2 (Je fun _ hK3 _=>(Jb (EI (EP u31 sz22) rfl fun qo13 co13=>?_))))))))))))))));refine Jg (Jd rfl) rfl (Jf (Ja (hK3 (Je fun _ hK4 _=>(Je fun _ hK5 _=>(Jb (Jg (Jd rfl) rfl (Jf (Ja (hK5 (Jp (JD (σ:=HP × Option Addr × Nat × List Value × Nat) (fun ⟨Hk,q,c,vals,k⟩=>[(7,.int .i64 (k:Int)),(6,.slice q k c)]) (fun ⟨Hk,q,c,vals,k⟩=>Hk) (fun ⟨Hk,q,c,vals,k⟩=>own 22 1 q k c vals::L) (fun ⟨Hk,q,c,vals,k⟩=>Le H Hk∧SlF Hk vals (wdK rs rs.length k)∧k≤rs.length) (fun ⟨Hk,q,c,vals,k⟩=>rs.length - k) (H,qo13,co13, [],0) ⟨Le.refl _,SlF.nil _,by omega⟩ ⟨rfl,⟨rfl,trivial⟩⟩ rfl rfl ?_))))))))))));rintro ⟨Hk,q,c,vals,k⟩ ⟨hlk,hS,hk⟩ _ hAg0;replace hrs:=hrs.le hlk;refine Je fun _ hK6 _=>(Je fun _ hK7 _=>(Jb (Jg (Jc rfl) rfl (Jg (Jc rfl) rfl (Jg (JJ rfl rfl) rfl (Jf (Ja (hK7 (Jq rfl (fun h16=>?_) (fun h16=>?_))))))))))
 ·
  have hk1:k<rs.length:=by omega
  have hrk:=(hW _ (rw_mem hk1)).len;refine Jn (Ja (hK6 (Je fun _ hK8 _=>(Jp (Je fun _ hK9 _=>(Jb (EI (MK.lit0I u22 sz2) rfl fun qo19 co19=>(Jg (Jc rfl) rfl (Jg (Jc rfl) rfl (Jg (JL u31 sz22 rfl rfl rfl hk1 hrs.sm) rfl ?_))))))))));obtain ⟨qe23,ce23,he23,le23,Fe23⟩:=hrs k hk1;refine Jg (JE rfl he23 pl22) rfl (J.appendHI u22 ze2 sz2 by2 rfl rfl Fe23 (by simp only [List.length_nil];omega) At.z (fun _ _=>At.z) rfl fun qo24 co24=>(Jg (Jc rfl) rfl (J.appendZ (m:=rs.length) u22 u3 ze2 sz2 by2 rfl rfl rfl rfl (by omega) (by simp only [List.length_append,List.length_nil];omega) At.z (fun _ _=>At.z) rfl fun qo26 co26=>(Jg (Jd rfl) rfl (Jf (Ja (hK9 (Je fun _ hK10 _=>(Jb (Jg (Jc rfl) rfl (Jg (Jc rfl) rfl (Jg (Jc rfl) rfl (Jg (Jz rfl rfl (by first | exact nw _ (by omega) | rfl)) rfl (Jg (Eu (i':=W+k) u22 sz2 rfl rfl (by omega) (by simp;omega) At.z) rfl (ET rfl rfl sz2 (by simp;omega) At.z ?_)))))))))))))));rw [uni_eq hrk];refine Ev .z fun Ho19 hleo19 hAo19=>?_;replace hrs:=hrs.le hleo19;replace hS:=hS.le hleo19;replace Fe23:=Fe23.le hleo19;have hxo19:=own_ints hAo19;have hco19:=own_le hAo19;refine Jf (Ja (hK10 (Jb (Jg (Jc rfl) rfl (Jg (Ep (v':=.slice qo26 (rw_ rs k++uniR rs.length k).length co26) (by simp) (Jc rfl)) rfl (EI (EN u31 ze22 sz22 rfl rfl) rfl fun qo34 co34=>(EG u31 ze22 sz22 by22 rfl rfl rfl rfl (by omega) .z At.z (fun _ _=>At.z) rfl fun qo35 co35=>?_)))))));have hS2:=hS.snoc hxo19 rfl (by simpa using hco19);refine Jg (Jd rfl) rfl (Jf (JF (Ja (hK8 (Jb (Jg (Jc rfl) rfl (Jg (Jz rfl rfl (by first | exact nw _ (by omega) | rfl)) rfl (Jg (Jd rfl) rfl (Jf (Ja (JN .z ?_)))))))))));exact hAg0 (Ho19,qo35,co35,_,k+1) ⟨(hlk.trans hleo19),by rw [wdK_succ];exact hS2,by omega⟩ (by show rs.length - (k+1)<rs.length - k;omega) 27 rfl rfl ⟨rfl,⟨rfl,trivial⟩⟩ rfl rfl
 ·
  refine JG (Jj (Jj (JK (Ja (hK4 (Je fun _ hK11 _=>(Jb (Jg (Ep (v':=.slice q (wdS rs rs.length).length c) (by rw [show (wdS rs rs.length).length=rs.length from wdK_len _ _ _,show k=rs.length by omega]) (Jc rfl)) rfl ?_))))))))
  obtain rfl:k=rs.length:=by omega
  refine Ev .z fun Ho13 hleo13 hAo13=>?_;replace hrs:=hrs.le hleo13;replace hS:=hS.le hleo13;have hxo13:=hS.rows (Le.refl _) hAo13;have hco13:=own_le hAo13;rw [show wdK rs rs.length rs.length=wdS rs rs.length from rfl] at hxo13;refine Ju fn119 rfl rfl fun w hH=>(l03Reduce_c (W:=W+rs.length) hxo13 (wdS_ok hW) (by rw [show (wdS rs rs.length).length=rs.length from wdK_len _ _ _];omega) (by omega) hH).mono ?_;rintro _ w ⟨Hf37,qf37,cf37,hlf37,hI37,hcc37,rfl,hH⟩;refine ⟨_,rfl,fun a hF=>JH hF hH ?_⟩;replace hrs:=hrs.le hlf37;replace hS:=hS.le hlf37;replace hxo13:=hxo13.le hlf37;have hRR:=(redS_ok (wdS_ok (n:=rs.length) hW)).1;have hRc:=hRR.count;refine Jg (Jd rfl) rfl (Jf (Ja (hK11 (Je fun _ hK12 _=>(Jb (EI (EP u31 sz22) rfl fun qo38 co38=>(Jg (Jd rfl) rfl (Jf (Ja (hK12 (Je fun _ hK13 _=>(Je fun _ hK14 _=>(Jb (Jg (Jd rfl) rfl (Jf (Ja (hK14 ?_)))))))))))))))));refine Jp (JD (σ:=HP × Option Addr × Nat × List Value × Nat) (fun ⟨Hm,q2,c2,vals2,m⟩=>[(10,.int .i64 (m:Int)),(9,.slice q2 (fzK (redS (wdS rs rs.length)) W m).length c2)]) (fun ⟨Hm,q2,c2,vals2,m⟩=>Hm) (fun ⟨Hm,q2,c2,vals2,m⟩=>own 22 1 q2 (fzK (redS (wdS rs rs.length)) W m).length c2 vals2::L) (fun ⟨Hm,q2,c2,vals2,m⟩=>Le Hf37 Hm∧SlF Hm vals2 (fzK (redS (wdS rs rs.length)) W m)∧m≤(redS (wdS rs rs.length)).length) (fun ⟨Hm,q2,c2,vals2,m⟩=>(redS (wdS rs rs.length)).length - m) (Hf37,qo38,co38, [],0) ⟨Le.refl _,SlF.nil _,by omega⟩ ⟨rfl,⟨rfl,trivial⟩⟩ rfl rfl ?_);rintro ⟨Hm,q2,c2,vals2,m⟩ ⟨hlm,hT,hm⟩ _ hAg1;replace hrs:=hrs.le hlm;replace hS:=hS.le hlm;replace hxo13:=hxo13.le hlm;replace hI37:=hI37.le hlm;refine Je fun _ hK15 _=>(Je fun _ hK16 _=>(Jb (Jg (Jc rfl) rfl (Jg (Jc rfl) rfl (Jg (Jo u31 rfl rfl) rfl (Jg (JJ rfl rfl) rfl (Jf (Ja (hK16 (Jq rfl (fun h42=>?_) (fun h42=>?_)))))))))))
  ·
   have hm1:m<(redS (wdS rs rs.length)).length:=by omega
   have hrm:=hRR.led _ (rw_mem hm1);have hrl:=hrm.1.len;have hfl:=fzK_len (redS (wdS rs rs.length)) W m;have hld:=idxOf_ld (r:=rw_ (redS (wdS rs rs.length)) m) (by omega);have hzt:=zR_take (W:=W) (r:=rw_ (redS (wdS rs rs.length)) m) (by omega) (by omega);refine Jn (Ja (hK15 (Je fun _ hK17 _=>(Jp (Je fun _ hK18 _=>(Jb (Jg (Jc rfl) rfl (Jg (Jc rfl) rfl (Jg (JL u31 sz22 rfl rfl rfl hm1 hI37.sm) rfl ?_)))))))));obtain ⟨qe48,ce48,he48,le48,Fe48⟩:=hI37 m hm1;refine Jg (JE rfl he48 pl22) rfl (Ju fn96 rfl rfl fun w hH=>(l03First_c Fe48 (by omega) hH).mono ?_);rintro _ w ⟨rfl,hH⟩;refine ⟨_,rfl,fun a hF=>JH hF hH ?_⟩;refine Jg (Jc rfl) rfl (Jg (PR.geq rfl rfl) rfl (Jf (Ja (hK18 (Jq rfl (fun h51=>?_) (fun h51=>?_))))))
   ·
    have hzy:zR ((rw_ (redS (wdS rs rs.length)) m).take W)=true:=by rw [hzt];exact decide_eq_true (by omega)
    refine Jb (Jg (Jc rfl) rfl (EI (MK.lit0I u22 sz2) rfl fun qo53 co53=>(Jg (Jc rfl) rfl (Jg (Jc rfl) rfl (Jg (JL u31 sz22 rfl rfl rfl hm1 hI37.sm) rfl ?_)))));obtain ⟨qe57,ce57,he57,le57,Fe57⟩:=hI37 m hm1;refine Jg (JE rfl he57 pl22) rfl (Jg (Jc rfl) rfl (Jg (Ep (v':=.slice (qe57.map fun a=>a.add W) ((rw_ (redS (wdS rs rs.length)) m).drop W).length (ce57 - W)) (by rw [List.length_drop]) (PR.sliceLH (i':=W) u22 sz2 rfl (Fe57.sm (i:=0) (by omega)) rfl rfl (by omega) (by omega))) rfl (J.appendHI u22 ze2 sz2 by2 rfl rfl (ints_drop Fe57 W) (by simp;omega) At.z (fun _ _=>At.z) rfl fun qo60 co60=>(Ev .z fun Ho53 hleo53 hAo53=>?_))));replace hrs:=hrs.le hleo53;replace hS:=hS.le hleo53;replace hxo13:=hxo13.le hleo53;replace hI37:=hI37.le hleo53;replace hT:=hT.le hleo53;replace Fe48:=Fe48.le hleo53;replace Fe57:=Fe57.le hleo53;have hxo53:=own_ints hAo53;have hco53:=own_le hAo53;refine EI (EN u31 ze22 sz22 rfl rfl) rfl fun qo61 co61=>(EG u31 ze22 sz22 by22 rfl rfl rfl rfl (by omega) .z At.z (fun _ _=>At.z) rfl fun qo62 co62=>?_);have hT3:=hT.snoc hxo53 rfl hco53;refine Jg (Jd rfl) rfl (Jf (JF (Ja (hK17 (Jb (Jg (Jc rfl) rfl (Jg (Jz rfl rfl (by first | exact nw _ (by omega) | rfl)) rfl (Jg (Jd rfl) rfl (Jf (Ja (JN .z ?_)))))))))));exact hAg1 (Ho53,qo62,co62,_,m+1) ⟨(hlm.trans hleo53),by rw [fzK_yes hm1 hzy];exact hT3,by omega⟩ (by show (redS (wdS rs rs.length)).length - (m+1)<(redS (wdS rs rs.length)).length - m;omega) 28 rfl rfl ⟨rfl,⟨(by rw [fzK_ylen hm1 hzy];rfl),trivial⟩⟩ rfl (by dsimp only;rw [fzK_ylen hm1 hzy])
   ·
    have hzn:zR ((rw_ (redS (wdS rs rs.length)) m).take W)=false:=by rw [hzt];exact decide_eq_false (by omega)
    refine Jn (JF (Ja (hK17 (Jb (Jg (Jc rfl) rfl (Jg (Jz rfl rfl (by first | exact nw _ (by omega) | rfl)) rfl (Jg (Jd rfl) rfl (Jf (Ja ?_)))))))));exact hAg1 (Hm,q2,c2,vals2,m+1) ⟨hlm,by rw [fzK_no hm1 hzn];exact hT,by omega⟩ (by show (redS (wdS rs rs.length)).length - (m+1)<(redS (wdS rs rs.length)).length - m;omega) 16 rfl rfl ⟨rfl,⟨(by rw [fzK_no hm1 hzn];rfl),trivial⟩⟩ rfl (by dsimp only;rw [fzK_no hm1 hzn])
  ·
   refine JG (Jj (Jj (JK (Ja (hK13 (Je fun _ hK19 _=>(Jb (Jg (Ep (v':=.slice q2 (fzS (redS (wdS rs rs.length)) W).length c2) (by rw [← fzK_end,show m=(redS (wdS rs rs.length)).length by omega]) (Jc rfl)) rfl ?_))))))))
   have hT4:SlF Hm vals2 (fzS (redS (wdS rs rs.length)) W):=by
    rw [show m=(redS (wdS rs rs.length)).length by omega,fzK_end] at hT;exact hT
   have hfn:=fzK_len (redS (wdS rs rs.length)) W (redS (wdS rs rs.length)).length;rw [fzK_end] at hfn;refine Ev .z fun Ho38 hleo38 hAo38=>?_;replace hrs:=hrs.le hleo38;replace hS:=hS.le hleo38;replace hxo13:=hxo13.le hleo38;replace hI37:=hI37.le hleo38;replace hT:=hT.le hleo38;replace hT4:=hT4.le hleo38;have hxo38:=hT4.rows (Le.refl _) hAo38;have hco38:=own_le hAo38;refine Ju fn119 rfl rfl fun w hH=>(l03Reduce_c (W:=rs.length) hxo38 (fzS_ok hRR.row) (by omega) (by omega) hH).mono ?_;rintro _ w ⟨Hf64,qf64,cf64,hlf64,hI64,hcc64,rfl,hH⟩;refine ⟨_,rfl,fun a hF=>JH hF hH ?_⟩;replace hrs:=hrs.le hlf64;replace hS:=hS.le hlf64;replace hxo13:=hxo13.le hlf64;replace hI37:=hI37.le hlf64;replace hT:=hT.le hlf64;replace hT4:=hT4.le hlf64;replace hxo38:=hxo38.le hlf64;refine Jg (Jd rfl) rfl (Jf (Ja (hK19 (Jt (Jr rfl (Res.tmp rfl) fun w hH=>?_)))));exact ⟨_,_,_,(((((hlk.trans hleo13).trans hlf37).trans hlm).trans hleo38).trans hlf64),hI64,hcc64,rfl,hH⟩
end Go.Proofs.YtelcehjliighfaaGreat.G
