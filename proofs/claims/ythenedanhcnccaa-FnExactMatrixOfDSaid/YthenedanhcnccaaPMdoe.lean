/- A part of the walk of one law: what the functions compute. No condition. -/
import Derived.Test.YthenedanhcnccaaRows
import Derived.Test.YthenedanhcnccaaProg
import Derived.WalkKit
import Derived.KernelRfl
import Derived.JoinedOf
import Derived.Maps.AppendAt
import Derived.Still
import Derived.ProofKit
import Derived.OpenShut
import Derived.StillTail
import Derived.Deep.Upon
import Derived.WalkSpells
import Derived.Maps.Range
import Derived.DeepKeys4
import Derived.Maps.Keyed
import Derived.ChangeOld
import Derived.Below
import Derived.SizedLaws
import Derived.Test.YthenedanhcnccaaPMdod
set_option linter.unusedVariables false
set_option linter.unusedSimpArgs false
set_option maxRecDepth 10000
set_option maxHeartbeats 8000000
namespace Go.Proofs.Ythenedanhcnccaa.G
open Go Go.RowKit
theorem u137:Try.prog.underlying 137=some (TypeDesc.struct #[{name:="degrees",type:=22,offset:=0,embedded:=false,tag:="",pkgPath:="loop.example/g01219/impl",byteOffset:=0},{name:="most",type:=3,offset:=1,embedded:=false,tag:="",pkgPath:="loop.example/g01219/impl",byteOffset:=24},{name:="out",type:=52,offset:=2,embedded:=false,tag:="",pkgPath:="loop.example/g01219/impl",byteOffset:=32}]):=by kernel_rfl
theorem u52:Try.prog.underlying 52=some (TypeDesc.slice 87):=by kernel_rfl
theorem sz52:Size Try.prog 52 1:=by unfold Size;kernel_rfl
theorem by87:Bytes Try.prog 87 64:=by unfold Bytes;kernel_rfl
theorem pl52:Plain Try.prog 52:=⟨_,u52,rfl⟩
theorem fn98:Fn Try.prog 98:=⟨_,Try.func98,by kernel_rfl,rfl⟩
def capL (M:Nat) (a b:List Pw):List Pw:=a++b.take (M - a.length)
theorem capL_nil (M:Nat) (a:List Pw):capL M a []=a:=by simp [capL]
theorem capL_full {M:Nat} {a:List Pw} (h:M≤a.length) (b:List Pw):capL M a b=a:=by unfold capL;rw [show M - a.length=0 by omega,List.take_zero,List.append_nil]
theorem capL_app (M:Nat) (a b c:List Pw):capL M (capL M a b) c=capL M a (b++c):=by
 unfold capL;rw [List.append_assoc,List.take_append,List.length_append,List.length_take]
 congr 3
 omega
theorem capL_len {M:Nat} {a b:List Pw} (h:a.length≤M):(capL M a b).length≤M:=by
 unfold capL;rw [List.length_append,List.length_take]
 omega
theorem capL_one {M:Nat} {a:List Pw} (h:a.length<M) (p:Pw):capL M a [p]=a++[p]:=by
 unfold capL;rw [List.take_of_length_le (by simp;omega)]
theorem capL_zero (M:Nat) (b:List Pw):capL M [] b=b.take M:=by simp [capL]
theorem enum_end {ds:List Int} {i:Nat} {m:Pw} {n:Int} (hi:i=ds.length):enumF (ds.drop i) i m n=if n=0 then [m] else []:=by
 subst hi;rw [List.drop_length]
 rfl
abbrev enS (ds:List Int) (i:Nat) (m:Pw) (n:Int):List Pw:=enumF (ds.drop i) i m n
def enG (ds:List Int) (i:Nat) (m:Pw) (n e:Int):List Pw:=enS ds (i+1) (m.set i e) (n - e * ds.getD i 0)
theorem enum_go {ds:List Int} {i:Nat} {m:Pw} {n:Int} (hi:i<ds.length):enS ds i m n=(dnL (topM (ds.getD i 0) n)).flatMap (enG ds i m n):=by
 unfold enS enG;rw [List.drop_eq_getElem_cons hi]
 have:ds.getD i 0=ds[i]:=by simp [List.getD_eq_getElem?_getD,List.getElem?_eq_getElem hi]
 rw [this]
 rfl
theorem enG_set {ds:List Int} {i:Nat} {m mm:Pw} {n e:Int} (h : ∀v:Int,mm.set i v=m.set i v):enS ds (i+1) (mm.set i e) (n - e * ds.getD i 0)=enG ds i m n e:=by unfold enG;rw [h]
structure EnI (ds:List Int) (i:Nat) (m:Pw) (n e:Int) (A:List Pw) (mm:Pw):Prop where
 len:mm.length=8
 set : ∀v:Int,mm.set i v=m.set i v
 eq:A++(dnL e).flatMap (enG ds i m n)=enS ds i m n
 lo : -1000001≤e
 hi:e≤topM (ds.getD i 0) n
theorem topM_20 (d n:Int):topM d n≤20:=by unfold topM;split <;> omega
theorem tdiv_b {n d:Int} (hd:1≤d) (hn : -1000000≤n∧n≤1000000) : -1000000≤n.tdiv d∧n.tdiv d≤1000000:=by
 rcases Int.le_total 0 n with h | h
 ·rw [Int.tdiv_eq_ediv_of_nonneg h];have h1:=Int.ediv_nonneg h (by omega:0≤d);have h2:=Int.ediv_le_self d h
  omega
 ·have e:n = -(-n):=by omega
  rw [e,Int.neg_tdiv,Int.tdiv_eq_ediv_of_nonneg (by omega)];have h1:=Int.ediv_nonneg (by omega:0≤ -n) (by omega:0≤d);have h2:=Int.ediv_le_self d (by omega:0≤ -n)
  omega
theorem topM_lo {d n:Int} (hd:1≤d) (hn : -1000000≤n∧n≤1000000) : -1000000≤topM d n:=by
 have:=tdiv_b hd hn;unfold topM
 split <;> omega
theorem EnI.start {ds:List Int} {i:Nat} {m:Pw} {n:Int} (hm:m.length=8) (hi:i<ds.length) (hd:1≤ds.getD i 0) (hn : -1000000≤n∧n≤1000000):EnI ds i m n (topM (ds.getD i 0) n) [] m:=
 ⟨hm,fun _=>rfl,by rw [enum_go hi];rfl,by have:=topM_lo hd hn;omega,Int.le_refl _⟩
theorem EnI.next {ds:List Int} {i:Nat} {m mm:Pw} {n e:Int} {A:List Pw} (h:EnI ds i m n e A mm) (he:0≤e):EnI ds i m n (e - 1) (A++enG ds i m n e) (mm.set i e):=
 ⟨by simpa using h.len,fun v=>by rw [List.set_set];exact h.set v,by rw [← h.eq,dnL_succ he,List.flatMap_cons,List.append_assoc],by omega,by have:=h.hi;omega⟩
theorem EnI.end {ds:List Int} {i:Nat} {m mm:Pw} {n e:Int} {A:List Pw} (h:EnI ds i m n e A mm) (he:e<0):A=enS ds i m n:=by
 rw [← h.eq,dnL_neg he]
 simp
theorem left_b {d n k:Int} (hd:1≤d∧d≤12) (hk:0≤k) (ht:k≤topM d n) (hn : -1000000≤n∧n≤1000000):(0≤k * d∧k * d≤240)∧ -1000000≤n - k * d∧n - k * d≤1000000:=by
 have h20:=topM_20 d n;have h0:0≤k * d:=Int.mul_nonneg hk (by omega);have h1:k * d≤20 * 12:=Int.mul_le_mul (by omega) hd.2 (by omega) (by omega);refine ⟨⟨h0,by omega⟩,?_,by omega⟩
 rcases Int.le_total 0 n with hn0 | hn0
 ·omega
 ·have h2:k=0:=by
   have h3:n.tdiv d≤0:=by
    have e:n = -(-n):=by omega
    rw [e,Int.neg_tdiv,Int.tdiv_eq_ediv_of_nonneg (by omega)];have:=Int.ediv_nonneg (by omega:0≤ -n) (by omega:0≤d)
    omega
   unfold topM at ht
   split at ht <;> omega
  rw [h2]
  omega
theorem min_if (i j:Int):(if j<i then j else i)=min i j:=by omega
theorem topM_odd {d n:Int} (h:d.tmod 2=1):min (min (n.tdiv d) 20) 1=topM d n:=by unfold topM;rw [if_pos h]
theorem topM_even {d n:Int} (h : ¬d.tmod 2=1):min (n.tdiv d) 20=topM d n:=by unfold topM;rw [if_neg h]
theorem fromX_c {B:World} {H0 H:HP} {L:List SA} {w:World} {i:Nat} {m:List Int} {n:Int} {gl most:Nat} {qd qo:Option Addr} {cd co:Nat} {ds:List Int} {acc:List Pw} (hm:m.length=8) (hds:Ints H qd ds) (hd : ∀j,j<ds.length→1≤ds.getD j 0∧ds.getD j 0≤12) (hi:i≤ds.length) (h8:ds.length≤8) (hn : -1000000≤n∧n≤1000000) (ha:acc.length≤most+1) (hmost:most≤100000) (hrec:i<ds.length→∀(m':Pw) (n':Int) (acc':List Pw) (qo':Option Addr) (co':Nat),m'.length=8→ -1000000≤n' ∧n' ≤1000000→acc'.length≤most+1→∀(L:List SA) (w:World),Hp B H0 H (obj gl (.cells [.slice qd ds.length cd,.int .i64 (most:Int),.slice qo' acc'.length co'].toArray 137 (0,0))::own 87 8 qo' acc'.length co' (psC acc')::L) w→Calls Try.prog 98 [.pointer (some ⟨gl,0,none⟩),.int .i64 ((i+1:Nat):Int),.agg (intsC m').toArray,.int .i64 n'].toArray w fun r w'=>r = .returned (.tuple #[])∧∃qo2 co2,Hp B H0 H (obj gl (.cells [.slice qd ds.length cd,.int .i64 (most:Int),.slice qo2 (capL (most+1) acc' (enS ds (i+1) m' n')).length co2].toArray 137 (0,0))::own 87 8 qo2 (capL (most+1) acc' (enS ds (i+1) m' n')).length co2 (psC (capL (most+1) acc' (enS ds (i+1) m' n')))::L) w') (hH:Hp B H0 H (obj gl (.cells [.slice qd ds.length cd,.int .i64 (most:Int),.slice qo acc.length co].toArray 137 (0,0))::own 87 8 qo acc.length co (psC acc)::L) w):Calls Try.prog 98 [.pointer (some ⟨gl,0,none⟩),.int .i64 (i:Int),.agg (intsC m).toArray,.int .i64 n].toArray w fun e w'=>e = .returned (.tuple #[])∧∃qo2 co2,Hp B H0 H (obj gl (.cells [.slice qd ds.length cd,.int .i64 (most:Int),.slice qo2 (capL (most+1) acc (enS ds i m n)).length co2].toArray 137 (0,0))::own 87 8 qo2 (capL (most+1) acc (enS ds i m n)).length co2 (psC (capL (most+1) acc (enS ds i m n)))::L) w':=by
 refine Jt Try.func98 rfl 74 rfl rfl [(0,.pointer (some ⟨gl,0,none⟩)),(1,.int .i64 (i:Int)),(2,.agg (intsC m).toArray),(3,.int .i64 n)] rfl hH ?_;clear hH;refine Je fun _ hK1 _=>(Jb (Eb rfl rfl rfl fun g6=>(Jf (Ja (hK1 (Je fun _ hK2 _=>(Je fun _ hK3 _=>(Eo foll0 (by kernel_rfl) (Jv (Jc rfl) rfl (Jv (JK rfl) rfl (Jv (Jq u137 rfl sz52 rfl) rfl (Jv (Jr rfl (.s .z) rfl pl52) rfl (Jv (Jn u52 rfl rfl) rfl (Jv (Jc rfl) rfl (Jv (JK rfl) rfl ?_)))))))))))))));refine Jv (Jq u137 rfl sz3 rfl) rfl (Jv (Jr rfl (.s .z) rfl pl3) rfl (Jv (EC rfl rfl) rfl (Ef (Ja (hK3 (Jl rfl (fun h20=>?_) (fun h20=>?_)))))))
 ·
  refine Jp (Jh (EJ.ret0r rfl fun w hH=>?_));replace hH:=hH.sublist (.cons _ (.cons_cons _ (.cons_cons _ (List.Sublist.refl _))));rw [capL_full (by omega)];exact ⟨rfl,qo,co,hH⟩
 ·
  refine Jj (Ja (hK2 (Je fun _ hK4 _=>(Je fun _ hK5 _=>(Jb (Jg (Jc rfl) rfl (Jg (Jc rfl) rfl (Jg (JK rfl) rfl (Jg (Jq u137 rfl sz22 rfl) rfl (Jg (Jr rfl (.s .z) rfl pl22) rfl (Jg (Jn u22 rfl rfl) rfl (Jg (Ew rfl rfl) rfl (Jf (Ja (hK5 (Jl rfl (fun h27=>?_) (fun h27=>?_)))))))))))))))))
  ·
   refine Je fun _ hK6 _=>(Je fun _ hK7 _=>(Jb (Jg (Jc rfl) rfl (Jg (Ew rfl rfl) rfl (Jf (Ja (hK7 (Jl rfl (fun h29=>?_) (fun h29=>?_)))))))))
   ·
    refine Ey (Rs:=[_,_,_]) 11 [[], [], [1], [1,2], [1,2,3], [], [5], [1,2,3,4,5,6], [0,1,2,3,4,5,6,7], [0,1,2,3,4,5,6,7,8], [0,1,2,3,4,5,6,7,8,9]] [[], [], [], [], [12], [11], [], [6], [], [], []] [[], [], [], [], [], [], [], [13], [], [], [12]] rfl rfl (by kernel_rfl) ?_;apply Jy 1 rfl
    iterate 3 focus (intros;(conv=>lhs;simp only [Jo,JB,Ee,JD,JR,eq_self,Nat.reduceEqDiff,reduceIte,Nat.reduceSub,Nat.reduceAdd,List.cons_append,List.nil_append]);all_goals rfl)
    ·
     intro gh X K zq zc zq2 zc2 zb zv hK;refine Jg (Jc rfl) rfl (Js ?_);exact hK zq zc zq2 zc2 zb zv
    ·
     intro gh gh' h
     rfl
    apply Jy 2 rfl
    iterate 3 focus (intros;(conv=>lhs;simp only [Jo,JB,Ee,JD,JR,eq_self,Nat.reduceEqDiff,reduceIte,Nat.reduceSub,Nat.reduceAdd,List.cons_append,List.nil_append]);all_goals rfl)
    ·
     intro gh X K zq zc zq2 zc2 zb zv hK;refine Jg (Jc rfl) rfl (Js ?_);exact hK zq zc zq2 zc2 zb zv
    ·
     intro gh gh' h
     rfl
    apply Jy 3 rfl
    iterate 3 focus (intros;(conv=>lhs;simp only [Jo,JB,Ee,JD,JR,eq_self,Nat.reduceEqDiff,reduceIte,Nat.reduceSub,Nat.reduceAdd,List.cons_append,List.nil_append]);all_goals rfl)
    ·
     intro gh X K zq zc zq2 zc2 zb zv hK;refine Jg (JK rfl) rfl (Js ?_);exact hK zq zc zq2 zc2 zb zv
    ·
     intro gh gh' h
     rfl
    apply Jy 4 rfl
    iterate 3 focus (intros;(conv=>lhs;simp only [Jo,JB,Ee,JD,JR,eq_self,Nat.reduceEqDiff,reduceIte,Nat.reduceSub,Nat.reduceAdd,List.cons_append,List.nil_append]);all_goals rfl)
    ·
     intro gh X K zq zc zq2 zc2 zb zv hK;refine Jg (Jq u137 rfl sz52 rfl) rfl (Js ?_);exact hK zq zc zq2 zc2 zb zv
    ·
     intro gh gh' h
     rfl
    apply Jy 5 rfl
    iterate 3 focus (intros;(conv=>lhs;simp only [Jo,JB,Ee,JD,JR,eq_self,Nat.reduceEqDiff,reduceIte,Nat.reduceSub,Nat.reduceAdd,List.cons_append,List.nil_append]);all_goals rfl)
    ·
     intro gh X K zq zc zq2 zc2 zb zv hK;refine Jg (Jr rfl At.z rfl pl52) rfl (Js ?_);exact hK zq zc zq2 zc2 zb zv
    ·
     intro gh gh' h
     rfl
    apply Jy 6 rfl
    iterate 3 focus (intros;(conv=>lhs;simp only [Jo,JB,Ee,JD,JR,eq_self,Nat.reduceEqDiff,reduceIte,Nat.reduceSub,Nat.reduceAdd,List.cons_append,List.nil_append]);all_goals rfl)
    ·
     intro gh X K zq zc zq2 zc2 zb zv hK;refine Jg (Ju rfl At.z (by simpa [*] using ag87)) rfl (Js ?_);exact hK zq zc zq2 zc2 zb zv
    ·
     intro gh gh' h
     rfl
    apply En 7 rfl
    iterate 3 focus (intros;(conv=>lhs;simp only [Jo,JB,Ee,JD,JR,eq_self,Nat.reduceEqDiff,reduceIte,Nat.reduceSub,Nat.reduceAdd,List.cons_append,List.nil_append]);all_goals rfl)
    ·
     intro gh X K zq zc zq2 zc2 zb zv hK;refine J.mk (MK.lit8 cf8I u52 ze87 rfl sz87 hm rfl) rfl fun qo36 co36=>(Js ?_);exact hK qo36 co36 zq2 zc2 zb zv
    ·
     intro gh gh' h;refine ⟨?_,?_⟩ <;> rfl
    apply En 8 rfl
    iterate 3 focus (intros;(conv=>lhs;simp only [Jo,JB,Ee,JD,JR,eq_self,Nat.reduceEqDiff,reduceIte,Nat.reduceSub,Nat.reduceAdd,List.cons_append,List.nil_append]);all_goals rfl)
    ·
     intro gh X K zq zc zq2 zc2 zb zv hK;refine J.append8 cf8I u52 ze87 rfl sz87 by87 rfl rfl rfl (by omega) (.s .z) At.z (fun _ _=>At.z) rfl fun qo37 co37=>(Jw .z (Jw (.s .z) (Js ?_)));exact hK qo37 co37 zq2 zc2 zb zv
    ·
     intro gh gh' h;refine ⟨?_,?_⟩ <;> (first | simp only [h 6 rfl] | rfl)
    apply Jy 9 rfl
    iterate 3 focus (intros;(conv=>lhs;simp only [Jo,JB,Ee,JD,JR,eq_self,Nat.reduceEqDiff,reduceIte,Nat.reduceSub,Nat.reduceAdd,List.cons_append,List.nil_append]);all_goals rfl)
    ·
     intro gh X K zq zc zq2 zc2 zb zv hK;refine Jg (JK rfl) rfl (Js ?_);exact hK zq zc zq2 zc2 zb zv
    ·
     intro gh gh' h
     first | simp only [h 6 rfl,h 7 rfl] | rfl
    apply Jy 10 rfl
    iterate 3 focus (intros;(conv=>lhs;simp only [Jo,JB,Ee,JD,JR,eq_self,Nat.reduceEqDiff,reduceIte,Nat.reduceSub,Nat.reduceAdd,List.cons_append,List.nil_append]);all_goals rfl)
    ·
     intro gh X K zq zc zq2 zc2 zb zv hK;refine Jg (Jq u137 rfl sz52 rfl) rfl (Js ?_);exact hK zq zc zq2 zc2 zb zv
    ·
     intro gh gh' h
     first | simp only [h 6 rfl,h 7 rfl] | rfl
    apply GJ.sn1 11 rfl
    iterate 3 focus (intros;(conv=>lhs;simp only [Jo,JB,Ee,JD,JR,eq_self,Nat.reduceEqDiff,reduceIte,Nat.reduceSub,Nat.reduceAdd,List.cons_append,List.nil_append]);all_goals rfl)
    ·
     intro gh X K hK;refine Et rfl rfl rfl rfl sz52 (by simp [*]) At.z (Js ?_);exact hK
    ·
     intro gh gh' h
     first | simp only [h 6 rfl,h 7 rfl] | rfl
    apply Ez [0,1,2,3,4,5,6,7,8,9,10] [0,1,2,3,4,5,6,7,8,9,10,11] foll0 rfl rfl rfl (by rfl)
    iterate 2 focus (intros;(conv=>lhs;simp only [Jo,JB,Ee,JD,JR,eq_self,Nat.reduceEqDiff,reduceIte,Nat.reduceSub,Nat.reduceAdd,List.cons_append,List.nil_append]);all_goals rfl)
    intro gh;generalize (gh 6).c=co36;generalize (gh 6).q=qo36;generalize (gh 7).c=co37;generalize (gh 7).q=qo37;clear gh;refine Ja (hK6 (Jp (Jh (EJ.ret0r rfl fun w hH=>?_))));replace hH:=hH.sublist (.cons _ (.cons_cons _ (.cons_cons _ (.cons _ (List.Sublist.refl _)))));rw [show enS ds i m n=[m] from by rw [enS,enum_end (by omega),if_pos h29],capL_one (by omega),List.length_append];exact ⟨rfl,qo37,co37,hH.front (.s .z)⟩
   ·
    refine Jj (Ja (hK6 (Jp (Jh (EJ.ret0r rfl fun w hH=>?_)))));replace hH:=hH.sublist (.cons _ (.cons_cons _ (.cons_cons _ (List.Sublist.refl _))));rw [show enS ds i m n=[] from by rw [enS,enum_end (by omega),if_neg h29],capL_nil];exact ⟨rfl,qo,co,hH⟩
  ·
   have hil:i<ds.length:=by omega
   have hdi:=hd i hil;have htb:=tdiv_b hdi.1 hn;have htt:=tmod_bd n;refine Jj (Ja (hK4 (Je fun _ hK8 _=>(Jb (Jg (Jc rfl) rfl (Jg (JK rfl) rfl (Jg (Jq u137 rfl sz22 rfl) rfl (Jg (Jr rfl (.s .z) rfl pl22) rfl (Jg (Jc rfl) rfl (Jg (JY u22 sz2 rfl rfl rfl (by omega) hds.sm) rfl (Jg (JL rfl (hds _ (by omega)) pl2) rfl (Jg (Jd rfl) rfl (Jf (Ja (hK8 (Je fun _ hK9 _=>?_))))))))))))))));refine Jb (Jg (Jc rfl) rfl (Jg (Jc rfl) rfl (Jg (PR.quo rfl rfl (by omega) (nw _ (by omega))) rfl (Jg (PR.eqv (v':=.int .i64 (min (n.tdiv (ds.getD i 0)) 20)) (by rw [min_if]) (PR.min2 rfl rfl)) rfl (Jg (Jd rfl) rfl (Jf (Ja (hK9 (CJ.cutU (σ:=Unit) (fun (_:Unit)=>[(9,.int .i64 (topM (ds.getD i 0) n))]) (fun (_:Unit)=>H) (fun (_:Unit)=>obj g6 (.cells (intsC m).toArray 87 (0,0))::obj gl (.cells [.slice qd ds.length cd,.int .i64 (most:Int),.slice qo acc.length co].toArray 137 (0,0))::own 87 8 qo acc.length co (psC acc)::L) (fun (_:Unit)=>True) ?_ ?_)))))))))
   ·
    intro _ hMt1;refine Je fun _ hK10 _=>(Jb (Jg (Jc rfl) rfl (Jg (EA rfl rfl (by decide) rfl) rfl (Jg (Ew rfl rfl) rfl (Jf (Ja (hK10 (Jl rfl (fun h53=>?_) (fun h53=>?_)))))))))
    ·
     refine Jb (Jg (Jc rfl) rfl (Jg (PR.eqv (v':=.int .i64 (min (min (n.tdiv (ds.getD i 0)) 20) 1)) (by rw [min_if]) (PR.min2 rfl rfl)) rfl (Jg (Jd rfl) rfl (Jf (Ja ?_)))));exact hMt1 () trivial 6 rfl rfl ⟨(vi (topM_odd h53)),trivial⟩ rfl rfl
    ·
     refine Jj (Ja ?_);exact hMt1 () trivial 3 rfl rfl ⟨(vi (topM_even h53)),trivial⟩ rfl rfl
   ·
    rintro _ _;refine Je fun _ hK11 _=>(Jb (Jg (Jc rfl) rfl (Jg (Jd rfl) rfl (Jf (Ja (hK11 (Jm (JC (σ:=Int × List Pw × Pw × Option Addr × Nat) (fun ⟨e,A,mm,qo1,co1⟩=>[(10,.int .i64 e)]) (fun ⟨e,A,mm,qo1,co1⟩=>H) (fun ⟨e,A,mm,qo1,co1⟩=>obj g6 (.cells (intsC mm).toArray 87 (0,0))::obj gl (.cells [.slice qd ds.length cd,.int .i64 (most:Int),.slice qo1 (capL (most+1) acc A).length co1].toArray 137 (0,0))::own 87 8 qo1 (capL (most+1) acc A).length co1 (psC (capL (most+1) acc A))::L) (fun ⟨e,A,mm,qo1,co1⟩=>EnI ds i m n e A mm) (fun ⟨e,A,mm,qo1,co1⟩=>(e+1).toNat) (topM (ds.getD i 0) n, [],m,qo,co) (EnI.start hm hil hdi.1 hn) ⟨rfl,trivial⟩ rfl (by dsimp only;rw [capL_nil]) ?_))))))));rintro ⟨e,A,mm,qo1,co1⟩ hI _ hAg0;have hlo:=hI.lo;have hhi:=hI.hi;have h20:=topM_20 (ds.getD i 0) n;have hmml:=hI.len;refine Je fun _ hK12 _=>(Je fun _ hK13 _=>(Jb (Jg (Jc rfl) rfl (Jg (PR.geq rfl rfl) rfl (Jf (Ja (hK13 (Jl rfl (fun h58=>?_) (fun h58=>?_)))))))))
    ·
     have hlb:=left_b hdi h58 hhi hn;refine Jj (Ja (hK12 (Je fun _ hK14 _=>(Jm (Je fun _ hK15 _=>(Jb (Jg (Jc rfl) rfl (Jg (Jc rfl) rfl (Jg (JP u87 sz3 rfl rfl rfl (by omega)) rfl (J.storeI rfl rfl sz3 (by simp [*];omega) At.z (Jf (Ja (hK15 (Jb (Jg (Jc rfl) rfl (Jg (Jc rfl) rfl ?_))))))))))))))));refine Jg (JA rfl rfl (by first | exact nw _ (by omega) | rfl)) rfl (Jg (Ju rfl At.z (by simpa [*] using ag87)) rfl (Jg (Jc rfl) rfl (Jg (Jc rfl) rfl (Jg (Jc rfl) rfl (Jg (ED rfl rfl (nw _ (by omega))) rfl (Jg (PR.sub rfl rfl (nw _ (by omega))) rfl (Jz fn98 rfl rfl fun w hH=>(hrec hil (mm.set i e) (n - e * ds.getD i 0) (capL (most+1) acc A) qo1 co1 (by simpa using hmml) hlb.2 (capL_len ha) _ _ ((hH.front (.s (.s .z))).front (.s (.s .z)))).mono ?_)))))));rintro _ w ⟨rfl,qo2,co2,hH⟩;refine ⟨_,rfl,fun a hF=>JT hF hH ?_⟩;refine Jf (JE (Ja (hK14 (Jb (Jg (Jc rfl) rfl (Jg (PR.sub rfl rfl (by first | exact nw _ (by omega) | rfl)) rfl (Jg (Jd rfl) rfl (Jf (Ja (Jw (.s .z) (Jw (.s .z) (Jw (.s (.s .z)) ?_))))))))))));exact hAg0 (e - 1,A++enG ds i m n e,mm.set i e,qo2,co2) (hI.next h58) (by show (e - 1+1).toNat<(e+1).toNat;omega) 19 rfl rfl ⟨rfl,trivial⟩ rfl (by dsimp only;rw [← capL_app,← enG_set hI.set])
    ·
     refine JG (Ji (Ji (JN (EJ.ret0 rfl fun w hH=>?_))));replace hH:=hH.sublist (.cons _ (.cons_cons _ (.cons_cons _ (List.Sublist.refl _))));rw [← hI.end (by omega)];exact ⟨rfl,qo1,co1,hH⟩
theorem bd137_0_1 : ∀(q0:Option Addr) (m0 c0:Nat) (n1:Int) w,(Instr.build 137 #[(0,.slice q0 m0 c0),(1,.int .i64 n1)]).run Try.prog w = .ok (.agg [.slice q0 m0 c0,.int .i64 n1,.slice none 0 0].toArray) w:=fun q0 m0 c0 n1 _=>by kernel_rfl
theorem from_n {B:World} {H0 H:HP} {gl most:Nat} {qd:Option Addr} {cd:Nat} {ds:List Int} (hds:Ints H qd ds) (hd : ∀j,j<ds.length→1≤ds.getD j 0∧ds.getD j 0≤12) (h8:ds.length≤8) (hmost:most≤100000) : ∀(k i:Nat) (m:Pw) (n:Int) (acc:List Pw) (qo:Option Addr) (co:Nat),ds.length - i≤k→i≤ds.length→m.length=8→ -1000000≤n∧n≤1000000→acc.length≤most+1→∀(L:List SA) (w:World),Hp B H0 H (obj gl (.cells [.slice qd ds.length cd,.int .i64 (most:Int),.slice qo acc.length co].toArray 137 (0,0))::own 87 8 qo acc.length co (psC acc)::L) w→Calls Try.prog 98 [.pointer (some ⟨gl,0,none⟩),.int .i64 (i:Int),.agg (intsC m).toArray,.int .i64 n].toArray w fun r w'=>r = .returned (.tuple #[])∧∃qo2 co2,Hp B H0 H (obj gl (.cells [.slice qd ds.length cd,.int .i64 (most:Int),.slice qo2 (capL (most+1) acc (enS ds i m n)).length co2].toArray 137 (0,0))::own 87 8 qo2 (capL (most+1) acc (enS ds i m n)).length co2 (psC (capL (most+1) acc (enS ds i m n)))::L) w'
 | 0,i,m,n,acc,qo,co,hk,hi,hm,hn,ha,L,w,hH=>fromX_c hm hds hd hi h8 hn ha hmost (fun h=>by omega) hH
 | k+1,i,m,n,acc,qo,co,hk,hi,hm,hn,ha,L,w,hH=>fromX_c hm hds hd hi h8 hn ha hmost (fun h m' n' acc' qo' co' h1 h2 h3 L w hH=>from_n hds hd h8 hmost k (i+1) m' n' acc' qo' co' (by omega) (by omega) h1 h2 h3 L w hH) hH
theorem mon_cap {ds:List Int} {n:Int} (most:Nat) (m:Pw) (hm:m=zP):capL (most+1) [] (enS ds 0 m n)=(monS ds n).take (most+1):=by
 subst hm;rw [capL_zero]
 rfl
theorem take_dec {α:Type} {l:List α} {most:Nat}:(decide (((l.take (most+1)).length:Int)≤(most:Int)))=decide (l.length≤most):=by
 rw [List.length_take];simp only [decide_eq_decide]
 omega
theorem monS_neg {ds:List Int} {n:Int} (hd : ∀j,j<ds.length→1≤ds.getD j 0∧ds.getD j 0≤12) (h8:ds.length≤8) (hn:n<0):monS ds n=[]:=by
 rcases hh:monS ds n with _ | ⟨p,ps⟩
 ·rfl
 ·have h1:=enumF_mem (ds:=ds) (i:=0) (m:=zP) (p:=p) (n:=n) (by omega) rfl (by show p∈monS ds n;rw [hh];simp)
  have key : ∀(l:List Int) (i:Nat),(∀t,t<l.length→1≤l.getD t 0∧0≤p.getD (i+t) 0)→0≤wsF l p i:=by
   intro l
   induction l with
   | nil=>intro i _;simp [wsF]
   | cons d l ih=>
    intro i h;have h0:=h 0 (by simp);simp only [List.getD_cons_zero,Nat.add_zero] at h0;have:=ih (i+1) (fun t ht=>by have:=h (t+1) (by simpa using ht);simp only [List.getD_cons_succ] at this;rw [show i+1+t=i+(t+1) by omega];exact this);have h3:0≤d * p.getD i 0:=Int.mul_nonneg (by omega) h0.2;simp only [wsF]
    omega
  have h2:=key ds 0 (fun t ht=>⟨(hd t ht).1,(h1.2.2.1 t ht).1⟩)
  omega
theorem monomials_c {B:World} {H0 H:HP} {L:List SA} {w:World} {qds:Option Addr} {cds:Nat} {ds:List Int} {n:Int} {most:Nat} (hds:Ints H qds ds) (hd : ∀j,j<ds.length→1≤ds.getD j 0∧ds.getD j 0≤12) (h8:ds.length≤8) (hn : -1000000≤n∧n≤1000000) (hmost:most≤100000) (hH:Hp B H0 H L w):Calls Try.prog 74 [.slice qds ds.length cds,.int .i64 n,.int .i64 (most:Int)].toArray w fun e w'=>∃q c,e = .returned (.tuple #[.slice q ((monS ds n).take (most+1)).length c,.bool (decide ((monS ds n).length≤most))])∧Hp B H0 H (own 87 8 q ((monS ds n).take (most+1)).length c (psC ((monS ds n).take (most+1)))::L) w':=by
 refine Jt Try.func74 rfl 30 rfl rfl [(0,.slice qds ds.length cds),(1,.int .i64 n),(2,.int .i64 (most:Int))] rfl hH ?_;clear hH;refine Je fun _ hK1 _=>(Jb (Jg (Jd rfl) rfl (Jg (Jd rfl) rfl (Jf (Ja (hK1 (Je fun _ hK2 _=>(Jb (Jg (Jc rfl) rfl (Jg (Jc rfl) rfl (Jg (PR.build2 rfl rfl (fun w=>bd137_0_1 _ _ _ _ w)) rfl (Eb rfl rfl rfl fun g12=>(J.own0 87 8 (Jg (Jd rfl) rfl (Jf ?_)))))))))))))));refine Ja (hK2 (Je fun _ hK3 _=>(Je fun _ hK4 _=>(Jb (Jg (Jc rfl) rfl (Jg (PR.geq rfl rfl) rfl (Jf (Ja (hK4 (Jl rfl (fun h14=>?_) (fun h14=>?_)))))))))))
 ·
  refine Jb (Jg (Jc rfl) rfl (Jg (Es bz87) rfl (Jg (Jc rfl) rfl (Jz fn98 rfl rfl fun w hH=>(from_n hds hd h8 hmost ds.length 0 zP n [] none 0 (by omega) (by omega) rfl hn (by simp) _ _ (hH.front (.s .z))).mono ?_))));rintro _ w ⟨rfl,qo2,co2,hH⟩;refine ⟨_,rfl,fun a hF=>JT hF hH ?_⟩;refine Jf (Ja (hK3 (Je fun _ hK5 _=>(Eo foll0 (by kernel_rfl) (Jv (Jc rfl) rfl (Jv (JK rfl) rfl (Jv (Jq u137 rfl sz52 rfl) rfl (Jv (Jr rfl At.z rfl pl52) rfl (Jv (Jc rfl) rfl (Jv (JK rfl) rfl (Jv (Jq u137 rfl sz52 rfl) rfl (Jv (Jr rfl At.z rfl pl52) rfl (Jv (Jn u52 rfl rfl) rfl (Jv (Jc rfl) rfl (Jv (PR.leq rfl rfl) rfl ?_)))))))))))))));refine Jv (Jd rfl) rfl (Jv (Jd rfl) rfl (Ef (Ja (hK5 (Jp (Ev rfl (Res.tmp rfl) (Res.tmp rfl) fun w hH=>?_))))));replace hH:=hH.sublist (.cons _ (.cons_cons _ (List.Sublist.refl _)));rw [mon_cap most _ rfl] at hH ⊢;exact ⟨qo2,co2,by rw [take_dec],hH⟩
 ·
  refine Jj (Ja (hK3 (Je fun _ hK6 _=>(Eo foll0 (by kernel_rfl) (Jv (Jc rfl) rfl (Jv (JK rfl) rfl (Jv (Jq u137 rfl sz52 rfl) rfl (Jv (Jr rfl (.s .z) rfl pl52) rfl (Jv (Jc rfl) rfl (Jv (JK rfl) rfl (Jv (Jq u137 rfl sz52 rfl) rfl (Jv (Jr rfl (.s .z) rfl pl52) rfl (Jv (Jn u52 rfl rfl) rfl (Jv (Jc rfl) rfl (Jv (PR.leq rfl rfl) rfl ?_)))))))))))))));refine Jv (Jd rfl) rfl (Jv (Jd rfl) rfl (Ef (Ja (hK6 (Jp (Ev rfl (Res.tmp rfl) (Res.tmp rfl) fun w hH=>?_))))));replace hH:=hH.sublist (.cons_cons _ (.cons _ (List.Sublist.refl _)));rw [monS_neg hd h8 (by omega)];exact ⟨none,0,rfl,hH⟩
theorem u93:Try.prog.underlying 93=some (TypeDesc.struct #[{name:="a",type:=50,offset:=0,embedded:=false,tag:="",pkgPath:="loop.example/g01219/impl",byteOffset:=0},{name:="levels",type:=91,offset:=1,embedded:=false,tag:="",pkgPath:="loop.example/g01219/impl",byteOffset:=8}]):=by kernel_rfl
theorem sz50:Size Try.prog 50 1:=by unfold Size;kernel_rfl
theorem fn73:Fn Try.prog 73:=⟨_,Try.func73,by kernel_rfl,rfl⟩
theorem fn74:Fn Try.prog 74:=⟨_,Try.func74,by kernel_rfl,rfl⟩
def fitB (ds:List Int) (n:Int):Bool:=decide ((monS ds n).length≤120)
def arB (ds:List Int) (n:Int):Bool:=fitB ds (n - 1) && (fitB ds n && fitB ds (n+1))
def arC (ds:List Int) (ns:List Int):Int:=if ns.all (arB ds) then 0 else 3
theorem arC_no {ds ns:List Int} {i:Nat} (hi:i<ns.length) (h:arB ds (ns.getD i 0)=false):arC ds ns=3:=by
 unfold arC;rw [if_neg];intro hh
 have e:ns.getD i 0=ns[i]:=by simp [List.getD_eq_getElem?_getD,List.getElem?_eq_getElem hi]
 have:=List.all_eq_true.1 hh _ (List.getElem_mem hi);rw [e] at h;rw [h] at this;exact absurd this (by decide)
theorem arC_yes {ds ns:List Int} (h : ∀i,i<ns.length→arB ds (ns.getD i 0)=true):arC ds ns=0:=by
 unfold arC;rw [if_pos];refine List.all_eq_true.2 fun x hx=>?_;obtain ⟨i,hi,rfl⟩:=List.getElem_of_mem hx;have:=h i hi
 rwa [show ns.getD i 0=ns[i] by simp [List.getD_eq_getElem?_getD,List.getElem?_eq_getElem hi]] at this
theorem arB_1 {ds:List Int} {n:Int} (h:(!fitB ds (n - 1))=true):arB ds n=false:=by unfold arB;cases hh:fitB ds (n - 1) <;> simp_all
theorem arB_2 {ds:List Int} {n:Int} (h:(!fitB ds n)=true):arB ds n=false:=by unfold arB;cases hh:fitB ds n <;> simp_all
theorem arB_3 {ds:List Int} {n:Int} (h:(!fitB ds (n+1))=true):arB ds n=false:=by unfold arB;cases hh:fitB ds (n+1) <;> simp_all
theorem arB_y {ds:List Int} {n:Int} (h1:(!fitB ds (n - 1))=false) (h2:(!fitB ds n)=false) (h3:(!fitB ds (n+1))=false):arB ds n=true:=by
 unfold arB
 cases hh:fitB ds (n - 1) <;> cases hk:fitB ds n <;> cases hl:fitB ds (n+1) <;> simp_all
theorem not_f {b:Bool} (h:(!b)=true):b=false:=by cases b <;> simp_all
theorem not_t {b:Bool} (h:(!b)=false):b=true:=by cases b <;> simp_all
theorem fits_c {B:World} {H0 H:HP} {L:List SA} {w:World} {bc lc:Nat} {bca:Nat} {qcad qcaf:Option Addr} {ccad ccaf:Nat} {cad:List Int} {caf:List (List Term)} {n:Int} (pc0:CellAt H bc 0 (.pointer (some ⟨bca,0,none⟩))) (pc1:CellAt H bc 1 (.map (some lc))) (pcad:CellAt H bca 0 (.slice qcad cad.length ccad)) (pcaf:CellAt H bca 1 (.slice qcaf caf.length ccaf)) (hcad:Ints H qcad cad) (hcaf:Forms H qcaf caf) (hd : ∀j,j<cad.length→1≤cad.getD j 0∧cad.getD j 0≤12) (h8:cad.length≤8) (hn : -1000000≤n∧n≤1000000) (hH:Hp B H0 H L w):Calls Try.prog 73 [.pointer (some ⟨bc,0,none⟩),.int .i64 n].toArray w fun e w'=>e = .returned (.bool (fitB cad n))∧Hp B H0 H L w':=by
 refine Jt Try.func73 rfl 20 rfl rfl [(0,.pointer (some ⟨bc,0,none⟩)),(1,.int .i64 n)] rfl hH ?_;clear hH;refine Je fun _ hK1 _=>(Jb (Jg (Jd rfl) rfl (Jf (Ja (hK1 (Je fun _ hK2 _=>(Jb (Jg (Jc rfl) rfl (Jg (JK rfl) rfl (Jg (Jq u93 rfl sz50 rfl) rfl (Jg (JL (q:=some ⟨bc,0,none⟩) (k:=0) rfl pc0 pl50) rfl (Jg (JK rfl) rfl (Jg (Jq u32 rfl sz22 rfl) rfl (Jg (JL (q:=some ⟨bca,0,none⟩) (k:=0) rfl pcad pl22) rfl (Jg (Jc rfl) rfl ?_)))))))))))))));refine Jz fn74 rfl rfl fun w hH=>(monomials_c (most:=120) hcad hd h8 (by omega) (by omega) hH).mono ?_;rintro _ w ⟨qo16,co16,rfl,hH⟩;refine ⟨_,rfl,fun a hF=>JT hF hH ?_⟩;refine Jg (Jc rfl) rfl (Jg (JI rfl rfl) rfl (Jg (JI rfl rfl) rfl (Jg (Jd rfl) rfl (Jg (Jd rfl) rfl (Jf (Ja (hK2 (Je fun _ hK3 _=>(Jb (Jg (Jc rfl) rfl (Jg (Jd rfl) rfl (Jf (Ja (hK3 (Jp (Jk rfl (Res.tmp rfl) fun w hH=>?_))))))))))))))));replace hH:=hH.tail;exact ⟨rfl,hH⟩
theorem around_c {B:World} {H0 H:HP} {L:List SA} {w:World} {bc lc:Nat} {bca:Nat} {qcad qcaf:Option Addr} {ccad ccaf:Nat} {cad:List Int} {caf:List (List Term)} {qns:Option Addr} {cns:Nat} {ns:List Int} (pc0:CellAt H bc 0 (.pointer (some ⟨bca,0,none⟩))) (pc1:CellAt H bc 1 (.map (some lc))) (pcad:CellAt H bca 0 (.slice qcad cad.length ccad)) (pcaf:CellAt H bca 1 (.slice qcaf caf.length ccaf)) (hcad:Ints H qcad cad) (hcaf:Forms H qcaf caf) (hns:Ints H qns ns) (hd : ∀j,j<cad.length→1≤cad.getD j 0∧cad.getD j 0≤12) (h8:cad.length≤8) (hn : ∀i,i<ns.length→ -99999≤ns.getD i 0∧ns.getD i 0≤99999) (hnl:ns.length≤1000) (hH:Hp B H0 H L w):Calls Try.prog 48 [.pointer (some ⟨bc,0,none⟩),.slice qns ns.length cns].toArray w fun e w'=>e = .returned (.int .i64 (arC cad ns))∧Hp B H0 H L w':=by
 refine Jt Try.func48 rfl 32 rfl rfl [(0,.pointer (some ⟨bc,0,none⟩)),(1,.slice qns ns.length cns)] rfl hH ?_;clear hH;refine Je fun _ hK1 _=>(Jb (Jg (Jd rfl) rfl (Jf (Ja (hK1 (Je fun _ hK2 _=>(Je fun _ hK3 _=>(Jb (Jg (Jc rfl) rfl (Jg (Jn u22 rfl rfl) rfl (Jg (Jc rfl) rfl (Jf (Ja (hK3 (Jm (JC (σ:=Nat) (fun (i:Nat)=>[(9,.int .i64 (i:Int))]) (fun (i:Nat)=>H) (fun (i:Nat)=>L) (fun (i:Nat)=>i≤ns.length∧∀j,j<i→arB cad (ns.getD j 0)=true) (fun (i:Nat)=>ns.length - i) 0 ⟨by omega,fun j hj=>by omega⟩ ⟨rfl,trivial⟩ rfl rfl ?_))))))))))))))));rintro i ⟨hi,hI⟩ _ hAg0;refine Je fun _ hK4 _=>(Jb (Jg (JM rfl rfl) rfl (Jf (Ja (hK4 (Je fun _ hK5 _=>(Jl rfl (fun h10=>?_) (fun h10=>?_))))))))
 ·
  have hnn:=hn i (by omega);refine Jj (Ja (hK5 (Je fun _ hK6 _=>(Jm (Je fun _ hK7 _=>(Jb (Jg (JY u22 sz2 rfl rfl rfl (by omega) hns.sm) rfl (Jg (JL rfl (hns _ (by omega)) pl2) rfl (Jg (Jd rfl) rfl (Jf (Ja (hK7 (Je fun _ hK8 _=>(Jb (Jg (Jc rfl) rfl (Jg (Jc rfl) rfl ?_))))))))))))))));refine Jg (PR.sub rfl rfl (nw _ (by omega))) rfl (Jz fn73 rfl rfl fun w hH=>(fits_c pc0 pc1 pcad pcaf hcad hcaf hd h8 (by omega) hH).mono ?_);rintro _ w ⟨rfl,hH⟩;refine ⟨_,rfl,fun a hF=>JT hF hH ?_⟩;refine Jg (Ei rfl) rfl (Jg (Jc rfl) rfl (Eg (jd:=18) rfl (fun hg18=>?_) (fun hg18=>?_)))
  ·
   try have hg18p:=of_decide_eq_true hg18
   refine JO rfl rfl rfl hg18 (JO rfl rfl rfl hg18 (JO rfl rfl rfl hg18 (JO rfl rfl rfl hg18 (Jg (JX rfl hg18 rfl) rfl (Jg (Jc rfl) rfl (JO rfl rfl rfl rfl (JO rfl rfl rfl rfl (JO rfl rfl rfl rfl (JO rfl rfl rfl rfl (JO rfl rfl rfl rfl (Jg (JX rfl rfl rfl) rfl (Jf (Ja (hK8 (El rfl ?_)))))))))))))));refine Je fun _ hK9 _=>(Jb (Jg (Jd rfl) rfl (Jf (Ja (hK9 (Jp (JJ (Jh (Jh (JJ (Jh (Jk rfl (Res.tmp rfl) fun w hH=>?_))))))))))));exact ⟨by rw [arC_no (i:=i) (by omega) (arB_1 hg18)],hH⟩
  ·
   try have hg18p:=of_decide_eq_false hg18
   refine JU (Jc rfl) rfl rfl rfl hg18 (JU (Jc rfl) rfl rfl rfl hg18 (EE fn73 rfl rfl hg18 rfl rfl fun w hH=>(fits_c pc0 pc1 pcad pcaf hcad hcaf hd h8 (by omega) hH).mono ?_));rintro _ w ⟨rfl,hH⟩;refine ⟨_,rfl,fun a hF=>JT hF hH ?_⟩;refine JU (Ei rfl) rfl rfl rfl hg18 (Jg (JV rfl hg18 rfl) rfl (Jg (Jc rfl) rfl (Eg (jd:=24) rfl (fun hg24=>?_) (fun hg24=>?_))))
   ·
    try have hg24p:=of_decide_eq_true hg24
    refine JO rfl rfl rfl hg24 (JO rfl rfl rfl hg24 (JO rfl rfl rfl hg24 (JO rfl rfl rfl hg24 (JO rfl rfl rfl hg24 (Jg (JX rfl hg24 rfl) rfl (Jf (Ja (hK8 (El rfl (Je fun _ hK10 _=>(Jb (Jg (Jd rfl) rfl (Jf (Ja (hK10 (Jp ?_))))))))))))))));refine JJ (Jh (Jh (JJ (Jh (Jk rfl (Res.tmp rfl) fun w hH=>?_)))));exact ⟨by rw [arC_no (i:=i) (by omega) (arB_2 hg24)],hH⟩
   ·
    try have hg24p:=of_decide_eq_false hg24
    refine JU (Jc rfl) rfl rfl rfl hg24 (JU (Jc rfl) rfl rfl rfl hg24 (JU (JA rfl rfl (nw _ (by omega))) rfl rfl rfl hg24 (EE fn73 rfl rfl hg24 rfl rfl fun w hH=>(fits_c pc0 pc1 pcad pcaf hcad hcaf hd h8 (by omega) hH).mono ?_)));rintro _ w ⟨rfl,hH⟩;refine ⟨_,rfl,fun a hF=>JT hF hH ?_⟩;refine JU (Ei rfl) rfl rfl rfl hg24 (Jg (JV rfl hg24 rfl) rfl (Jf (Ja (hK8 (Eh rfl (fun h30=>?_) (fun h30=>?_))))))
    ·
     refine Je fun _ hK11 _=>(Jb (Jg (Jd rfl) rfl (Jf (Ja (hK11 (Jp (JJ (Jh (Jh (JJ (Jh (Jk rfl (Res.tmp rfl) fun w hH=>?_))))))))))));exact ⟨by rw [arC_no (i:=i) (by omega) (arB_3 h30)],hH⟩
    ·
     refine Jj (JE (Ja (hK6 (Jb (Jg (JA rfl rfl (by first | exact nw _ (by omega) | rfl)) rfl (Jg (Jc rfl) rfl (Jf (Ja ?_))))))));exact hAg0 (i+1) ⟨by omega,upto hI (arB_y hg18 hg24 h30)⟩ (by show ns.length - (i+1)<ns.length - i;omega) 25 rfl rfl ⟨rfl,trivial⟩ rfl rfl
 ·
  refine JG (Ji (Ji (JN (Ja (hK2 (Je fun _ hK12 _=>(Jb (Jg (Jd rfl) rfl (Jf (Ja (hK12 (Jp (Jk rfl (Res.tmp rfl) fun w hH=>?_)))))))))))));exact ⟨by rw [arC_yes (fun j hj=>hI j (by omega))],hH⟩
structure Sl where
 q:Option Addr
 k:Nat
 c:Nat
structure Lv where
 b:Nat
 p:Nat
 l:Sl
 m:Sl
 z:Sl
 d:Sl
 s:Sl
abbrev Lv.cells (x:Lv):List Value:=[.slice x.l.q x.l.k x.l.c,.map (some x.p),.slice x.m.q x.m.k x.m.c,.slice x.z.q x.z.k x.z.c,.slice x.d.q x.d.k x.d.c,.slice x.s.q x.s.k x.s.c]
abbrev lvB (x:Lv):SA:=obj x.b (.cells x.cells.toArray 55 (0,0))
def lvO:List (Int × Lv)→SA
 | []=>emp
 | x::xs=>star (lvB x.2) (lvO xs)
abbrev ekI (n:Int):Value:=.int .i64 n
abbrev evB (b:Nat):Value:=.pointer (some ⟨b,0,none⟩)
def okI (n:Int):Prop:=-9223372036854775808≤n∧n≤9223372036854775807
def lvK (ls:List (Int × Lv)):List (Int × Nat):=ls.map fun x=>(x.1,x.2.b)
abbrev lvM (lb:Nat) (xs:List (Int × Nat)):SA:=omap ekI evB okI lb xs
def cpx (lb:Nat) (ls:List (Int × Lv)):SA:=star (lvM lb (lvK ls)) (lvO ls)
section
variable {P : Program} {ops : Array Oper} {Q : Exit → Act → World → Prop} {n : Nat} {B : World} {H0 H : HP} {rest : List Oper} {us : List (Nat × Value)} {L L' : List SA} {t : TypeId} {p : String} {af : Array Edge} {d : Nat} {x y : Operand} {w : World}
theorem Hp.lvPerm {ls ls':List (Int × Lv)} (hp:ls.Perm ls') : ∀{L:List SA},Hp B H0 H (lvO ls::L) w→Hp B H0 H (lvO ls'::L) w:=by
 induction hp with
 | nil=>exact fun h=>h
 | cons x _ ih=>exact fun h=>((ih (h.unstar.front (.s .z))).front (.s .z)).star
 | swap x y l=>exact fun h=>
  have h1:=(h.unstar.front (.s .z)).unstar
  (((h1.front (.s .z)).front (.s (.s .z))).star.front (.s .z)).star
 | trans _ _ ih1 ih2=>exact fun h=>ih2 (ih1 h)
theorem Hp.lvmPerm {lb:Nat} {xs ys:List (Int × Nat)} (hp:xs.Perm ys) (h:Hp B H0 H (lvM lb xs::L) w):Hp B H0 H (lvM lb ys::L) w:=by
 obtain ⟨es,clock,h1,h2⟩:=(h.objs (lvM lb xs) (by simp)).1;exact h.reAt .z ⟨es,clock,h1,h2.perm hp⟩ fun b hb=>hb
theorem Hp.lvOut {lb:Nat} {ls rest:List (Int × Lv)} {x:Int × Lv} (hp:ls.Perm (x::rest)) (h:Hp B H0 H (cpx lb ls::L) w):Hp B H0 H (lvB x.2::lvO rest::lvM lb ((x.1,x.2.b)::lvK rest)::L) w:=by
 have h1:=(h.unstar.front (.s .z)).lvPerm hp;have h2:=h1.unstar;have h3:=(h2.front (.s (.s .z))).lvmPerm (hp.map fun x=>(x.1,x.2.b));exact (h3.front (.s (.s .z))).front (.s (.s .z))
theorem Hp.lvIn {lb:Nat} {rest:List (Int × Lv)} {x:Int × Lv} (h:Hp B H0 H (lvB x.2::lvO rest::lvM lb ((x.1,x.2.b)::lvK rest)::L) w):Hp B H0 H (cpx lb (x::rest)::L) w:=
 (h.star.front (.s .z)).star
end
theorem lvK_mem {ls:List (Int × Lv)} {n:Int} {b:Nat} (h:look (lvK ls) n=some b) : ∃x,(n,x)∈ls∧x.b=b:=by
 unfold look at h;obtain ⟨y,h1,h2⟩:=Option.map_eq_some_iff.1 h;have h3:=List.mem_of_find?_eq_some h1;have h4:=List.find?_some h1;obtain ⟨z,hz,rfl⟩:=List.mem_map.1 h3;obtain ⟨k,x⟩:=z
 have h5:k=n:=by simpa using h4
 subst h5;exact ⟨x,hz,h2⟩
theorem lvK_not {ls:List (Int × Lv)} {n:Int} (h:look (lvK ls) n=none) : ∀x∈ls,x.1≠n:=fun x hx e=>by
 unfold look at h
 have h1:=Option.map_eq_none_iff.1 h
 have:=List.find?_eq_none.1 h1 (x.1,x.2.b) (List.mem_map.2 ⟨x,hx,rfl⟩)
 simp [e] at this
theorem lvK_put {ls:List (Int × Lv)} {n:Int} {b:Nat} (h:look (lvK ls) n=none):putM (lvK ls) n b=(n,b)::lvK ls:=by
 unfold putM
 congr 1
 refine List.filter_eq_self.2 fun y hy=>?_;obtain ⟨x,hx,rfl⟩:=List.mem_map.1 hy
 simpa using lvK_not h x hx
def plM (ps:List Pw):Sm:=ps.zipIdx.map fun x=>(x.1,(x.2:Int))
theorem plM_snoc (ps:List Pw) (p:Pw):plM (ps++[p])=plM ps++[(p,(ps.length:Int))]:=by
 unfold plM;rw [List.zipIdx_append,List.map_append]
 simp
theorem plM_keys (ps:List Pw):(plM ps).map (·.1)=ps:=by
 unfold plM;rw [List.map_map]
 conv=>rhs;rw [← List.zipIdx_map_fst 0 ps]
 rfl
theorem plM_put {ps:List Pw} {p:Pw} {v:Int} (hv:v=(ps.length:Int)) (h:p ∉ ps):(putM (plM ps) p v).Perm (plM (ps++[p])):=by
 subst hv;rw [plM_snoc];unfold putM;rw [List.filter_eq_self.2 fun y hy=>?_]
 ·exact List.perm_append_comm (l₁:=[_])
 ·have:y.1∈ps:=by rw [← plM_keys ps];exact List.mem_map.2 ⟨y,hy,rfl⟩
  simp only [decide_eq_true_eq];exact fun e=>h (e ▸ this)
theorem plM_at {ps:List Pw} (hn:ps.Nodup) {i:Nat} (hi:i<ps.length):look (plM ps) (rw_ ps i)=some (i:Int):=by
 refine look_some (by rw [plM_keys];exact hn) ?_;unfold plM;refine List.mem_map.2 ⟨(ps[i],i),?_,?_⟩
 ·exact List.mem_zipIdx_iff_getElem?.2 (by simp)
 ·have:rw_ ps i=ps[i]:=by simp [rw_,List.getD_eq_getElem?_getD,List.getElem?_eq_getElem hi]
  rw [this]
def monL (ds:List Int) (n:Int):List Pw:=(monS ds n).take 121
theorem monL_fit {ds:List Int} {n:Int} (h:fitB ds n=true):monL ds n=monS ds n:=List.take_of_length_le (by have:=of_decide_eq_true h;omega)
theorem monL_8 {ds:List Int} {n:Int} (h8:ds.length≤8) : ∀p∈monL ds n,p.length=8:=fun p hp=>(enumF_mem (by omega) rfl (List.mem_of_mem_take hp)).1
theorem mon_8 {ds:List Int} {n:Int} {m:Nat} (h8:ds.length≤8) : ∀p∈(monS ds n).take m,p.length=8:=fun p hp=>(enumF_mem (by omega) rfl (List.mem_of_mem_take hp)).1
theorem mon_small {ds:List Int} {n:Int} (h8:ds.length≤8) {p:Pw} (hp:p∈monS ds n):pwOk p:=by
 have h:=enumF_mem (by omega) rfl hp;refine ⟨h.1,fun j=>?_⟩
 by_cases hj:j<ds.length
 ·have:=h.2.2.1 j hj;rw [Nat.zero_add] at this
  omega
 ·have:=h.2.1 j (.inr (by omega));rw [this,show zP=List.replicate 8 0 from rfl,rep_get];omega
theorem mon_nodup (ds:List Int) (n:Int) (h8:ds.length≤8):(monS ds n).Nodup:=by
 refine (enumF_srt (by omega) rfl).imp fun h e=>?_;subst e;rw [before_irr] at h
 cases h
theorem mon_fresh {ds:List Int} {n:Int} {m k:Nat} (h8:ds.length≤8) (hk:k<((monS ds n).take m).length):rw_ ((monS ds n).take m) k ∉ ((monS ds n).take m).take k:=fun h=>by
 have hn:=(List.take_sublist m (monS ds n)).nodup (mon_nodup ds n h8)
 have hk':=hk
 have e:rw_ ((monS ds n).take m) k=((monS ds n).take m)[k]:=by simp [rw_,List.getD_eq_getElem?_getD,List.getElem?_eq_getElem hk']
 rw [e] at h
 obtain ⟨j,hj,hje⟩:=List.getElem_of_mem h
 rw [List.getElem_take] at hje
 rw [List.length_take] at hj
 have:=(List.getElem_inj hn).1 hje
 omega
theorem kI:KeyT Try.prog 2 ekI okI:=KeyT.of (Go.Maps.int_keyed u2) (fun x y h=>by injection h) fun x hx=>⟨_,Go.Maps.keyOf_int_mk u2 (by
 obtain ⟨h1,h2⟩:=hx
 simp [Lit.wf,IntKind.min,IntKind.max,IntKind.signed,IntKind.bits]
 omega)⟩
def matS (ds:List Int) (fs:List (List Term)) (n:Int):List (List Int):=(monL ds n).map fun p=>(monL ds (n+1)).map (cf (dS ds fs [(p,1)]))
def clS (ds:List Int) (fs:List (List Term)) (n:Int):List (List Int):=kerS (matS ds fs n) (monL ds (n+1)).length
def bdS (ds:List Int) (fs:List (List Term)) (n:Int):List (List Int):=if 0<n then redS (matS ds fs (n - 1)) else []
def csS (ds:List Int) (fs:List (List Term)) (n:Int):List (List Int):=redS ((clS ds fs n).map fun r=>byS r (bdS ds fs n))
def fit2 (ds:List Int) (n:Int):Prop:=fitB ds n=true∧fitB ds (n+1)=true
def fit3 (ds:List Int) (n:Int):Prop:=fit2 ds n∧(0<n→fitB ds (n - 1)=true)
structure Lv1 (H:HP) (ds:List Int) (n:Int) (x:Lv):Prop where
 len:x.l.k=(monL ds n).length
 pw:Pows H x.l.q (monL ds n)
 pl:SumH H (.map (some x.p)) (plM (monL ds n))
 z:n≤0→x.d.k=0
def SlIs (H:HP) (s:Sl) (rs:List (List Int)):Prop:=s.k=rs.length∧RowsR H s.q rs
theorem SlIs.le {H H':HP} {s:Sl} {rs:List (List Int)} (h:SlIs H s rs) (hle:Le H H'):SlIs H' s rs:=⟨h.1,h.2.le hle⟩
def Lv2 (H:HP) (ds:List Int) (fs:List (List Term)) (n:Int) (x:Lv):Prop:=SlIs H x.m (matS ds fs n)
def Lv3 (H:HP) (ds:List Int) (fs:List (List Term)) (n:Int) (x:Lv):Prop:=SlIs H x.z (clS ds fs n)∧SlIs H x.d (bdS ds fs n)∧SlIs H x.s (csS ds fs n)
structure LvOk (H:HP) (ds:List Int) (fs:List (List Term)) (X:Int→Prop) (n:Int) (x:Lv):Prop where
 one:Lv1 H ds n x
 two : ¬X n→x.m.q.isSome=true→fit2 ds n→Lv2 H ds fs n x
 three : ¬X n→x.z.q.isSome=true→fit3 ds n→Lv3 H ds fs n x
theorem Lv1.le {H H':HP} {ds:List Int} {n:Int} {x:Lv} (h:Lv1 H ds n x) (hle:Le H H'):Lv1 H' ds n x:=⟨h.len,h.pw.le hle,h.pl.le hle,h.z⟩
theorem Lv2.le {H H':HP} {ds:List Int} {fs:List (List Term)} {n:Int} {x:Lv} (h:Lv2 H ds fs n x) (hle:Le H H'):Lv2 H' ds fs n x:=SlIs.le h hle
theorem Lv3.le {H H':HP} {ds:List Int} {fs:List (List Term)} {n:Int} {x:Lv} (h:Lv3 H ds fs n x) (hle:Le H H'):Lv3 H' ds fs n x:=⟨h.1.le hle,h.2.1.le hle,h.2.2.le hle⟩
theorem LvOk.le {H H':HP} {ds:List Int} {fs:List (List Term)} {X:Int→Prop} {n:Int} {x:Lv} (h:LvOk H ds fs X n x) (hle:Le H H'):LvOk H' ds fs X n x:=⟨h.one.le hle,fun h0 h1 h2=>(h.two h0 h1 h2).le hle,fun h0 h1 h2=>(h.three h0 h1 h2).le hle⟩
structure CpxOk (H:HP) (ds:List Int) (fs:List (List Term)) (X:Int→Prop) (ls:List (Int × Lv)):Prop where
 nd:(ls.map (·.1)).Nodup
 ok : ∀x∈ls,LvOk H ds fs X x.1 x.2
theorem CpxOk.le {H H':HP} {ds:List Int} {fs:List (List Term)} {X:Int→Prop} {ls:List (Int × Lv)} (h:CpxOk H ds fs X ls) (hle:Le H H'):CpxOk H' ds fs X ls:=⟨h.nd,fun x hx=>(h.ok x hx).le hle⟩
theorem CpxOk.nil {H:HP} {ds:List Int} {fs:List (List Term)} {X:Int→Prop}:CpxOk H ds fs X []:=⟨by simp,fun x hx=>by simp at hx⟩
theorem CpxOk.cons {H:HP} {ds:List Int} {fs:List (List Term)} {X:Int→Prop} {ls:List (Int × Lv)} {n:Int} {x:Lv} (h:CpxOk H ds fs X ls) (hn : ∀y∈ls,y.1≠n) (hx:LvOk H ds fs X n x):CpxOk H ds fs X ((n,x)::ls):=
 ⟨by rw [List.map_cons,List.nodup_cons];exact ⟨fun hm=>by obtain ⟨y,hy,e⟩:=List.mem_map.1 hm;exact hn y hy e,h.nd⟩,fun y hy=>by
  rcases List.mem_cons.1 hy with rfl | hy
  ·exact hx
  ·exact h.ok y hy⟩
def Nxt (X:Int→Prop) (ls:List (Int × Lv)):Prop:=∀x∈ls,¬X x.1→x.2.m.q.isSome=true→x.1+1∈ls.map (·.1)
theorem Nxt.nil (X:Int→Prop):Nxt X []:=fun x hx=>by simp at hx
theorem Nxt.perm {X:Int→Prop} {ls ls':List (Int × Lv)} (h:Nxt X ls) (hp:ls.Perm ls'):Nxt X ls':=fun x hx hn hm=>(hp.map _).subset (h x (hp.symm.subset hx) hn hm)
theorem Nxt.fresh {X:Int→Prop} {ls:List (Int × Lv)} {n:Int} {x:Lv} (h:Nxt X ls) (hx:x.m.q=none):Nxt X ((n,x)::ls):=fun y hy hn hm=>by
 rcases List.mem_cons.1 hy with rfl | hy
 ·rw [hx] at hm
  cases hm
 ·exact List.mem_cons_of_mem _ (h y hy hn hm)
theorem Nxt.swap {X Y:Int→Prop} {ls:List (Int × Lv)} {n:Int} {x x':Lv} (h:Nxt X ((n,x)::ls)) (hne : ∀z∈ls,z.1≠n) (hXY : ∀m,¬Y m→m≠n→¬X m) (hx : ¬Y n→x'.m.q.isSome=true→n+1∈n::ls.map (·.1)):Nxt Y ((n,x')::ls):=fun y hy hn hm=>by
 rcases List.mem_cons.1 hy with rfl | hy
 ·exact hx hn hm
 ·exact h y (List.mem_cons_of_mem _ hy) (hXY _ hn (hne y hy)) hm
theorem CpxOk.out {H:HP} {ds:List Int} {fs:List (List Term)} {X:Int→Prop} {ls:List (Int × Lv)} {n:Int} {x:Lv} (h:CpxOk H ds fs X ls) (hx:(n,x)∈ls) : ∃rest,ls.Perm ((n,x)::rest)∧CpxOk H ds fs X rest∧(∀y∈rest,y.1≠n)∧LvOk H ds fs X n x:=by
 obtain ⟨l1,l2,rfl⟩:=List.append_of_mem hx;have hp:(l1++(n,x)::l2).Perm ((n,x)::(l1++l2)):=List.perm_middle;have hnd:=(hp.map (·.1)).nodup_iff.1 h.nd;rw [List.map_cons,List.nodup_cons] at hnd;exact ⟨l1++l2,hp,⟨hnd.2,fun y hy=>h.ok y (hp.symm.subset (by simp only [List.mem_cons];exact .inr hy))⟩,fun y hy e=>hnd.1 (List.mem_map.2 ⟨y,hy,e⟩),h.ok _ hx⟩
theorem monL_len (ds:List Int) (n:Int):(monL ds n).length≤121:=by unfold monL;rw [List.length_take];omega
theorem monL_fresh {ds:List Int} {n:Int} {k:Nat} (h8:ds.length≤8) (hk:k<(monL ds n).length):rw_ (monL ds n) k ∉ (monL ds n).take k:=mon_fresh h8 hk
theorem monL_small {ds:List Int} {n:Int} {k:Nat} (h8:ds.length≤8) (hk:k<(monL ds n).length):pwOk (rw_ (monL ds n) k):=mon_small h8 (List.mem_of_mem_take (rw_mem hk))
theorem mon121_c {B:World} {H0 H:HP} {L:List SA} {w:World} {qds:Option Addr} {cds:Nat} {ds:List Int} {n:Int} (hds:Ints H qds ds) (hd : ∀j,j<ds.length→1≤ds.getD j 0∧ds.getD j 0≤12) (h8:ds.length≤8) (hn : -1000000≤n∧n≤1000000) (hH:Hp B H0 H L w) :
 Calls Try.prog 74 [.slice qds ds.length cds,.int .i64 n,.int .i64 120].toArray w fun e w'=>∃q c,e = .returned (.tuple #[.slice q (monL ds n).length c,.bool (fitB ds n)])∧Hp B H0 H (own 87 8 q (monL ds n).length c (psC (monL ds n))::L) w':=monomials_c (most:=120) hds hd h8 hn (by omega) hH
theorem u53:Try.prog.underlying 53=some (TypeDesc.map 87 3):=by kernel_rfl
theorem u55:Try.prog.underlying 55=some (TypeDesc.struct #[{name:="list",type:=52,offset:=0,embedded:=false,tag:="",pkgPath:="loop.example/g01219/impl",byteOffset:=0},{name:="place",type:=53,offset:=1,embedded:=false,tag:="",pkgPath:="loop.example/g01219/impl",byteOffset:=24},{name:="matrix",type:=27,offset:=2,embedded:=false,tag:="",pkgPath:="loop.example/g01219/impl",byteOffset:=32},{name:="closed",type:=27,offset:=3,embedded:=false,tag:="",pkgPath:="loop.example/g01219/impl",byteOffset:=56},{name:="boundaries",type:=27,offset:=4,embedded:=false,tag:="",pkgPath:="loop.example/g01219/impl",byteOffset:=80},{name:="classes",type:=27,offset:=5,embedded:=false,tag:="",pkgPath:="loop.example/g01219/impl",byteOffset:=104}]):=by kernel_rfl
theorem u91:Try.prog.underlying 91=some (TypeDesc.map 2 56):=by kernel_rfl
theorem sz53:Size Try.prog 53 1:=by unfold Size;kernel_rfl
theorem sz91:Size Try.prog 91 1:=by unfold Size;kernel_rfl
theorem zv56:ZeroV Try.prog 56 (.pointer none):=fun _=>by kernel_rfl
theorem pl53:Plain Try.prog 53:=⟨_,u53,rfl⟩
theorem pl91:Plain Try.prog 91:=⟨_,u91,rfl⟩
theorem bd55_1 : ∀(b1:Nat) w,(Instr.build 55 #[(1,.map (some b1))]).run Try.prog w = .ok (.agg [.slice none 0 0,.map (some b1),.slice none 0 0,.slice none 0 0,.slice none 0 0,.slice none 0 0].toArray) w:=fun b1 _=>by kernel_rfl
theorem bareX_c {B:World} {H0 H:HP} {L:List SA} {w:World} {bc lc:Nat} {bca:Nat} {qcad qcaf:Option Addr} {ccad ccaf:Nat} {cad:List Int} {caf:List (List Term)} {n:Int} {ls:List (Int × Lv)} {X:Int→Prop} (pc0:CellAt H bc 0 (.pointer (some ⟨bca,0,none⟩))) (pc1:CellAt H bc 1 (.map (some lc))) (pcad:CellAt H bca 0 (.slice qcad cad.length ccad)) (pcaf:CellAt H bca 1 (.slice qcaf caf.length ccaf)) (hcad:Ints H qcad cad) (hcaf:Forms H qcaf caf) (hd : ∀j,j<cad.length→1≤cad.getD j 0∧cad.getD j 0≤12) (h8:cad.length≤8) (hn : -1000000≤n∧n≤1000000) (hC:CpxOk H cad caf X ls) (hH:Hp B H0 H (lvM lc (lvK ls)::lvO ls::L) w):Calls Try.prog 50 [.pointer (some ⟨bc,0,none⟩),.int .i64 n].toArray w fun e w'=>∃H' ls' x,Le H H' ∧CpxOk H' cad caf X ls' ∧(n,x)∈ls' ∧(∀y∈ls,y∈ls')∧(∀Y,Nxt Y ls→Nxt Y ls')∧e = .returned (.pointer (some ⟨x.b,0,none⟩))∧Hp B H0 H' (cpx lc ls'::L) w':=by
 refine Jt Try.func50 rfl 63 rfl rfl [(0,.pointer (some ⟨bc,0,none⟩)),(1,.int .i64 n)] rfl hH ?_;clear hH;refine Je fun _ hK1 _=>(Jb (Jg (Jd rfl) rfl (Jf (Ja (hK1 (Je fun _ hK2 _=>(Je fun _ hK3 _=>(Jb (Jg (Jc rfl) rfl (Jg (JK rfl) rfl (Jg (Jq u93 rfl sz91 rfl) rfl (Jg (JL (q:=some ⟨bc,0,none⟩) (k:=1) rfl pc1 pl91) rfl (Jg (Jc rfl) rfl (Jg (PR.lookO2 u91 kI zv56 rfl At.z rfl ⟨by omega,by omega⟩) rfl (Jg (Jc rfl) rfl ?_)))))))))))))));refine Jg (JI rfl rfl) rfl (Jg (JI rfl rfl) rfl (Jg (Jd rfl) rfl (Jg (Jd rfl) rfl (Jf (Ja (hK3 (Je fun _ hK4 _=>(Jb (Jg (Jc rfl) rfl (Jf (Ja (hK4 (Eh rfl (fun h19=>?_) (fun h19=>?_))))))))))))))
 ·
  refine Je fun _ hK5 _=>(Jb (Jg (Jc rfl) rfl (Jg (Jd rfl) rfl (Jf (Ja (hK5 (Jp (Jh (Jk rfl (Res.tmp rfl) fun w hH=>?_)))))))));replace hH:=hH.sublist (.cons_cons _ (.cons_cons _ (List.Sublist.refl _)));obtain ⟨b,hb⟩:=Option.isSome_iff_exists.1 h19;obtain ⟨x,hx,rfl⟩:=lvK_mem hb;exact ⟨_,ls,x,(Le.refl _),hC,hx,fun y hy=>hy,fun _ h=>h,by rw [hb];rfl,hH.star⟩
 ·
  refine Jj (Ja (hK2 (Je fun _ hK6 _=>(Jb (EG pwE (Value.int .i64) pwOk rfl fun bm21=>(Jg (PR.build1 rfl (fun w=>bd55_1 _ w)) rfl (Eb rfl rfl rfl fun g23=>(Jg (Jd rfl) rfl (Jf (Ja (hK6 (Je fun _ hK7 _=>(Jb (Jg (Jc rfl) rfl (Jg (Jc rfl) rfl (Jg (JK rfl) rfl ?_))))))))))))))));refine Jg (Jq u93 rfl sz50 rfl) rfl (Jg (JL (q:=some ⟨bc,0,none⟩) (k:=0) rfl pc0 pl50) rfl (Jg (JK rfl) rfl (Jg (Jq u32 rfl sz22 rfl) rfl (Jg (JL (q:=some ⟨bca,0,none⟩) (k:=0) rfl pcad pl22) rfl (Jg (Jc rfl) rfl (Jz fn74 rfl rfl fun w hH=>(mon121_c hcad hd h8 (by omega) hH).mono ?_))))));rintro _ w ⟨qo34,co34,rfl,hH⟩;refine ⟨_,rfl,fun a hF=>JT hF hH ?_⟩;refine J.fixA .z fun Ho34 hleo34 hAo34=>?_;replace pc0:=pc0.le hleo34;replace pc1:=pc1.le hleo34;replace pcad:=pcad.le hleo34;replace pcaf:=pcaf.le hleo34;replace hcad:=hcad.le hleo34;replace hcaf:=hcaf.le hleo34;replace hC:=hC.le hleo34;have hxo34:=own_pows (monL_8 h8) hAo34;have hco34:=own_le hAo34;refine Jg (Jc rfl) rfl (Jg (JI rfl rfl) rfl (Jg (JI rfl rfl) rfl (Jg (JK rfl) rfl (Jg (Jq u55 rfl sz52 rfl) rfl (Et rfl rfl rfl rfl sz52 (by simp [*]) At.z (Jf (Ja (hK7 (Je fun _ hK8 _=>(Je fun _ hK9 _=>(Jb (Jg (Jc rfl) rfl (Jg (JK rfl) rfl (Jg (Jq u55 rfl sz52 rfl) rfl (Jg (Jr rfl At.z rfl pl52) rfl ?_)))))))))))))));refine Jg (Jn u52 rfl rfl) rfl (Jg (Jc rfl) rfl (Jf (Ja (hK9 (Jm (JC (σ:=Nat) (fun (k:Nat)=>[(44,.int .i64 (k:Int))]) (fun (k:Nat)=>Ho34) (fun (k:Nat)=>obj g23 (.cells [.slice qo34 (monL cad n).length co34,.map (some bm21),.slice none 0 0,.slice none 0 0,.slice none 0 0,.slice none 0 0].toArray 55 (0,0))::osum bm21 (plM ((monL cad n).take k))::lvM lc (lvK ls)::lvO ls::L) (fun (k:Nat)=>k≤(monL cad n).length) (fun (k:Nat)=>(monL cad n).length - k) 0 (by omega) ⟨rfl,trivial⟩ rfl rfl ?_))))));rintro k hk _ hAg0;refine Je fun _ hK10 _=>(Jb (Jg (JM rfl rfl) rfl (Jf (Ja (hK10 (Je fun _ hK11 _=>(Jl rfl (fun h45=>?_) (fun h45=>?_))))))))
  ·
   have hml:=monL_len cad n
   have hk1:k<(monL cad n).length:=by omega
   have h8r:=hxo34.len _ hk1;refine Jj (Ja (hK11 (Je fun _ hK12 _=>(Jm (Je fun _ hK13 _=>(Jb (Jg (Jc rfl) rfl (Jg (Ej u52 sz87 rfl rfl rfl hk1 hxo34.sm) rfl (Jg (JH rfl (hxo34.cell _ hk1) (hxo34.sm (i:=k) hk1) (by rw [intsC_length,hxo34.len _ hk1];exact ag87)) rfl (JW ze87 rfl fun g9=>(Jg (Jd rfl) rfl (JF rfl rfl (by first | exact bytesC_one _ | exact intsC_one _ | exact Term.c_one _ | simp [Value.oneCell']) (by simpa [*] using sz87) (by simp [*]) At.z (Jf (Ja (hK13 (Ey (Rs:=[_,_,_,_,_]) 7 [[], [0], [0,1], [0,1,2], [], [], [0,1,2,3,4,5]] [[], [], [], [8], [7], [], []] [[], [], [], [], [], [], [9]] rfl rfl (by kernel_rfl) ?_))))))))))))))));apply Jy 1 rfl
   iterate 3 focus (intros;(conv=>lhs;simp only [Jo,JB,Ee,JD,JR,eq_self,Nat.reduceEqDiff,reduceIte,Nat.reduceSub,Nat.reduceAdd,List.cons_append,List.nil_append]);all_goals rfl)
   ·
    intro gh X K zq zc zq2 zc2 zb zv hK;refine Jg (Jc rfl) rfl (Js ?_);exact hK zq zc zq2 zc2 zb zv
   ·
    intro gh gh' h
    rfl
   apply Jy 2 rfl
   iterate 3 focus (intros;(conv=>lhs;simp only [Jo,JB,Ee,JD,JR,eq_self,Nat.reduceEqDiff,reduceIte,Nat.reduceSub,Nat.reduceAdd,List.cons_append,List.nil_append]);all_goals rfl)
   ·
    intro gh X K zq zc zq2 zc2 zb zv hK;refine Jg (JK rfl) rfl (Js ?_);exact hK zq zc zq2 zc2 zb zv
   ·
    intro gh gh' h
    rfl
   apply Jy 3 rfl
   iterate 3 focus (intros;(conv=>lhs;simp only [Jo,JB,Ee,JD,JR,eq_self,Nat.reduceEqDiff,reduceIte,Nat.reduceSub,Nat.reduceAdd,List.cons_append,List.nil_append]);all_goals rfl)
   ·
    intro gh X K zq zc zq2 zc2 zb zv hK;refine Jg (Jq u55 rfl sz53 rfl) rfl (Js ?_);exact hK zq zc zq2 zc2 zb zv
   ·
    intro gh gh' h
    rfl
   apply Jy 4 rfl
   iterate 3 focus (intros;(conv=>lhs;simp only [Jo,JB,Ee,JD,JR,eq_self,Nat.reduceEqDiff,reduceIte,Nat.reduceSub,Nat.reduceAdd,List.cons_append,List.nil_append]);all_goals rfl)
   ·
    intro gh X K zq zc zq2 zc2 zb zv hK;refine Jg (Jr rfl At.z rfl pl53) rfl (Js ?_);exact hK zq zc zq2 zc2 zb zv
   ·
    intro gh gh' h
    rfl
   apply Jy 5 rfl
   iterate 3 focus (intros;(conv=>lhs;simp only [Jo,JB,Ee,JD,JR,eq_self,Nat.reduceEqDiff,reduceIte,Nat.reduceSub,Nat.reduceAdd,List.cons_append,List.nil_append]);all_goals rfl)
   ·
    intro gh X K zq zc zq2 zc2 zb zv hK;refine Jg (Ju rfl At.z (by simpa [*] using ag87)) rfl (Js ?_);exact hK zq zc zq2 zc2 zb zv
   ·
    intro gh gh' h
    rfl
   apply Jy 6 rfl
   iterate 3 focus (intros;(conv=>lhs;simp only [Jo,JB,Ee,JD,JR,eq_self,Nat.reduceEqDiff,reduceIte,Nat.reduceSub,Nat.reduceAdd,List.cons_append,List.nil_append]);all_goals rfl)
   ·
    intro gh X K zq zc zq2 zc2 zb zv hK;refine Jg (Jc rfl) rfl (Js ?_);exact hK zq zc zq2 zc2 zb zv
   ·
    intro gh gh' h
    rfl
   apply GJ.sn1 7 rfl
   iterate 3 focus (intros;(conv=>lhs;simp only [Jo,JB,Ee,JD,JR,eq_self,Nat.reduceEqDiff,reduceIte,Nat.reduceSub,Nat.reduceAdd,List.cons_append,List.nil_append]);all_goals rfl)
   ·
    intro gh X K hK;refine J.putP pwK u53 rfl rfl rfl (monL_small h8 hk1) (show (putM _ _ _).Perm (plM ((monL cad n).take (k+1))) from by rw [rw_take hk1];exact plM_put (by rw [List.length_take];omega) (monL_fresh h8 hk1)) At.z (Js ?_);exact hK
   ·
    intro gh gh' h
    rfl
   apply Ez [0,1,2,3,4,5,6] [0,1,2,3,4,5,6,7,8,10,11] foll0 rfl rfl rfl (by rfl)
   iterate 2 focus (intros;(conv=>lhs;simp only [Jo,JB,Ee,JD,JR,eq_self,Nat.reduceEqDiff,reduceIte,Nat.reduceSub,Nat.reduceAdd,List.cons_append,List.nil_append]);all_goals rfl)
   intro gh;clear gh;refine JE (Ja (hK12 (Jb (Jg (JA rfl rfl (by first | exact nw _ (by omega) | rfl)) rfl (Jg (Jc rfl) rfl (Jf (Ja (JQ (.s .z) (Jw (.s (.s (.s .z))) (Jw (.s (.s (.s .z))) (Jw (.s (.s .z)) (Jw (.s (.s (.s .z))) ?_))))))))))));exact hAg0 (k+1) (by omega) (by omega) 15 rfl rfl ⟨rfl,trivial⟩ rfl (by rfl)
  ·
   refine JG (Ji (Ji (JN (Ja (hK8 (Je fun _ hK14 _=>(Jb (Jg (Jc rfl) rfl (Jg (JK rfl) rfl (Jg (Jq u93 rfl sz91 rfl) rfl (Jg (JL (q:=some ⟨bc,0,none⟩) (k:=1) rfl pc1 pl91) rfl (Jg (Jc rfl) rfl (Jg (Jc rfl) rfl (J.fixA (.s .z) fun Hm21 hlem21 hAm21=>?_))))))))))))));replace pc0:=pc0.le hlem21;replace pc1:=pc1.le hlem21;replace pcad:=pcad.le hlem21;replace pcaf:=pcaf.le hlem21;replace hcad:=hcad.le hlem21;replace hcaf:=hcaf.le hlem21;replace hC:=hC.le hlem21;replace hxo34:=hxo34.le hlem21;have hxm21:=omap_H hAm21;refine J.mapUpdate (ek:=ekI) (ev:=evB) (ok:=okI) (v:=g23) u91 kI rfl rfl rfl ⟨by omega,by omega⟩ (.s .z) (Jf (Ja (hK14 (Je fun _ hK15 _=>(Jb (Jg (Jc rfl) rfl (Jg (Jd rfl) rfl (Jf (Ja (hK15 (Jp (Jk rfl (Res.tmp rfl) fun w hH=>?_))))))))))));replace hH:=hH.sublist (.cons_cons _ (.cons_cons _ (.cons_cons _ (List.Sublist.refl _))))
   have hkk:k=(monL cad n).length:=by omega
   have hnk:look (lvK ls) n=none:=by simpa using h19
   rw [lvK_put hnk] at hH;refine ⟨_,(n,⟨g23,bm21,⟨qo34,(monL cad n).length,co34⟩,⟨none,0,0⟩,⟨none,0,0⟩,⟨none,0,0⟩,⟨none,0,0⟩⟩)::ls,_,(hleo34.trans hlem21),hC.cons (lvK_not hnk) ⟨⟨rfl,hxo34,?_,fun _=>rfl⟩,fun _ h=>(by cases h),fun _ h=>(by cases h)⟩,List.mem_cons_self,fun y hy=>List.mem_cons_of_mem _ hy,fun _ h=>h.fresh rfl,rfl,Hp.lvIn ((hH.front (.s (.s .z))).front (.s .z))⟩;rw [hkk,List.take_length] at hxm21;exact hxm21
theorem zv3:ZeroV Try.prog 3 (.int .i64 0):=fun _=>by kernel_rfl
theorem bare_c {B:World} {H0 H:HP} {L:List SA} {w:World} {bc lc:Nat} {bca:Nat} {qcad qcaf:Option Addr} {ccad ccaf:Nat} {cad:List Int} {caf:List (List Term)} {n:Int} {ls:List (Int × Lv)} {X:Int→Prop} (pc0:CellAt H bc 0 (.pointer (some ⟨bca,0,none⟩))) (pc1:CellAt H bc 1 (.map (some lc))) (pcad:CellAt H bca 0 (.slice qcad cad.length ccad)) (pcaf:CellAt H bca 1 (.slice qcaf caf.length ccaf)) (hcad:Ints H qcad cad) (hcaf:Forms H qcaf caf) (hd : ∀j,j<cad.length→1≤cad.getD j 0∧cad.getD j 0≤12) (h8:cad.length≤8) (hn : -1000000≤n∧n≤1000000) (hC:CpxOk H cad caf X ls) (hH:Hp B H0 H (cpx lc ls::L) w) :
 Calls Try.prog 50 [.pointer (some ⟨bc,0,none⟩),.int .i64 n].toArray w fun e w'=>∃H' ls' x,Le H H' ∧CpxOk H' cad caf X ls' ∧(n,x)∈ls' ∧(∀y∈ls,y∈ls')∧(∀Y,Nxt Y ls→Nxt Y ls')∧e = .returned (.pointer (some ⟨x.b,0,none⟩))∧Hp B H0 H' (cpx lc ls'::L) w':=bareX_c pc0 pc1 pcad pcaf hcad hcaf hd h8 hn hC hH.unstar
theorem row_set {ps:List Pw} (hn:ps.Nodup) {g g':Pw→Int} {i:Nat} {v:Int} (hi:i<ps.length) (h1:g' (rw_ ps i)=v) (h2 : ∀p,p≠rw_ ps i→g' p=g p):(ps.map g).set i v=ps.map g':=by
 have e:rw_ ps i=ps[i]:=by simp [rw_,List.getD_eq_getElem?_getD,List.getElem?_eq_getElem hi]
 rw [e] at h1 h2;refine List.ext_getElem (by simp) fun j hj hj'=>?_;rw [List.getElem_set];simp only [List.length_map] at hj'
 split
 ·rename_i e
  subst e
  simp [h1]
 ·rename_i e
  rw [List.getElem_map,List.getElem_map,h2];exact fun h=>e ((List.getElem_inj hn).1 h).symm
def RowI (s:Sm) (ls:Sm) (g:Pw→Int):Prop:=(∀x∈ls,x∈s)∧(ls.map (·.1)).Nodup∧∀p,g p=if p∈ls.map (·.1) then 0 else cf s p
theorem cf_mem0 : ∀{s:Sm} {p:Pw},p ∉ s.map (·.1)→cf s p=0
 | [],_,_=>rfl
 | x::s,p,h=>by
  simp only [List.map_cons,List.mem_cons,not_or] at h
  simp only [cf]
  rw [if_neg (fun e=>h.1 e.symm)]
  exact cf_mem0 h.2
theorem RowI.start {M:Int} {s:Sm} (hs:Sok M s):RowI s s fun _=>0:=⟨fun _ h=>h,hs.nodup,fun p=>by
 split
 ·rfl
 ·rename_i h
  exact (cf_mem0 h).symm⟩
theorem cf_in {M:Int} : ∀{s:Sm},Sok M s→∀{x:Pw × Int},x∈s→cf s x.1=x.2
 | [],_,_,h=>by simp at h
 | y::s,hs,x,h=>by
  simp only [cf]
  rcases List.mem_cons.1 h with rfl | h
  ·rw [if_pos rfl]
  ·have:y.1≠x.1:=before_ne ((List.pairwise_cons.1 hs.srt).1 x h)
   rw [if_neg this]
   exact cf_in hs.tail h
def putG (g:Pw→Int) (x:Pw × Int):Pw→Int:=fun p=>if p=x.1 then x.2 else g p
theorem RowI.next {M:Int} {s:Sm} (hs:Sok M s) {la lb:Sm} {x:Pw × Int} {g:Pw→Int} (h:RowI s (la++x::lb) g):RowI s (la++lb) (putG g x):=by
 have hp:((la++x::lb).map (·.1)).Perm (x.1::(la++lb).map (·.1)):=(List.perm_middle (a:=x)).map _;have hnd:=List.nodup_cons.1 (hp.nodup_iff.1 h.2.1);refine ⟨fun y hy=>h.1 y (by simp at hy ⊢;rcases hy with h | h <;> simp [h]),hnd.2,fun p=>?_⟩;unfold putG
 by_cases e:p=x.1
 ·subst e;rw [if_pos rfl,if_neg hnd.1,cf_in hs (h.1 x (by simp))]
 ·rw [if_neg e,h.2.2 p]
  have:p∈(la++x::lb).map (·.1)↔p∈(la++lb).map (·.1):=by
   rw [hp.mem_iff,List.mem_cons];exact ⟨fun h=>h.resolve_left e,.inr⟩
  simp only [this]
theorem RowI.end {s:Sm} {g:Pw→Int} (h:RowI s [] g):g=cf s:=funext fun p=>by rw [h.2.2 p];simp
theorem RowI.set {ps:List Pw} (hn:ps.Nodup) {g:Pw→Int} {x:Pw × Int} {i:Nat} (hi:i<ps.length) (hx:rw_ ps i=x.1):(ps.map g).set i x.2=ps.map (putG g x):=
 row_set hn hi (by rw [hx];unfold putG;rw [if_pos rfl]) fun p hp=>by unfold putG;rw [if_neg (hx ▸ hp)]
theorem map_zero (ps:List Pw):List.replicate ps.length (0:Int)=ps.map fun _=>0:=by
 induction ps with
 | nil=>rfl
 | cons p ps ih=>rw [List.length_cons,List.replicate_succ,ih];rfl
theorem look_at {ps:List Pw} (hn:ps.Nodup) {i:Nat} {p:Pw} (hi:i<ps.length) (hx:rw_ ps i=p):(look (plM ps) p).elim (Value.int .i64 0) (Value.int .i64) = .int .i64 (i:Int):=by
 rw [← hx,plM_at hn hi]
 rfl
theorem row_c {B:World} {H0 H:HP} {L:List SA} {w:World} {bl plb:Nat} {ql:Option Addr} {cl:Nat} {ps:List Pw} {vs:Value} {Ms:Int} {s:Sm} (pl0:CellAt H bl 0 (.slice ql ps.length cl)) (pl1:CellAt H bl 1 (.map (some plb))) (hs:SumH H vs s) (ks:Sok Ms s) (hps:Pows H ql ps) (hpl:SumH H (.map (some plb)) (plM ps)) (hnd:ps.Nodup) (hM:Ms≤1000000) (hin : ∀x∈s,x.1∈ps) (hpl1:ps.length≤1000000) (hH:Hp B H0 H L w):Calls Try.prog 51 [.pointer (some ⟨bl,0,none⟩),vs].toArray w fun e w'=>∃q c,e = .returned (.slice q (ps.map (cf s)).length c)∧Hp B H0 H (own 2 1 q (ps.map (cf s)).length c (intsC (ps.map (cf s)))::L) w':=by
 refine Jt Try.func51 rfl 31 rfl rfl [(0,.pointer (some ⟨bl,0,none⟩)),(1,vs)] rfl hH ?_;clear hH;obtain ⟨bs,ess,cls,rfl,hbs,hes⟩:=hs;have hs:SumH H (.map (some bs)) s:=⟨bs,ess,cls,rfl,hbs,hes⟩;refine Je fun _ hK1 _=>(Jb (Jg (Jd rfl) rfl (Jf (Ja (hK1 (Je fun _ hK2 _=>(Jb (Jg (Jc rfl) rfl (Jg (JK rfl) rfl (Jg (Jq u55 rfl sz52 rfl) rfl (Jg (JL (q:=some ⟨bl,0,none⟩) (k:=0) rfl pl0 pl52) rfl (Jg (Jn u52 rfl rfl) rfl (J.mk (MK.makeI (m:=ps.length) u22 ze2 sz2 by2 rfl rfl rfl rfl (by omega)) rfl fun qo13 co13=>(Jg (PR.eqv (v':=.slice qo13 ps.length co13) (by rw [List.length_replicate]) (Jd rfl)) rfl (Jf ?_)))))))))))))));refine Ja (hK2 (Je fun _ hK3 _=>(Je fun _ hK4 _=>(Jb (Jg (Jc rfl) rfl (J.range u90 rfl hbs hes rfl fun r15=>(Jf (Ja (hK4 (Jm (JC (σ:=Option (Pw × Int) × Sm × (Pw→Int)) (fun ⟨la,ls,g⟩=>[]) (fun ⟨la,ls,g⟩=>H) (fun ⟨la,ls,g⟩=>itr pwE (Value.int .i64) bs ess cls r15 la ls::own 2 1 qo13 ps.length co13 (intsC (ps.map g))::L) (fun ⟨la,ls,g⟩=>RowI s ls g) (fun ⟨la,ls,g⟩=>ls.length) (none,s,fun _=>0) (RowI.start ks) trivial rfl (by dsimp only;rw [← map_zero,List.length_replicate]) ?_)))))))))));rintro ⟨la,ls,g⟩ hI _ hAg0;refine Je fun _ hK5 _=>(Jb (J.next rfl hbs hes (fun _ _=>At.z) rfl (fun hE16=>?_) (fun nx16 la16 lb16 hL16=>?_)))
 ·
  refine Jg (JI rfl rfl) rfl (Jf (Ja (hK5 (Je fun _ hK6 _=>(Er rfl (JG (Ji (Ji (JN (Ja (hK3 (Je fun _ hK7 _=>(Jb (Jg (Jc rfl) rfl (Jg (Jd rfl) rfl (Jf ?_))))))))))))))));refine Ja (hK7 (Jp (Jk rfl (Res.tmp rfl) fun w hH=>?_)));replace hH:=hH.sublist (.cons _ (.cons_cons _ (List.Sublist.refl _)));have hI2:RowI s ls g:=hI;rw [hE16] at hI2;rw [hI2.end] at hH;exact ⟨_,_,by rw [List.length_map],by rw [List.length_map];exact hH⟩
 ·
  subst hL16;have hu:=hI.1 nx16 (by simp);obtain ⟨i,hi,hie⟩:=mem_rw.1 (hin nx16 hu);have hu8:=(ks.key nx16 hu).len;refine Jg (JI rfl rfl) rfl (Jf (Ja (hK5 (Je fun _ hK8 _=>(El rfl (Jj (Ja (hK8 (Jm (Je fun _ hK9 _=>(Jb (Jg (PR.entry rfl hbs hes At.z) rfl (Jg (JI rfl rfl) rfl (Jg (JI rfl rfl) rfl (JW ze87 rfl fun g6=>(JF rfl rfl (by first | exact bytesC_one _ | exact intsC_one _ | exact Term.c_one _ | simp [Value.oneCell']) (by simpa [*] using sz87) (by simp [*]) At.z ?_))))))))))))))));refine Jg (Jd rfl) rfl (Jf (Ja (hK9 (Ey (Rs:=[_,_,_]) 10 [[], [], [1], [1,2], [1,2,3], [], [1,2,3,4,5], [], [0,1,2,3,4,5,6,7], [0,1,2,3,4,5,6,7,8]] [[], [], [], [], [], [10], [], [], [12], []] [[], [], [], [], [], [], [], [], [], [12]] rfl rfl (by kernel_rfl) ?_))));apply Jy 1 rfl
  iterate 3 focus (intros;(conv=>lhs;simp only [Jo,JB,Ee,JD,JR,eq_self,Nat.reduceEqDiff,reduceIte,Nat.reduceSub,Nat.reduceAdd,List.cons_append,List.nil_append]);all_goals rfl)
  ·
   intro gh X K zq zc zq2 zc2 zb zv hK;refine Jg (Jc rfl) rfl (Js ?_);exact hK zq zc zq2 zc2 zb zv
  ·
   intro gh gh' h
   rfl
  apply Jy 2 rfl
  iterate 3 focus (intros;(conv=>lhs;simp only [Jo,JB,Ee,JD,JR,eq_self,Nat.reduceEqDiff,reduceIte,Nat.reduceSub,Nat.reduceAdd,List.cons_append,List.nil_append]);all_goals rfl)
  ·
   intro gh X K zq zc zq2 zc2 zb zv hK;refine Jg (Jc rfl) rfl (Js ?_);exact hK zq zc zq2 zc2 zb zv
  ·
   intro gh gh' h
   rfl
  apply Jy 3 rfl
  iterate 3 focus (intros;(conv=>lhs;simp only [Jo,JB,Ee,JD,JR,eq_self,Nat.reduceEqDiff,reduceIte,Nat.reduceSub,Nat.reduceAdd,List.cons_append,List.nil_append]);all_goals rfl)
  ·
   intro gh X K zq zc zq2 zc2 zb zv hK;refine Jg (JK rfl) rfl (Js ?_);exact hK zq zc zq2 zc2 zb zv
  ·
   intro gh gh' h
   rfl
  apply Jy 4 rfl
  iterate 3 focus (intros;(conv=>lhs;simp only [Jo,JB,Ee,JD,JR,eq_self,Nat.reduceEqDiff,reduceIte,Nat.reduceSub,Nat.reduceAdd,List.cons_append,List.nil_append]);all_goals rfl)
  ·
   intro gh X K zq zc zq2 zc2 zb zv hK;refine Jg (Jq u55 rfl sz53 rfl) rfl (Js ?_);exact hK zq zc zq2 zc2 zb zv
  ·
   intro gh gh' h
   rfl
  apply Jy 5 rfl
  iterate 3 focus (intros;(conv=>lhs;simp only [Jo,JB,Ee,JD,JR,eq_self,Nat.reduceEqDiff,reduceIte,Nat.reduceSub,Nat.reduceAdd,List.cons_append,List.nil_append]);all_goals rfl)
  ·
   intro gh X K zq zc zq2 zc2 zb zv hK;refine Jg (JL (q:=some ⟨bl,0,none⟩) (k:=1) rfl pl1 pl53) rfl (Js ?_);exact hK zq zc zq2 zc2 zb zv
  ·
   intro gh gh' h
   rfl
  apply Jy 6 rfl
  iterate 3 focus (intros;(conv=>lhs;simp only [Jo,JB,Ee,JD,JR,eq_self,Nat.reduceEqDiff,reduceIte,Nat.reduceSub,Nat.reduceAdd,List.cons_append,List.nil_append]);all_goals rfl)
  ·
   intro gh X K zq zc zq2 zc2 zb zv hK;refine Jg (Ju rfl At.z (by simpa [*] using ag87)) rfl (Js ?_);exact hK zq zc zq2 zc2 zb zv
  ·
   intro gh gh' h
   rfl
  apply Jy 7 rfl
  iterate 3 focus (intros;(conv=>lhs;simp only [Jo,JB,Ee,JD,JR,eq_self,Nat.reduceEqDiff,reduceIte,Nat.reduceSub,Nat.reduceAdd,List.cons_append,List.nil_append]);all_goals rfl)
  ·
   intro gh X K zq zc zq2 zc2 zb zv hK;refine Jg (PR.eqv (v':=.int .i64 (i:Int)) (look_at hnd hi hie) (PR.lookH u53 pwK zv3 rfl hpl rfl (pwOk_of (ks.key nx16 hu) hM))) rfl (Js ?_);exact hK zq zc zq2 zc2 zb zv
  ·
   intro gh gh' h
   rfl
  apply Jy 8 rfl
  iterate 3 focus (intros;(conv=>lhs;simp only [Jo,JB,Ee,JD,JR,eq_self,Nat.reduceEqDiff,reduceIte,Nat.reduceSub,Nat.reduceAdd,List.cons_append,List.nil_append]);all_goals rfl)
  ·
   intro gh X K zq zc zq2 zc2 zb zv hK;refine Jg (Jc rfl) rfl (Js ?_);exact hK zq zc zq2 zc2 zb zv
  ·
   intro gh gh' h
   rfl
  apply Jy 9 rfl
  iterate 3 focus (intros;(conv=>lhs;simp only [Jo,JB,Ee,JD,JR,eq_self,Nat.reduceEqDiff,reduceIte,Nat.reduceSub,Nat.reduceAdd,List.cons_append,List.nil_append]);all_goals rfl)
  ·
   intro gh X K zq zc zq2 zc2 zb zv hK;refine Jg (PR.idxW u22 sz2 rfl rfl rfl (by omega) At.z) rfl (Js ?_);exact hK zq zc zq2 zc2 zb zv
  ·
   intro gh gh' h
   rfl
  apply GJ.sn1 10 rfl
  iterate 3 focus (intros;(conv=>lhs;simp only [Jo,JB,Ee,JD,JR,eq_self,Nat.reduceEqDiff,reduceIte,Nat.reduceSub,Nat.reduceAdd,List.cons_append,List.nil_append]);all_goals rfl)
  ·
   intro gh X K hK;refine J.storeWI rfl rfl sz2 (by omega) At.z (Js ?_);exact hK
  ·
   intro gh gh' h
   rfl
  apply Ez [0,1,2,3,4,5,6,7,8,9] [0,1,2,3,4,5,6,7,8,9,10,11] foll0 rfl rfl rfl (by rfl)
  iterate 2 focus (intros;(conv=>lhs;simp only [Jo,JB,Ee,JD,JR,eq_self,Nat.reduceEqDiff,reduceIte,Nat.reduceSub,Nat.reduceAdd,List.cons_append,List.nil_append]);all_goals rfl)
  intro gh;clear gh;refine JE (Ja (JQ (.s .z) (Jw .z (Jw (.s .z) ?_))));exact hAg0 (some nx16,la16++lb16,putG g nx16) (hI.next ks) (by simp) 16 rfl rfl trivial rfl (by rw [RowI.set hnd hi hie])
theorem sz27:Size Try.prog 27 1:=by unfold Size;kernel_rfl
theorem pl27:Plain Try.prog 27:=⟨_,u27,rfl⟩
theorem fn50:Fn Try.prog 50:=⟨_,Try.func50,by kernel_rfl,rfl⟩
theorem fn51:Fn Try.prog 51:=⟨_,Try.func51,by kernel_rfl,rfl⟩
theorem CpxOk.mono {H:HP} {ds:List Int} {fs:List (List Term)} {X Y:Int→Prop} {ls:List (Int × Lv)} (h:CpxOk H ds fs X ls) (hXY : ∀x∈ls,X x.1→Y x.1):CpxOk H ds fs Y ls:=⟨h.nd,fun x hx=>⟨(h.ok x hx).one,fun hn=>(h.ok x hx).two fun h'=>hn (hXY x hx h'),fun hn=>(h.ok x hx).three fun h'=>hn (hXY x hx h')⟩⟩
theorem LvOk.mono {H:HP} {ds:List Int} {fs:List (List Term)} {X Y:Int→Prop} {n:Int} {x:Lv} (h:LvOk H ds fs X n x) (hXY:X n→Y n):LvOk H ds fs Y n x:=⟨h.one,fun hn=>h.two fun h'=>hn (hXY h'),fun hn=>h.three fun h'=>hn (hXY h')⟩
theorem CpxOk.out2 {H:HP} {ds:List Int} {fs:List (List Term)} {X:Int→Prop} {ls:List (Int × Lv)} {n m:Int} {x y:Lv} (h:CpxOk H ds fs X ls) (hx:(n,x)∈ls) (hy:(m,y)∈ls) (hnm:n≠m) : ∃rest,ls.Perm ((n,x)::(m,y)::rest)∧CpxOk H ds fs X rest∧(∀z∈rest,z.1≠n∧z.1≠m)∧LvOk H ds fs X n x∧LvOk H ds fs X m y:=by
 obtain ⟨r1,hp1,hC1,hn1,hL1⟩:=h.out hx
 have hy1:(m,y)∈r1:=by
  rcases List.mem_cons.1 (hp1.subset hy) with e | e
  ·exact absurd (congrArg Prod.fst e).symm hnm
  ·exact e
 obtain ⟨r2,hp2,hC2,hn2,hL2⟩:=hC1.out hy1;exact ⟨r2,hp1.trans (hp2.cons _),hC2,fun z hz=>⟨hn1 z (hp2.symm.subset (List.mem_cons_of_mem _ hz)),hn2 z hz⟩,hL1,hL2⟩
section
variable {B : World} {H0 H : HP} {L : List SA} {w : World}
theorem Hp.lvOut2 {lb:Nat} {ls rest:List (Int × Lv)} {x y:Int × Lv} (hp:ls.Perm (x::y::rest)) (h:Hp B H0 H (cpx lb ls::L) w):Hp B H0 H (lvB x.2::lvB y.2::lvO rest::lvM lb ((x.1,x.2.b)::(y.1,y.2.b)::lvK rest)::L) w:=by
 have h1:=h.lvOut hp;have h2:=(h1.front (.s .z)).unstar;exact (h2.front (.s (.s .z)))
theorem Hp.lvIn2 {lb:Nat} {rest:List (Int × Lv)} {x y:Int × Lv} (h:Hp B H0 H (lvB x.2::lvB y.2::lvO rest::lvM lb ((x.1,x.2.b)::(y.1,y.2.b)::lvK rest)::L) w):Hp B H0 H (cpx lb (x::y::rest)::L) w:=by
 have h1:=h.front (.s .z);have h2:=(h1.front (.s (.s .z))).front (.s .z);exact Hp.lvIn (x:=x) (rest:=y::rest) ((h2.star.front (.s .z)))
end
def matK (ds:List Int) (fs:List (List Term)) (n:Int) (k:Nat):List (List Int):=((monL ds n).take k).map fun p=>(monL ds (n+1)).map (cf (dS ds fs [(p,1)]))
theorem matK_succ {ds:List Int} {fs:List (List Term)} {n:Int} {k:Nat} (hk:k<(monL ds n).length):matK ds fs n (k+1)=matK ds fs n k++[(monL ds (n+1)).map (cf (dS ds fs [(rw_ (monL ds n) k,1)]))]:=by
 unfold matK;rw [rw_take hk,List.map_append]
 rfl
theorem matK_end {ds:List Int} {fs:List (List Term)} {n:Int} {k:Nat} (hk:k=(monL ds n).length):matK ds fs n k=matS ds fs n:=by
 subst hk;unfold matK matS;rw [List.take_length]
theorem matS_len (ds:List Int) (fs:List (List Term)) (n:Int):(matS ds fs n).length=(monL ds n).length:=by simp [matS]
theorem mon_pok {ds:List Int} {n:Int} (h8:ds.length≤8) {p:Pw} (hp:p∈monS ds n):Pok 20 p:=by
 have h:=enumF_mem (by omega) rfl hp;refine ⟨h.1,fun j=>?_⟩
 by_cases hj:j<ds.length
 ·have:=h.2.2.1 j hj;rw [Nat.zero_add] at this
  omega
 ·have:=h.2.1 j (.inr (by omega));rw [this,show zP=List.replicate 8 0 from rfl,rep_get];omega
theorem mon_ex {ds:List Int} {n:Int} (h8:ds.length≤8) {p:Pw} (hp:p∈monS ds n) (hd : ∀j,j<ds.length→1≤ds.getD j 0∧ds.getD j 0≤12):Ex ds p:=by
 have h:=enumF_mem (by omega) rfl hp;refine ⟨fun i hi=>?_,fun i hi ho=>?_⟩
 ·have:=h.2.1 i (.inr (by omega));rw [this,show zP=List.replicate 8 0 from rfl,rep_get]
 ·have h1:=h.2.2.1 i hi;rw [Nat.zero_add] at h1;refine h1.2.2 ?_;have:=hd i hi;have:=tmod_two (d:=ds.getD i 0) (by omega)
  omega
theorem mon_occ {ds:List Int} {n:Int} {k:Nat} (h8:ds.length≤8) {p:Pw} (hp:p∈monS ds n) (hd : ∀j,j<ds.length→1≤ds.getD j 0∧ds.getD j 0≤12) (hk:k=ds.length):Occ k [(p,1)]:=Ex.occ (fun x hx=>by rw [List.mem_singleton.1 hx];exact mon_ex h8 hp hd) hk
theorem monL_mem {ds:List Int} {n:Int} {k:Nat} (hk:k<(monL ds n).length):rw_ (monL ds n) k∈monS ds n:=List.mem_of_mem_take (rw_mem hk)
theorem monL_nodup {ds:List Int} (h8:ds.length≤8) (n:Int):(monL ds n).Nodup:=(List.take_sublist _ _).nodup (mon_nodup ds n h8)
def Fl (x:Lv):Prop:=x.m.q.isSome=true∧x.z.q.isSome=true
def Kp (ls ls':List (Int × Lv)):Prop:=∀y∈ls,Fl y.2→y∈ls'
def Hom1 (ds:List Int) (fs:List (List Term)) (n:Int):Prop:=∀p∈monL ds n,∀x∈dS ds fs [(p,1)],x.1∈monL ds (n+1)
theorem withMatrix_c {B:World} {H0 H:HP} {L:List SA} {w:World} {bc lc:Nat} {bca:Nat} {qcad qcaf:Option Addr} {ccad ccaf:Nat} {cad:List Int} {caf:List (List Term)} {n:Int} {ls:List (Int × Lv)} {X:Int→Prop} (pc0:CellAt H bc 0 (.pointer (some ⟨bca,0,none⟩))) (pc1:CellAt H bc 1 (.map (some lc))) (pcad:CellAt H bca 0 (.slice qcad cad.length ccad)) (pcaf:CellAt H bca 1 (.slice qcaf caf.length ccaf)) (hcad:Ints H qcad cad) (hcaf:Forms H qcaf caf) (hd : ∀j,j<cad.length→1≤cad.getD j 0∧cad.getD j 0≤12) (h8:cad.length≤8) (hn : -1≤n∧n≤100000) (hA:AlgOk cad caf) (hX : ¬X n) (hfit:fit2 cad n) (hom:Hom1 cad caf n) (hC:CpxOk H cad caf X ls) (hN:Nxt X ls) (hH:Hp B H0 H (cpx lc ls::L) w):Calls Try.prog 24 [.pointer (some ⟨bc,0,none⟩),.int .i64 n].toArray w fun e w'=>∃H' ls' x,Le H H' ∧CpxOk H' cad caf X ls' ∧(n,x)∈ls' ∧(∀y∈ls,y.1≠n→y∈ls')∧Nxt X ls' ∧n+1∈ls'.map (·.1)∧(Lv2 H' cad caf n x∧Kp ls ls')∧e = .returned (.pointer (some ⟨x.b,0,none⟩))∧Hp B H0 H' (cpx lc ls'::L) w':=by
 refine Jt Try.func24 rfl 55 rfl rfl [(0,.pointer (some ⟨bc,0,none⟩)),(1,.int .i64 n)] rfl hH ?_;have hw0:=hH.old;have hw1:=hH.le;clear hH;refine Je fun _ hK1 _=>(Jb (Jg (Jd rfl) rfl (Jf (Ja (hK1 (Je fun _ hK2 _=>(Jb (Jg (Jc rfl) rfl (Jg (Jc rfl) rfl (Jz fn50 rfl rfl fun w hH=>(bare_c (n:=n) pc0 pc1 pcad pcaf hcad hcaf hd h8 (by omega) hC hH).mono ?_))))))))));rintro _ w ⟨H11,ls11,⟨b11,p11,⟨ql11,kl11,cl11⟩,⟨qm11,km11,cm11⟩,⟨qz11,kz11,cz11⟩,⟨qy11,ky11,cy11⟩,⟨qx11,kx11,cx11⟩⟩,hle11,hC11,hx11,hsub11,hN11,rfl,hH⟩;refine ⟨_,rfl,fun a hF=>JT hF hH ?_⟩;replace pc0:=pc0.le hle11;replace pc1:=pc1.le hle11;replace pcad:=pcad.le hle11;replace pcaf:=pcaf.le hle11;replace hcad:=hcad.le hle11;replace hcaf:=hcaf.le hle11;replace hC:=hC.le hle11;obtain ⟨rs11,hp11,hCr11,hne11,hL11⟩:=hC11.out hx11;obtain rfl:kl11=(monL cad (n)).length:=hL11.one.len;have hpw11:Pows H11 ql11 (monL cad (n)):=hL11.one.pw;have hpl11:SumH H11 (.map (some p11)) (plM (monL cad (n))):=hL11.one.pl;refine J.reL (L':=obj b11 (.cells [.slice ql11 (monL cad (n)).length cl11,.map (some p11),.slice qm11 km11 cm11,.slice qz11 kz11 cz11,.slice qy11 ky11 cy11,.slice qx11 kx11 cx11].toArray 55 (0,0))::lvO rs11::lvM lc ((n,b11)::lvK rs11)::_) (fun w hH=>Hp.lvOut (x:=(n,⟨b11,p11,⟨ql11,(monL cad (n)).length,cl11⟩,⟨qm11,km11,cm11⟩,⟨qz11,kz11,cz11⟩,⟨qy11,ky11,cy11⟩,⟨qx11,kx11,cx11⟩⟩)) hp11 hH) (Jg (Jd rfl) rfl (Jf (Ja (hK2 (Je fun _ hK3 _=>(Je fun _ hK4 _=>(Jb (Jg (Jc rfl) rfl (Jg (JK rfl) rfl (Jg (Jq u55 rfl sz27 rfl) rfl (Jg (Jr rfl At.z rfl pl27) rfl (Jg (PR.eqlNil u27 rfl rfl) rfl (Jf (Ja (hK4 (Eh rfl (fun h16=>?_) (fun h16=>?_)))))))))))))))))
 ·
  refine Je fun _ hK5 _=>(Jb (Jg (Jc rfl) rfl (J.mk (MK.lit0 u27 sz22) rfl fun qo18 co18=>(Jg (JK rfl) rfl (Jg (Jq u55 rfl sz27 rfl) rfl (Et rfl rfl rfl rfl sz27 (by simp [*]) (.s .z) (Jf (Ja (hK5 (Je fun _ hK6 _=>(Jb (Jg (Jc rfl) rfl (Jg (Jc rfl) rfl (Jg (JA rfl rfl (by first | exact nw _ (by omega) | rfl)) rfl ?_))))))))))))));have hC0:CpxOk H11 cad caf (fun m=>X m∨m=n) ((n,⟨b11,p11,⟨ql11,(monL cad (n)).length,cl11⟩,⟨qo18,0,co18⟩,⟨qz11,kz11,cz11⟩,⟨qy11,ky11,cy11⟩,⟨qx11,kx11,cx11⟩⟩)::rs11):=(hCr11.mono fun x _ h=>.inl h).cons hne11 ⟨⟨rfl,hpw11,hpl11,hL11.one.z⟩,fun h=>absurd (.inr rfl) h,fun h=>absurd (.inr rfl) h⟩;refine J.reL (fun w hH=>Hp.lvIn (x:=(n,⟨b11,p11,⟨ql11,(monL cad (n)).length,cl11⟩,⟨qo18,0,co18⟩,⟨qz11,kz11,cz11⟩,⟨qy11,ky11,cy11⟩,⟨qx11,kx11,cx11⟩⟩)) (rest:=rs11) (((hH.front (.s (.s (.s .z)))).front (.s (.s (.s .z)))).front (.s (.s (.s .z))))) (Jz fn50 rfl rfl fun w hH=>(bare_c (n:=n+1) pc0 pc1 pcad pcaf hcad hcaf hd h8 (by omega) hC0 hH).mono ?_);rintro _ w ⟨H24,ls24,⟨b24,p24,⟨ql24,kl24,cl24⟩,⟨qm24,km24,cm24⟩,⟨qz24,kz24,cz24⟩,⟨qy24,ky24,cy24⟩,⟨qx24,kx24,cx24⟩⟩,hle24,hC24,hx24,hsub24,hN24,rfl,hH⟩;refine ⟨_,rfl,fun a hF=>JT hF hH ?_⟩;replace pc0:=pc0.le hle24;replace pc1:=pc1.le hle24;replace pcad:=pcad.le hle24;replace pcaf:=pcaf.le hle24;replace hcad:=hcad.le hle24;replace hcaf:=hcaf.le hle24;replace hC:=hC.le hle24;replace hCr11:=hCr11.le hle24;replace hL11:=hL11.le hle24;replace hpw11:=hpw11.le hle24;replace hpl11:=hpl11.le hle24;obtain ⟨rs24,hp24,hCr24,hne24,hM24,hL24⟩:=hC24.out2 (hsub24 (n,⟨b11,p11,⟨ql11,(monL cad (n)).length,cl11⟩,⟨qo18,0,co18⟩,⟨qz11,kz11,cz11⟩,⟨qy11,ky11,cy11⟩,⟨qx11,kx11,cx11⟩⟩) (by simp)) hx24 (by omega);obtain rfl:kl24=(monL cad (n+1)).length:=hL24.one.len;have hpw24:Pows H24 ql24 (monL cad (n+1)):=hL24.one.pw;have hpl24:SumH H24 (.map (some p24)) (plM (monL cad (n+1))):=hL24.one.pl;refine J.reL (L':=obj b11 (.cells [.slice ql11 (monL cad (n)).length cl11,.map (some p11),.slice qo18 0 co18,.slice qz11 kz11 cz11,.slice qy11 ky11 cy11,.slice qx11 kx11 cx11].toArray 55 (0,0))::obj b24 (.cells [.slice ql24 (monL cad (n+1)).length cl24,.map (some p24),.slice qm24 km24 cm24,.slice qz24 kz24 cz24,.slice qy24 ky24 cy24,.slice qx24 kx24 cx24].toArray 55 (0,0))::lvO rs24::lvM lc ((n,b11)::(n+1,b24)::lvK rs24)::_) (fun w hH=>Hp.lvOut2 (x:=(n,⟨b11,p11,⟨ql11,(monL cad (n)).length,cl11⟩,⟨qo18,0,co18⟩,⟨qz11,kz11,cz11⟩,⟨qy11,ky11,cy11⟩,⟨qx11,kx11,cx11⟩⟩)) (y:=(n+1,⟨b24,p24,⟨ql24,(monL cad (n+1)).length,cl24⟩,⟨qm24,km24,cm24⟩,⟨qz24,kz24,cz24⟩,⟨qy24,ky24,cy24⟩,⟨qx24,kx24,cx24⟩⟩)) hp24 hH) (Jg (Jd rfl) rfl (Jf (Ja (hK6 (Je fun _ hK7 _=>(Jb (Jg (Jc rfl) rfl (Jg (JK rfl) rfl (Jg (Jq u55 rfl sz52 rfl) rfl (Jg (Jr rfl At.z rfl pl52) rfl (Jg (Jn u52 rfl rfl) rfl (Jg (Jc rfl) rfl (Jf (Ja (hK7 (Jm ?_))))))))))))))));refine JC (σ:=HP × Option Addr × Nat × List Value × Nat) (fun ⟨Hk,q,c,vals,k⟩=>[(30,.int .i64 (k:Int))]) (fun ⟨Hk,q,c,vals,k⟩=>Hk) (fun ⟨Hk,q,c,vals,k⟩=>obj b11 (.cells [.slice ql11 (monL cad (n)).length cl11,.map (some p11),.slice q k c,.slice qz11 kz11 cz11,.slice qy11 ky11 cy11,.slice qx11 kx11 cx11].toArray 55 (0,0))::obj b24 (.cells [.slice ql24 (monL cad (n+1)).length cl24,.map (some p24),.slice qm24 km24 cm24,.slice qz24 kz24 cz24,.slice qy24 ky24 cy24,.slice qx24 kx24 cx24].toArray 55 (0,0))::lvO rs24::lvM lc ((n,b11)::(n+1,b24)::lvK rs24)::own 22 1 q k c vals::L) (fun ⟨Hk,q,c,vals,k⟩=>Le H24 Hk∧SlF Hk vals (matK cad caf n k)∧k≤(monL cad n).length) (fun ⟨Hk,q,c,vals,k⟩=>(monL cad n).length - k) (H24,qo18,co18, [],0) ⟨Le.refl _,SlF.nil _,by omega⟩ ⟨rfl,trivial⟩ rfl rfl ?_;rintro ⟨Hk,q,c,vals,k⟩ ⟨hlk,hS,hk⟩ _ hAg0;replace pc0:=pc0.le hlk;replace pc1:=pc1.le hlk;replace pcad:=pcad.le hlk;replace pcaf:=pcaf.le hlk;replace hcad:=hcad.le hlk;replace hcaf:=hcaf.le hlk;replace hC:=hC.le hlk;replace hCr11:=hCr11.le hlk;replace hL11:=hL11.le hlk;replace hpw11:=hpw11.le hlk;replace hpl11:=hpl11.le hlk;replace hCr24:=hCr24.le hlk;replace hL24:=hL24.le hlk;replace hM24:=hM24.le hlk;replace hpw24:=hpw24.le hlk;replace hpl24:=hpl24.le hlk;refine Je fun _ hK8 _=>(Jb (Jg (JM rfl rfl) rfl (Jf (Ja (hK8 (Je fun _ hK9 _=>(Jl rfl (fun h31=>?_) (fun h31=>?_))))))))
  ·
   have hml:=monL_len cad n
   have hk1:k<(monL cad n).length:=by omega
   have hpm:=monL_mem hk1;have hpk:=mon_pok h8 hpm;have h8r:=hpk.len;have hocc:=mon_occ h8 hpm hd hA.hl;have hds:=dS_sok (ds:=cad) (Sok.one (k:=1) hpk (by omega)) hA.fok hocc;have hinx : ∀x∈dS cad caf [(rw_ (monL cad n) k,1)],x.1∈monL cad (n+1):=hom _ (rw_mem hk1);refine Jj (Ja (hK9 (Je fun _ hK10 _=>(Jm (Je fun _ hK11 _=>(Jb (Jg (Ej u52 sz87 rfl rfl rfl hk1 hpw11.sm) rfl (Jg (JH rfl (hpw11.cell _ hk1) (hpw11.sm (i:=k) hk1) (by rw [intsC_length,hpw11.len _ hk1];exact ag87)) rfl (JW ze87 rfl fun g8=>(JF rfl rfl (by first | exact bytesC_one _ | exact intsC_one _ | exact Term.c_one _ | simp [Value.oneCell']) (by simpa [*] using sz87) (by simp [*]) At.z (Jf (Ja (hK11 (Ey (Rs:=[_,_,_,_,_,_]) 21 [[], [], [1], [1,2], [1,2,3], [], [], [6], [6,7], [6,7,8], [], [], [10,11], [10,11,12], [6,7,8,9,10,11,12,13], [5,6,7,8,9,10,11,12,13,14], [5,6,7,8,9,10,11,12,13,14,15], [1,2,3,4,5,6,7,8,9,10,11,12,13,14,15,16], [0,1,2,3,4,5,6,7,8,9,10,11,12,13,14,15,16,17], [0,1,2,3,4,5,6,7,8,9,10,11,12,13,14,15,16,17,18], [0,1,2,3,4,5,6,7,8,9,10,11,12,13,14,15,16,17,18,19]] [[], [], [], [], [22], [], [], [], [], [], [], [21], [], [], [12], [14,23], [], [16], [], [], []] [[], [], [], [], [], [], [], [], [], [], [], [], [10], [], [], [], [], [26], [], [], [22]] rfl rfl (by kernel_rfl) ?_))))))))))))));apply Jy 1 rfl
   iterate 3 focus (intros;(conv=>lhs;simp only [Jo,JB,Ee,JD,JR,eq_self,Nat.reduceEqDiff,reduceIte,Nat.reduceSub,Nat.reduceAdd,List.cons_append,List.nil_append]);all_goals rfl)
   ·
    intro gh X K zq zc zq2 zc2 zb zv hK;refine Jg (Jc rfl) rfl (Js ?_);exact hK zq zc zq2 zc2 zb zv
   ·
    intro gh gh' h
    rfl
   apply Jy 2 rfl
   iterate 3 focus (intros;(conv=>lhs;simp only [Jo,JB,Ee,JD,JR,eq_self,Nat.reduceEqDiff,reduceIte,Nat.reduceSub,Nat.reduceAdd,List.cons_append,List.nil_append]);all_goals rfl)
   ·
    intro gh X K zq zc zq2 zc2 zb zv hK;refine Jg (Jc rfl) rfl (Js ?_);exact hK zq zc zq2 zc2 zb zv
   ·
    intro gh gh' h
    rfl
   apply Jy 3 rfl
   iterate 3 focus (intros;(conv=>lhs;simp only [Jo,JB,Ee,JD,JR,eq_self,Nat.reduceEqDiff,reduceIte,Nat.reduceSub,Nat.reduceAdd,List.cons_append,List.nil_append]);all_goals rfl)
   ·
    intro gh X K zq zc zq2 zc2 zb zv hK;refine Jg (JK rfl) rfl (Js ?_);exact hK zq zc zq2 zc2 zb zv
   ·
    intro gh gh' h
    rfl
   apply Jy 4 rfl
   iterate 3 focus (intros;(conv=>lhs;simp only [Jo,JB,Ee,JD,JR,eq_self,Nat.reduceEqDiff,reduceIte,Nat.reduceSub,Nat.reduceAdd,List.cons_append,List.nil_append]);all_goals rfl)
   ·
    intro gh X K zq zc zq2 zc2 zb zv hK;refine Jg (Jq u55 rfl sz27 rfl) rfl (Js ?_);exact hK zq zc zq2 zc2 zb zv
   ·
    intro gh gh' h
    rfl
   apply Jy 5 rfl
   iterate 3 focus (intros;(conv=>lhs;simp only [Jo,JB,Ee,JD,JR,eq_self,Nat.reduceEqDiff,reduceIte,Nat.reduceSub,Nat.reduceAdd,List.cons_append,List.nil_append]);all_goals rfl)
   ·
    intro gh X K zq zc zq2 zc2 zb zv hK;refine Jg (Jr rfl At.z rfl pl27) rfl (Js ?_);exact hK zq zc zq2 zc2 zb zv
   ·
    intro gh gh' h
    rfl
   apply Jy 6 rfl
   iterate 3 focus (intros;(conv=>lhs;simp only [Jo,JB,Ee,JD,JR,eq_self,Nat.reduceEqDiff,reduceIte,Nat.reduceSub,Nat.reduceAdd,List.cons_append,List.nil_append]);all_goals rfl)
   ·
    intro gh X K zq zc zq2 zc2 zb zv hK;refine Jg (Jc rfl) rfl (Js ?_);exact hK zq zc zq2 zc2 zb zv
   ·
    intro gh gh' h
    rfl
   apply Jy 7 rfl
   iterate 3 focus (intros;(conv=>lhs;simp only [Jo,JB,Ee,JD,JR,eq_self,Nat.reduceEqDiff,reduceIte,Nat.reduceSub,Nat.reduceAdd,List.cons_append,List.nil_append]);all_goals rfl)
   ·
    intro gh X K zq zc zq2 zc2 zb zv hK;refine Jg (Jc rfl) rfl (Js ?_);exact hK zq zc zq2 zc2 zb zv
   ·
    intro gh gh' h
    rfl
   apply Jy 8 rfl
   iterate 3 focus (intros;(conv=>lhs;simp only [Jo,JB,Ee,JD,JR,eq_self,Nat.reduceEqDiff,reduceIte,Nat.reduceSub,Nat.reduceAdd,List.cons_append,List.nil_append]);all_goals rfl)
   ·
    intro gh X K zq zc zq2 zc2 zb zv hK;refine Jg (JK rfl) rfl (Js ?_);exact hK zq zc zq2 zc2 zb zv
   ·
    intro gh gh' h
    rfl
   apply Jy 9 rfl
   iterate 3 focus (intros;(conv=>lhs;simp only [Jo,JB,Ee,JD,JR,eq_self,Nat.reduceEqDiff,reduceIte,Nat.reduceSub,Nat.reduceAdd,List.cons_append,List.nil_append]);all_goals rfl)
   ·
    intro gh X K zq zc zq2 zc2 zb zv hK;refine Jg (Jq u93 rfl sz50 rfl) rfl (Js ?_);exact hK zq zc zq2 zc2 zb zv
   ·
    intro gh gh' h
    rfl
   apply Jy 10 rfl
   iterate 3 focus (intros;(conv=>lhs;simp only [Jo,JB,Ee,JD,JR,eq_self,Nat.reduceEqDiff,reduceIte,Nat.reduceSub,Nat.reduceAdd,List.cons_append,List.nil_append]);all_goals rfl)
   ·
    intro gh X K zq zc zq2 zc2 zb zv hK;refine Jg (JL (q:=some ⟨bc,0,none⟩) (k:=0) rfl pc0 pl50) rfl (Js ?_);exact hK zq zc zq2 zc2 zb zv
   ·
    intro gh gh' h
    rfl
   apply En 11 rfl
   iterate 3 focus (intros;(conv=>lhs;simp only [Jo,JB,Ee,JD,JR,eq_self,Nat.reduceEqDiff,reduceIte,Nat.reduceSub,Nat.reduceAdd,List.cons_append,List.nil_append]);all_goals rfl)
   ·
    intro gh X K zq zc zq2 zc2 zb zv hK;refine EG pwE (Value.int .i64) pwOk rfl fun bm44=>(Js ?_);exact hK zq zc zq2 zc2 bm44 zv
   ·
    intro gh gh' h;refine ⟨?_,?_⟩ <;> rfl
   apply Jy 12 rfl
   iterate 3 focus (intros;(conv=>lhs;simp only [Jo,JB,Ee,JD,JR,eq_self,Nat.reduceEqDiff,reduceIte,Nat.reduceSub,Nat.reduceAdd,List.cons_append,List.nil_append]);all_goals rfl)
   ·
    intro gh X K zq zc zq2 zc2 zb zv hK;refine Jg (Ju rfl At.z (by simpa [*] using ag87)) rfl (Js ?_);exact hK zq zc zq2 zc2 zb zv
   ·
    intro gh gh' h
    rfl
   apply GJ.sn1 13 rfl
   iterate 3 focus (intros;(conv=>lhs;simp only [Jo,JB,Ee,JD,JR,eq_self,Nat.reduceEqDiff,reduceIte,Nat.reduceSub,Nat.reduceAdd,List.cons_append,List.nil_append]);all_goals rfl)
   ·
    intro gh X K hK;refine J.putOne pwK u90 rfl rfl rfl (pwOk_of hpk (by omega)) At.z (Js ?_);exact hK
   ·
    intro gh gh' h
    first | simp only [h 10 rfl] | rfl
   apply Jy 14 rfl
   iterate 3 focus (intros;(conv=>lhs;simp only [Jo,JB,Ee,JD,JR,eq_self,Nat.reduceEqDiff,reduceIte,Nat.reduceSub,Nat.reduceAdd,List.cons_append,List.nil_append]);all_goals rfl)
   ·
    intro gh X K zq zc zq2 zc2 zb zv hK;refine Jg (Jc rfl) rfl (Js ?_);exact hK zq zc zq2 zc2 zb zv
   ·
    intro gh gh' h
    first | simp only [h 10 rfl] | rfl
   apply En 15 rfl
   iterate 3 focus (intros;(conv=>lhs;simp only [Jo,JB,Ee,JD,JR,eq_self,Nat.reduceEqDiff,reduceIte,Nat.reduceSub,Nat.reduceAdd,List.cons_append,List.nil_append]);all_goals rfl)
   ·
    intro gh X K zq zc zq2 zc2 zb zv hK;refine Jz fn52 rfl rfl fun w hH=>hH.lend .z fun Hl1 hle1 hA1 hB1 hH=>(d_c (pcad.le hle1) (pcaf.le hle1) (hcad.le hle1) (hcaf.le hle1) (omap_H hA1) (Sok.one hpk (by omega)) h8 hA.hd hA.fok hA.hl hocc (by omega) hH).mono ?_;rintro _ w ⟨bo47,rfl,hH⟩;replace hH:=hB1 _ _ hH;refine ⟨_,rfl,fun a hF=>JT hF hH ?_⟩;refine Jw .z (Jw (.s .z) (Js ?_));exact hK zq zc zq2 zc2 bo47 zv
   ·
    intro gh gh' h;refine ⟨?_,?_⟩ <;> (first | simp only [h 10 rfl] | rfl)
   apply En 16 rfl
   iterate 3 focus (intros;(conv=>lhs;simp only [Jo,JB,Ee,JD,JR,eq_self,Nat.reduceEqDiff,reduceIte,Nat.reduceSub,Nat.reduceAdd,List.cons_append,List.nil_append]);all_goals rfl)
   ·
    intro gh X K zq zc zq2 zc2 zb zv hK;refine Jz fn51 rfl rfl fun w hH=>hH.lend (.s .z) fun Hl1 hle1 hA1 hB1 hH=>hH.lend .z fun Hl2 hle2 hA2 hB2 hH=>(row_c (cellO_le hle2 (obj_cell hA1 rfl)) (cellO_le hle2 (obj_cell hA1 rfl)) (omap_H hA2) hds ((hpw24.le hle1).le hle2) ((hpl24.le hle1).le hle2) (monL_nodup h8 _) (by omega) hinx (by have:=monL_len cad (n+1);omega) hH).mono ?_;rintro _ w ⟨qo48,co48,rfl,hH⟩;replace hH:=hB2 _ _ hH;replace hH:=hB1 _ _ hH;refine ⟨_,rfl,fun a hF=>JT hF hH ?_⟩;refine Jw .z (Jw (.s .z) (Jw (.s (.s .z)) (Js ?_)));exact hK qo48 co48 zq2 zc2 zb zv
   ·
    intro gh gh' h;refine ⟨?_,?_⟩ <;> (first | simp only [h 10 rfl,h 14 rfl] | rfl)
   apply En 17 rfl
   iterate 3 focus (intros;(conv=>lhs;simp only [Jo,JB,Ee,JD,JR,eq_self,Nat.reduceEqDiff,reduceIte,Nat.reduceSub,Nat.reduceAdd,List.cons_append,List.nil_append]);all_goals rfl)
   ·
    intro gh X K zq zc zq2 zc2 zb zv hK;refine J.mk (MK.lit1S u27 ze22 sz22 rfl rfl) rfl fun qo49 co49=>(Js ?_);exact hK qo49 co49 zq2 zc2 zb zv
   ·
    intro gh gh' h;refine ⟨?_,?_⟩ <;> (first | simp only [h 10 rfl,h 14 rfl,h 15 rfl] | rfl)
   apply En 18 rfl
   iterate 3 focus (intros;(conv=>lhs;simp only [Jo,JB,Ee,JD,JR,eq_self,Nat.reduceEqDiff,reduceIte,Nat.reduceSub,Nat.reduceAdd,List.cons_append,List.nil_append]);all_goals rfl)
   ·
    intro gh X K zq zc zq2 zc2 zb zv hK;refine J.append1 u27 ze22 sz22 by22 rfl rfl rfl rfl (by omega) (.s .z) At.z (fun _ _=>At.z) rfl fun qo50 co50=>(Jw .z (Jw (.s .z) (Js ?_)));exact hK qo50 co50 zq2 zc2 zb zv
   ·
    intro gh gh' h;refine ⟨?_,?_⟩ <;> (first | simp only [h 10 rfl,h 14 rfl,h 15 rfl,h 16 rfl] | rfl)
   apply Jy 19 rfl
   iterate 3 focus (intros;(conv=>lhs;simp only [Jo,JB,Ee,JD,JR,eq_self,Nat.reduceEqDiff,reduceIte,Nat.reduceSub,Nat.reduceAdd,List.cons_append,List.nil_append]);all_goals rfl)
   ·
    intro gh X K zq zc zq2 zc2 zb zv hK;refine Jg (JK rfl) rfl (Js ?_);exact hK zq zc zq2 zc2 zb zv
   ·
    intro gh gh' h
    first | simp only [h 10 rfl,h 14 rfl,h 15 rfl,h 16 rfl,h 17 rfl] | rfl
   apply Jy 20 rfl
   iterate 3 focus (intros;(conv=>lhs;simp only [Jo,JB,Ee,JD,JR,eq_self,Nat.reduceEqDiff,reduceIte,Nat.reduceSub,Nat.reduceAdd,List.cons_append,List.nil_append]);all_goals rfl)
   ·
    intro gh X K zq zc zq2 zc2 zb zv hK;refine Jg (Jq u55 rfl sz27 rfl) rfl (Js ?_);exact hK zq zc zq2 zc2 zb zv
   ·
    intro gh gh' h
    first | simp only [h 10 rfl,h 14 rfl,h 15 rfl,h 16 rfl,h 17 rfl] | rfl
   apply GJ.sn1 21 rfl
   iterate 3 focus (intros;(conv=>lhs;simp only [Jo,JB,Ee,JD,JR,eq_self,Nat.reduceEqDiff,reduceIte,Nat.reduceSub,Nat.reduceAdd,List.cons_append,List.nil_append]);all_goals rfl)
   ·
    intro gh X K hK;refine Et rfl rfl rfl rfl sz27 (by simp [*]) At.z (Js ?_);exact hK
   ·
    intro gh gh' h
    first | simp only [h 10 rfl,h 14 rfl,h 15 rfl,h 16 rfl,h 17 rfl] | rfl
   apply Ez [0,1,2,3,4,5,6,7,8,9,10,11,12,13,14,15,16,17,18,19,20] [0,1,2,3,4,5,6,7,8,9,11,12,13,14,15,16,17,18,19,20,21,23,24,25] foll0 rfl rfl rfl (by rfl)
   iterate 2 focus (intros;(conv=>lhs;simp only [Jo,JB,Ee,JD,JR,eq_self,Nat.reduceEqDiff,reduceIte,Nat.reduceSub,Nat.reduceAdd,List.cons_append,List.nil_append]);all_goals rfl)
   intro gh;generalize (gh 10).b=bm44;generalize (gh 14).b=bo47;generalize (gh 15).c=co48;generalize (gh 15).q=qo48;generalize (gh 16).c=co49;generalize (gh 16).q=qo49;generalize (gh 17).c=co50;generalize (gh 17).q=qo50;clear gh;refine EJ.fixA (.s (.s .z)) fun Ho48 hleo48 hAo48=>?_;replace pc0:=pc0.le hleo48;replace pc1:=pc1.le hleo48;replace pcad:=pcad.le hleo48;replace pcaf:=pcaf.le hleo48;replace hcad:=hcad.le hleo48;replace hcaf:=hcaf.le hleo48;replace hC:=hC.le hleo48;replace hCr11:=hCr11.le hleo48;replace hL11:=hL11.le hleo48;replace hpw11:=hpw11.le hleo48;replace hpl11:=hpl11.le hleo48;replace hCr24:=hCr24.le hleo48;replace hL24:=hL24.le hleo48;replace hM24:=hM24.le hleo48;replace hpw24:=hpw24.le hleo48;replace hpl24:=hpl24.le hleo48;replace hS:=hS.le hleo48;have hxo48:=own_ints hAo48;have hco48:=own_le hAo48;have hS2:=hS.snoc hxo48 rfl hco48;refine JE (Ja (hK10 (Jb (Jg (JA rfl rfl (by first | exact nw _ (by omega) | rfl)) rfl (Jg (Jc rfl) rfl (Jf (Ja (JQ .z (JQ .z (JQ .z (JQ (.s (.s .z)) (Jw .z (Jw (.s (.s (.s (.s .z)))) (Jw (.s (.s (.s (.s .z)))) (Jw (.s (.s (.s (.s .z)))) ?_)))))))))))))));refine Jw (.s (.s (.s (.s .z)))) ?_;exact hAg0 (Ho48,qo50,co50,_,k+1) ⟨(hlk.trans hleo48),by rw [matK_succ hk1];exact hS2,by omega⟩ (by show (monL cad n).length - (k+1)<(monL cad n).length - k;omega) 26 rfl rfl ⟨rfl,trivial⟩ rfl rfl
  ·
   refine JG (Ji (Ji (JN (Ja (hK3 (Je fun _ hK12 _=>(Jb (Jg (Jc rfl) rfl (J.fixA (.s (.s (.s (.s .z)))) fun Ho18 hleo18 hAo18=>?_)))))))));replace pc0:=pc0.le hleo18;replace pc1:=pc1.le hleo18;replace pcad:=pcad.le hleo18;replace pcaf:=pcaf.le hleo18;replace hcad:=hcad.le hleo18;replace hcaf:=hcaf.le hleo18;replace hC:=hC.le hleo18;replace hCr11:=hCr11.le hleo18;replace hL11:=hL11.le hleo18;replace hpw11:=hpw11.le hleo18;replace hpl11:=hpl11.le hleo18;replace hCr24:=hCr24.le hleo18;replace hL24:=hL24.le hleo18;replace hM24:=hM24.le hleo18;replace hpw24:=hpw24.le hleo18;replace hpl24:=hpl24.le hleo18;replace hS:=hS.le hleo18;have hxo18:=hS.rows (Le.refl _) hAo18;have hco18:=own_le hAo18;refine Jg (Jd rfl) rfl (Jf (Ja (hK12 (Jp (Jk rfl (Res.tmp rfl) fun w hH=>?_)))));replace hH:=hH.sublist (.cons_cons _ (.cons_cons _ (.cons_cons _ (.cons_cons _ (List.Sublist.refl _)))))
   have hke:k=(monL cad n).length:=by omega
   rw [matK_end hke] at hxo18;have hm2:SlIs Ho18 ⟨q,k,c⟩ (matS cad caf n):=⟨by rw [matS_len];exact hke,hxo18⟩;have hN0:Nxt (fun m=>X m∨m=n) ((n,⟨b11,p11,⟨ql11,(monL cad (n)).length,cl11⟩,⟨qo18,0,co18⟩,⟨qz11,kz11,cz11⟩,⟨qy11,ky11,cy11⟩,⟨qx11,kx11,cx11⟩⟩)::rs11):=((hN11 _ hN).perm hp11).swap hne11 (fun m h _ hX=>h (.inl hX)) fun h=>absurd (.inr rfl) h
   have hne2 : ∀z∈(n+1,⟨b24,p24,⟨ql24,(monL cad (n+1)).length,cl24⟩,⟨qm24,km24,cm24⟩,⟨qz24,kz24,cz24⟩,⟨qy24,ky24,cy24⟩,⟨qx24,kx24,cx24⟩⟩)::rs24,z.1≠n:=fun z hz=>by
    rcases List.mem_cons.1 hz with rfl | hz
    ·show n+1≠n
     omega
    ·exact (hne24 z hz).1
   have hNf:Nxt X ((n,⟨b11,p11,⟨ql11,(monL cad (n)).length,cl11⟩,⟨q,k,c⟩,⟨qz11,kz11,cz11⟩,⟨qy11,ky11,cy11⟩,⟨qx11,kx11,cx11⟩⟩)::(n+1,⟨b24,p24,⟨ql24,(monL cad (n+1)).length,cl24⟩,⟨qm24,km24,cm24⟩,⟨qz24,kz24,cz24⟩,⟨qy24,ky24,cy24⟩,⟨qx24,kx24,cx24⟩⟩)::rs24):=((hN24 _ hN0).perm hp24).swap hne2 (fun m h1 h2 h3=>h3.elim h1 h2) fun _ _=>by simp
   have hq0:qm11=none:=by cases qm11 <;> simp_all
   have hKp:Kp ls ((n,⟨b11,p11,⟨ql11,(monL cad (n)).length,cl11⟩,⟨q,k,c⟩,⟨qz11,kz11,cz11⟩,⟨qy11,ky11,cy11⟩,⟨qx11,kx11,cx11⟩⟩)::(n+1,⟨b24,p24,⟨ql24,(monL cad (n+1)).length,cl24⟩,⟨qm24,km24,cm24⟩,⟨qz24,kz24,cz24⟩,⟨qy24,ky24,cy24⟩,⟨qx24,kx24,cx24⟩⟩)::rs24):=fun y hy hF=>by
    have h1:y∈rs11:=by
     rcases List.mem_cons.1 (hp11.subset (hsub11 y hy)) with rfl | h1
     ·have h2:qm11.isSome=true:=hF.1;rw [hq0] at h2
      cases h2
     ·exact h1
    rcases List.mem_cons.1 (hp24.subset (hsub24 y (List.mem_cons_of_mem _ h1))) with rfl | h2
    ·exact absurd rfl (hne11 _ h1)
    ·exact List.mem_cons_of_mem _ h2
   refine ⟨_,(n,⟨b11,p11,⟨ql11,(monL cad (n)).length,cl11⟩,⟨q,k,c⟩,⟨qz11,kz11,cz11⟩,⟨qy11,ky11,cy11⟩,⟨qx11,kx11,cx11⟩⟩)::(n+1,⟨b24,p24,⟨ql24,(monL cad (n+1)).length,cl24⟩,⟨qm24,km24,cm24⟩,⟨qz24,kz24,cz24⟩,⟨qy24,ky24,cy24⟩,⟨qx24,kx24,cx24⟩⟩)::rs24,_,(((hle11.trans hle24).trans hlk).trans hleo18),?_,List.mem_cons_self,fun y hy hyn=>?_,hNf,by simp,⟨hm2,hKp⟩,rfl,Hp.lvIn2 (x:=(n,⟨b11,p11,⟨ql11,(monL cad (n)).length,cl11⟩,⟨q,k,c⟩,⟨qz11,kz11,cz11⟩,⟨qy11,ky11,cy11⟩,⟨qx11,kx11,cx11⟩⟩)) (y:=(n+1,⟨b24,p24,⟨ql24,(monL cad (n+1)).length,cl24⟩,⟨qm24,km24,cm24⟩,⟨qz24,kz24,cz24⟩,⟨qy24,ky24,cy24⟩,⟨qx24,kx24,cx24⟩⟩)) hH⟩
   ·have hC1:=hCr24.mono (Y:=X) fun z hz h=>h.resolve_right (hne24 z hz).1;refine ((hC1.cons (fun z hz=>(hne24 z hz).2) (hL24.mono fun h=>h.resolve_right (by omega))).cons hne2 ⟨⟨rfl,hpw11,hpl11,hL11.one.z⟩,fun _ _ _=>hm2,hL11.three⟩)
   ·have h1:y∈rs11:=by
     rcases List.mem_cons.1 (hp11.subset (hsub11 y hy)) with rfl | h1
     ·exact absurd rfl hyn
     ·exact h1
    rcases List.mem_cons.1 (hp24.subset (hsub24 y (List.mem_cons_of_mem _ h1))) with rfl | h2
    ·exact absurd rfl hyn
    ·exact List.mem_cons_of_mem _ h2
 ·
  refine Jj (Ja (hK3 (Je fun _ hK13 _=>(Jb (Jg (Jc rfl) rfl (Jg (Jd rfl) rfl (Jf (Ja (hK13 (Jp (Jk rfl (Res.tmp rfl) fun w hH=>?_)))))))))));replace hH:=hH.sublist (.cons_cons _ (.cons_cons _ (.cons_cons _ (List.Sublist.refl _))))
  have hq:qm11.isSome=true:=by cases qm11 <;> simp_all
  exact ⟨_,(n,⟨b11,p11,⟨ql11,(monL cad (n)).length,cl11⟩,⟨qm11,km11,cm11⟩,⟨qz11,kz11,cz11⟩,⟨qy11,ky11,cy11⟩,⟨qx11,kx11,cx11⟩⟩)::rs11,_,hle11,hCr11.cons hne11 hL11,List.mem_cons_self,fun y hy _=>hp11.subset (hsub11 y hy),(hN11 _ hN).perm hp11,(hN11 _ hN).perm hp11 _ List.mem_cons_self hX hq,⟨hL11.two hX hq hfit,fun y hy _=>hp11.subset (hsub11 y hy)⟩,rfl,Hp.lvIn (x:=(n,⟨b11,p11,⟨ql11,(monL cad (n)).length,cl11⟩,⟨qm11,km11,cm11⟩,⟨qz11,kz11,cz11⟩,⟨qy11,ky11,cy11⟩,⟨qx11,kx11,cx11⟩⟩)) hH⟩
theorem matS_ok {ds:List Int} {fs:List (List Term)} {n:Int} (hA:AlgOk ds fs) (h8:ds.length≤8) (hd : ∀j,j<ds.length→1≤ds.getD j 0∧ds.getD j 0≤12) : ∀r∈matS ds fs n,RowOk (monL ds (n+1)).length r:=fun r hr=>by
 obtain ⟨p,hp,rfl⟩:=List.mem_map.1 hr
 have hp':p∈monS ds n:=List.mem_of_mem_take hp
 have hs:=dS_sok (ds:=ds) (Sok.one (k:=1) (mon_pok h8 hp') (by omega)) hA.fok (mon_occ h8 hp' hd hA.hl)
 refine ⟨by simp,fun k=>?_⟩
 by_cases hk:k<(monL ds (n+1)).length
 ·have e:((monL ds (n+1)).map (cf (dS ds fs [(p,1)]))).getD k 0=cf (dS ds fs [(p,1)]) (monL ds (n+1))[k]:=by simp [List.getD_eq_getElem?_getD,List.getElem?_eq_getElem hk]
  rw [e]
  exact cf_bd hs _
 ·rw [getD_ge (by simp;omega)]
  omega
theorem u69:Try.prog.underlying 69=some (TypeDesc.slice 78):=by kernel_rfl
theorem by78:Bytes Try.prog 78 8:=by unfold Bytes;kernel_rfl
theorem fn61:Fn Try.prog 61:=⟨_,Try.func61,by kernel_rfl,rfl⟩
theorem EnI.stop {ds:List Int} {i:Nat} {m mm:Pw} {n e:Int} {A acc:List Pw} (h:EnI ds i m n e A mm) (hl:401≤(capL 401 acc A).length):capL 401 acc A=capL 401 acc (enS ds i m n):=by
 rw [← h.eq,← capL_app,capL_full hl]
theorem EnI.stop2 {ds:List Int} {i:Nat} {m mm:Pw} {n e:Int} {A acc:List Pw} (h:EnI ds i m n e A mm) (he : ¬0≤e):capL 401 acc A=capL 401 acc (enS ds i m n):=by rw [← h.end (by omega)]
theorem topS_odd {d n:Int} (h0:1≤d) (h:d.tmod 2≠0):min (min (n.tdiv d) 1) 20=topM d n:=by
 have:=tmod_two (d:=d) (by omega);rw [topM,if_pos (by omega)]
 omega
theorem topS_even {d n:Int} (h : ¬d.tmod 2≠0):min (n.tdiv d) 20=topM d n:=by
 rw [topM,if_neg (by omega)]
theorem Mono.set {m:List Int} (h:Mono m) {i:Nat} {e:Int} (he:0≤e∧e≤255):Mono (m.set i e):=⟨by rw [List.length_set];exact h.len,fun j=>by
 rw [getD_set8]
 split
 ·exact he
 ·exact h.bd j⟩
structure EnB (ds:List Int) (i:Nat) (m:Pw) (n e:Int) (A:List Pw) (mm:Pw):Prop where
 en:EnI ds i m n e A mm
 mo:Mono mm
theorem l01FillX_c {B:World} {H0 H:HP} {L:List SA} {w:World} {qds:Option Addr} {cds:Nat} {ds:List Int} {m:List Int} {i:Nat} {n:Int} {qo:Option Addr} {co:Nat} {acc:List Pw} (hds:Ints H qds ds) (hm:Mono m) (hd : ∀j,j<ds.length→1≤ds.getD j 0∧ds.getD j 0≤12) (hi:i≤ds.length) (h8:ds.length≤8) (hn : -1000000≤n∧n≤1000000) (ha:acc.length≤400) (hrec:i<ds.length→∀(m':Pw) (n':Int) (acc':List Pw) (qo':Option Addr) (co':Nat),Mono m' → -1000000≤n' ∧n' ≤1000000→acc'.length≤400→∀(L:List SA) (w:World),Hp B H0 H (own 78 8 qo' acc'.length co' (msC acc')::L) w→Calls Try.prog 61 [.slice qds ds.length cds,.agg (bytesC m').toArray,.int .i64 ((i+1:Nat):Int),.int .i64 n',.slice qo' acc'.length co'].toArray w fun r w'=>∃q c,r = .returned (.slice q (capL 401 acc' (enS ds (i+1) m' n')).length c)∧Hp B H0 H (own 78 8 q (capL 401 acc' (enS ds (i+1) m' n')).length c (msC (capL 401 acc' (enS ds (i+1) m' n')))::L) w') (hH:Hp B H0 H (own 78 8 qo acc.length co (msC acc)::L) w):Calls Try.prog 61 [.slice qds ds.length cds,.agg (bytesC m).toArray,.int .i64 (i:Int),.int .i64 n,.slice qo acc.length co].toArray w fun e w'=>∃q c,e = .returned (.slice q (capL 401 acc (enS ds i m n)).length c)∧Hp B H0 H (own 78 8 q (capL 401 acc (enS ds i m n)).length c (msC (capL 401 acc (enS ds i m n)))::L) w':=by
 refine Jt Try.func61 rfl 68 rfl rfl [(0,.slice qds ds.length cds),(1,.agg (bytesC m).toArray),(2,.int .i64 (i:Int)),(3,.int .i64 n),(4,.slice qo acc.length co)] rfl hH ?_;have hml:=hm.len;clear hH;refine Je fun _ hK1 _=>(Jb (Eb rfl rfl rfl fun g6=>(Jg (Jd rfl) rfl (Jf (Ja (hK1 (Je fun _ hK2 _=>(Je fun _ hK3 _=>(Jb (Jg (Jc rfl) rfl (Jg (Jc rfl) rfl (Jg (Jn u22 rfl rfl) rfl (Jg (Ew rfl rfl) rfl (Jf (Ja (hK3 ?_))))))))))))))));refine Jl rfl (fun h16=>?_) (fun h16=>?_)
 ·
  refine Je fun _ hK4 _=>(Je fun _ hK5 _=>(Jb (Jg (Jc rfl) rfl (Jg (Ew rfl rfl) rfl (Jf (Ja (hK5 (Jl rfl (fun h18=>?_) (fun h18=>?_)))))))))
  ·
   refine Je fun _ hK6 _=>(Jb (Jg (Jc rfl) rfl (Jg (Ju rfl At.z (by simpa [*] using ag78)) rfl (J.mk (MK.lit8 cf8B u69 ze78 rfl sz78 hm.len rfl) rfl fun qo21 co21=>(J.append8 cf8B u69 ze78 rfl sz78 by78 rfl rfl rfl (by omega) .z (.s .z) (fun _ _=>(.s .z)) rfl fun qo22 co22=>(Jg (Jd rfl) rfl (Jf (Ja (hK6 (Jp (Jh (Jh (Jk rfl (Res.tmp rfl) fun w hH=>?_)))))))))))));replace hH:=hH.sublist (.cons _ (.cons _ (.cons_cons _ (List.Sublist.refl _))));rw [show enS ds i m n=[m] from by rw [enS,enum_end (by omega),if_pos h18],capL_one (by omega),List.length_append];exact ⟨qo22,co22,rfl,hH⟩
  ·
   refine Jj (Ja (hK4 (Je fun _ hK7 _=>(Jb (Jg (Jc rfl) rfl (Jg (Jd rfl) rfl (Jf (Ja (hK7 (Jp (Jh (Jk rfl (Res.tmp rfl) fun w hH=>?_))))))))))));replace hH:=hH.sublist (.cons _ (.cons_cons _ (List.Sublist.refl _)));rw [show enS ds i m n=[] from by rw [enS,enum_end (by omega),if_neg h18],capL_nil];exact ⟨qo,co,rfl,hH⟩
 ·
  have hil:i<ds.length:=by omega
  have hdi:=hd i hil;have htb:=tdiv_b hdi.1 hn;have htt:=tmod_bd n;have hts:=topM_20 (ds.getD i 0) n;have htl:=topM_lo hdi.1 hn;refine Jj (Ja (hK2 (Je fun _ hK8 _=>(Jb (Jg (Jc rfl) rfl (Jg (Jc rfl) rfl (Jg (Jc rfl) rfl (Jg (JY u22 sz2 rfl rfl rfl hil hds.sm) rfl (Jg (JL rfl (hds _ hil) pl2) rfl (Jg (PR.quo rfl rfl (by omega) (nw _ (by omega))) rfl (Jg (Jd rfl) rfl (Jf (Ja (hK8 (CJ.cutU (σ:=Int) (fun (t:Int)=>[(11,.int .i64 t)]) (fun (t:Int)=>H) (fun (t:Int)=>obj g6 (.cells (bytesC m).toArray 78 (0,0))::own 78 8 qo acc.length co (msC acc)::L) (fun (t:Int)=>min t 20=topM (ds.getD i 0) n) ?_ ?_)))))))))))))))
  ·
   intro _ hMt1;refine Je fun _ hK9 _=>(Jb (Jg (Jc rfl) rfl (Jg (Jc rfl) rfl (Jg (JY u22 sz2 rfl rfl rfl hil hds.sm) rfl (Jg (JL rfl (hds _ hil) pl2) rfl (Jg (EA rfl rfl (by decide) rfl) rfl (Jg (Ek rfl rfl) rfl (Jf (Ja (hK9 (Jl rfl (fun h35=>?_) (fun h35=>?_))))))))))))
   ·
    refine Jb (Jg (Jc rfl) rfl (Jg (PR.min2 rfl rfl) rfl (Jg (Jd rfl) rfl (Jf (Ja ?_)))));exact hMt1 (min (n.tdiv (ds.getD i 0)) 1) (topS_odd hdi.1 h35) 9 rfl rfl ⟨(vi (min_if _ _)),trivial⟩ rfl rfl
   ·
    refine Jj (Ja ?_);exact hMt1 (n.tdiv (ds.getD i 0)) (topS_even h35) 6 rfl rfl ⟨rfl,trivial⟩ rfl rfl
  ·
   rintro t ht;refine Je fun _ hK10 _=>(Je fun _ hK11 _=>(Jb (Jg (Jc rfl) rfl (Jg (PR.eqv (v':=.int .i64 (topM (ds.getD i 0) n)) (by rw [min_if,ht]) (PR.min2 rfl rfl)) rfl (Jg (Jd rfl) rfl (Jf (Ja (hK11 (Jm (JC (σ:=Int × List Pw × Pw × Option Addr × Nat) (fun ⟨e,A,mm,qo1,co1⟩=>[(12,.int .i64 e),(4,.slice qo1 (capL 401 acc A).length co1)]) (fun ⟨e,A,mm,qo1,co1⟩=>H) (fun ⟨e,A,mm,qo1,co1⟩=>obj g6 (.cells (bytesC mm).toArray 78 (0,0))::own 78 8 qo1 (capL 401 acc A).length co1 (msC (capL 401 acc A))::L) (fun ⟨e,A,mm,qo1,co1⟩=>EnB ds i m n e A mm) (fun ⟨e,A,mm,qo1,co1⟩=>(e+1).toNat) (topM (ds.getD i 0) n, [],m,qo,co) ⟨EnI.start hm.len hil hdi.1 hn,hm⟩ ⟨rfl,⟨(by rw [capL_nil];rfl),trivial⟩⟩ rfl (by dsimp only;rw [capL_nil]) ?_))))))))));rintro ⟨e,A,mm,qo1,co1⟩ hI _ hAg0;have hen:=hI.en;have hlo:=hen.lo;have hhi:=hen.hi;have hmml:=hI.mo.len;refine Je fun _ hK12 _=>(Je fun _ hK13 _=>(Jb (Jg (Jc rfl) rfl (Jg (PR.geq rfl rfl) rfl (Jg (Jc rfl) rfl (Eg (jd:=42) rfl (fun h41=>?_) (fun h41=>?_)))))))
   ·
    try have h41p:=of_decide_eq_true h41
    refine JU (Jc rfl) rfl rfl rfl h41 (JU (Jn u69 rfl rfl) rfl rfl rfl h41 (JU (PR.leq rfl rfl) rfl rfl rfl h41 (Jg (JX rfl h41 rfl) rfl (Jf (Ja (hK13 (Jl rfl (fun h45p=>?_) (fun h45p=>?_))))))))
    ·
     have hlb:=left_b hdi h41p hhi hn;have hmo:=hI.mo.set (i:=i) (e:=e) (by omega);refine Jj (Ja (hK12 (Je fun _ hK14 _=>(Jm (Je fun _ hK15 _=>(Jb (Jg (Jc rfl) rfl (Jg (Jc rfl) rfl (Jg (PR.conv u2 u5 rfl (u8_id (by omega))) rfl (Jg (JP u78 sz5 rfl rfl rfl (by omega)) rfl (J.storeB rfl rfl sz5 (by simp [*];omega) At.z (Jf (Ja (hK15 (Ey (Rs:=[_,_]) 15 [[], [], [], [2], [], [], [], [], [6,7], [6,7,8], [5,6,7,8,9], [4,5,6,7,8,9,10], [], [0,1,2,3,4,5,6,7,8,9,10,11,12], [0,1,2,3,4,5,6,7,8,9,10,11,12,13]] [[], [15], [], [], [], [], [], [], [], [], [], [], [], [], []] [[], [], [], [], [], [], [], [], [], [], [], [], [], [16], []] rfl rfl (by kernel_rfl) ?_)))))))))))))));apply Jy 1 rfl
     iterate 3 focus (intros;(conv=>lhs;simp only [Jo,JB,Ee,JD,JR,eq_self,Nat.reduceEqDiff,reduceIte,Nat.reduceSub,Nat.reduceAdd,List.cons_append,List.nil_append]);all_goals rfl)
     ·
      intro gh X K zq zc zq2 zc2 zb zv hK;refine Jg (Jc rfl) rfl (Js ?_);exact hK zq zc zq2 zc2 zb zv
     ·
      intro gh gh' h
      rfl
     apply Jy 2 rfl
     iterate 3 focus (intros;(conv=>lhs;simp only [Jo,JB,Ee,JD,JR,eq_self,Nat.reduceEqDiff,reduceIte,Nat.reduceSub,Nat.reduceAdd,List.cons_append,List.nil_append]);all_goals rfl)
     ·
      intro gh X K zq zc zq2 zc2 zb zv hK;refine Jg (Ju rfl At.z (by simpa [*] using ag78)) rfl (Js ?_);exact hK zq zc zq2 zc2 zb zv
     ·
      intro gh gh' h
      rfl
     apply Jy 3 rfl
     iterate 3 focus (intros;(conv=>lhs;simp only [Jo,JB,Ee,JD,JR,eq_self,Nat.reduceEqDiff,reduceIte,Nat.reduceSub,Nat.reduceAdd,List.cons_append,List.nil_append]);all_goals rfl)
     ·
      intro gh X K zq zc zq2 zc2 zb zv hK;refine Jg (Jc rfl) rfl (Js ?_);exact hK zq zc zq2 zc2 zb zv
     ·
      intro gh gh' h
      rfl
     apply Jy 4 rfl
     iterate 3 focus (intros;(conv=>lhs;simp only [Jo,JB,Ee,JD,JR,eq_self,Nat.reduceEqDiff,reduceIte,Nat.reduceSub,Nat.reduceAdd,List.cons_append,List.nil_append]);all_goals rfl)
     ·
      intro gh X K zq zc zq2 zc2 zb zv hK;refine Jg (JA rfl rfl (by first | exact nw _ (by omega) | rfl)) rfl (Js ?_);exact hK zq zc zq2 zc2 zb zv
     ·
      intro gh gh' h
      rfl
     apply Jy 5 rfl
     iterate 3 focus (intros;(conv=>lhs;simp only [Jo,JB,Ee,JD,JR,eq_self,Nat.reduceEqDiff,reduceIte,Nat.reduceSub,Nat.reduceAdd,List.cons_append,List.nil_append]);all_goals rfl)
     ·
      intro gh X K zq zc zq2 zc2 zb zv hK;refine Jg (Jc rfl) rfl (Js ?_);exact hK zq zc zq2 zc2 zb zv
     ·
      intro gh gh' h
      rfl
     apply Jy 6 rfl
     iterate 3 focus (intros;(conv=>lhs;simp only [Jo,JB,Ee,JD,JR,eq_self,Nat.reduceEqDiff,reduceIte,Nat.reduceSub,Nat.reduceAdd,List.cons_append,List.nil_append]);all_goals rfl)
     ·
      intro gh X K zq zc zq2 zc2 zb zv hK;refine Jg (Jc rfl) rfl (Js ?_);exact hK zq zc zq2 zc2 zb zv
     ·
      intro gh gh' h
      rfl
     apply Jy 7 rfl
     iterate 3 focus (intros;(conv=>lhs;simp only [Jo,JB,Ee,JD,JR,eq_self,Nat.reduceEqDiff,reduceIte,Nat.reduceSub,Nat.reduceAdd,List.cons_append,List.nil_append]);all_goals rfl)
     ·
      intro gh X K zq zc zq2 zc2 zb zv hK;refine Jg (Jc rfl) rfl (Js ?_);exact hK zq zc zq2 zc2 zb zv
     ·
      intro gh gh' h
      rfl
     apply Jy 8 rfl
     iterate 3 focus (intros;(conv=>lhs;simp only [Jo,JB,Ee,JD,JR,eq_self,Nat.reduceEqDiff,reduceIte,Nat.reduceSub,Nat.reduceAdd,List.cons_append,List.nil_append]);all_goals rfl)
     ·
      intro gh X K zq zc zq2 zc2 zb zv hK;refine Jg (Jc rfl) rfl (Js ?_);exact hK zq zc zq2 zc2 zb zv
     ·
      intro gh gh' h
      rfl
     apply Jy 9 rfl
     iterate 3 focus (intros;(conv=>lhs;simp only [Jo,JB,Ee,JD,JR,eq_self,Nat.reduceEqDiff,reduceIte,Nat.reduceSub,Nat.reduceAdd,List.cons_append,List.nil_append]);all_goals rfl)
     ·
      intro gh X K zq zc zq2 zc2 zb zv hK;refine Jg (JY u22 sz2 rfl rfl rfl hil hds.sm) rfl (Js ?_);exact hK zq zc zq2 zc2 zb zv
     ·
      intro gh gh' h
      rfl
     apply Jy 10 rfl
     iterate 3 focus (intros;(conv=>lhs;simp only [Jo,JB,Ee,JD,JR,eq_self,Nat.reduceEqDiff,reduceIte,Nat.reduceSub,Nat.reduceAdd,List.cons_append,List.nil_append]);all_goals rfl)
     ·
      intro gh X K zq zc zq2 zc2 zb zv hK;refine Jg (JL rfl (hds _ hil) pl2) rfl (Js ?_);exact hK zq zc zq2 zc2 zb zv
     ·
      intro gh gh' h
      rfl
     apply Jy 11 rfl
     iterate 3 focus (intros;(conv=>lhs;simp only [Jo,JB,Ee,JD,JR,eq_self,Nat.reduceEqDiff,reduceIte,Nat.reduceSub,Nat.reduceAdd,List.cons_append,List.nil_append]);all_goals rfl)
     ·
      intro gh X K zq zc zq2 zc2 zb zv hK;refine Jg (ED rfl rfl (nw _ (by omega))) rfl (Js ?_);exact hK zq zc zq2 zc2 zb zv
     ·
      intro gh gh' h
      rfl
     apply Jy 12 rfl
     iterate 3 focus (intros;(conv=>lhs;simp only [Jo,JB,Ee,JD,JR,eq_self,Nat.reduceEqDiff,reduceIte,Nat.reduceSub,Nat.reduceAdd,List.cons_append,List.nil_append]);all_goals rfl)
     ·
      intro gh X K zq zc zq2 zc2 zb zv hK;refine Jg (PR.sub rfl rfl (nw _ (by omega))) rfl (Js ?_);exact hK zq zc zq2 zc2 zb zv
     ·
      intro gh gh' h
      rfl
     apply Jy 13 rfl
     iterate 3 focus (intros;(conv=>lhs;simp only [Jo,JB,Ee,JD,JR,eq_self,Nat.reduceEqDiff,reduceIte,Nat.reduceSub,Nat.reduceAdd,List.cons_append,List.nil_append]);all_goals rfl)
     ·
      intro gh X K zq zc zq2 zc2 zb zv hK;refine Jg (Jc rfl) rfl (Js ?_);exact hK zq zc zq2 zc2 zb zv
     ·
      intro gh gh' h
      rfl
     apply En 14 rfl
     iterate 3 focus (intros;(conv=>lhs;simp only [Jo,JB,Ee,JD,JR,eq_self,Nat.reduceEqDiff,reduceIte,Nat.reduceSub,Nat.reduceAdd,List.cons_append,List.nil_append]);all_goals rfl)
     ·
      intro gh X K zq zc zq2 zc2 zb zv hK;refine Jz fn61 rfl rfl fun w hH=>(hrec hil (mm.set i e) (n - e * ds.getD i 0) (capL 401 acc A) qo1 co1 hmo hlb.2 (by omega) _ _ (hH.front .z)).mono ?_;rintro _ w ⟨qo66,co66,rfl,hH⟩;refine ⟨_,rfl,fun a hF=>JT hF hH ?_⟩;refine Js ?_;exact hK qo66 co66 zq2 zc2 zb zv
     ·
      intro gh gh' h;refine ⟨?_,?_⟩ <;> rfl
     apply Jy 15 rfl
     iterate 3 focus (intros;(conv=>lhs;simp only [Jo,JB,Ee,JD,JR,eq_self,Nat.reduceEqDiff,reduceIte,Nat.reduceSub,Nat.reduceAdd,List.cons_append,List.nil_append]);all_goals rfl)
     ·
      intro gh X K zq zc zq2 zc2 zb zv hK;refine Jg (Jd rfl) rfl (Js ?_);exact hK zq zc zq2 zc2 zb zv
     ·
      intro gh gh' h
      first | simp only [h 13 rfl] | rfl
     apply Ez [0,1,2,3,4,5,6,7,8,9,10,11,12,13,14] [0,1,2,3,4,5,6,7,8,9,10,11,12,13,14,15] foll0 rfl rfl rfl (by rfl)
     iterate 2 focus (intros;(conv=>lhs;simp only [Jo,JB,Ee,JD,JR,eq_self,Nat.reduceEqDiff,reduceIte,Nat.reduceSub,Nat.reduceAdd,List.cons_append,List.nil_append]);all_goals rfl)
     intro gh;generalize (gh 13).c=co66;generalize (gh 13).q=qo66;clear gh;refine JE (Ja (hK14 (Jb (Jg (Jc rfl) rfl (Jg (PR.sub rfl rfl (by first | exact nw _ (by omega) | rfl)) rfl (Jg (Jd rfl) rfl (Jf (Ja (Jw .z (Jw (.s .z) ?_))))))))));exact hAg0 (e - 1,A++enG ds i m n e,mm.set i e,qo66,co66) ⟨hen.next h41p,hmo⟩ (by show (e - 1+1).toNat<(e+1).toNat;omega) 31 rfl rfl ⟨rfl,⟨(by rw [← capL_app,← enG_set hen.set];rfl),trivial⟩⟩ rfl (by dsimp only;rw [← capL_app,← enG_set hen.set])
    ·
     refine JG (Ji (Ji (JN (Ja (hK10 (Je fun _ hK16 _=>(Jb (Jg (Jc rfl) rfl (Jg (Jd rfl) rfl (Jf (Ja (hK16 (Jp (Jk rfl (Res.tmp rfl) fun w hH=>?_))))))))))))));replace hH:=hH.sublist (.cons _ (.cons_cons _ (List.Sublist.refl _)));rw [← hen.stop (by omega)];exact ⟨_,_,rfl,hH⟩
   ·
    try have h41p:=of_decide_eq_false h41
    refine JO rfl rfl rfl h41 (JO rfl rfl rfl h41 (JO rfl rfl rfl h41 (Jg (JV rfl h41 rfl) rfl (Jf (Ja (hK13 (Er rfl (JG (Ji (Ji (JN (Ja (hK10 (Je fun _ hK17 _=>(Jb (Jg (Jc rfl) rfl ?_))))))))))))))));refine Jg (Jd rfl) rfl (Jf (Ja (hK17 (Jp (Jk rfl (Res.tmp rfl) fun w hH=>?_)))));replace hH:=hH.sublist (.cons _ (.cons_cons _ (List.Sublist.refl _)));rw [← hen.stop2 h41p];exact ⟨_,_,rfl,hH⟩
theorem l01Fill_n {B:World} {H0 H:HP} {qds:Option Addr} {cds:Nat} {ds:List Int} (hds:Ints H qds ds) (hd : ∀j,j<ds.length→1≤ds.getD j 0∧ds.getD j 0≤12) (h8:ds.length≤8) : ∀(k i:Nat) (m:Pw) (n:Int) (acc:List Pw) (qo:Option Addr) (co:Nat),ds.length - i≤k→i≤ds.length→Mono m→ -1000000≤n∧n≤1000000→acc.length≤400→∀(L:List SA) (w:World),Hp B H0 H (own 78 8 qo acc.length co (msC acc)::L) w→Calls Try.prog 61 [.slice qds ds.length cds,.agg (bytesC m).toArray,.int .i64 (i:Int),.int .i64 n,.slice qo acc.length co].toArray w fun r w'=>∃q c,r = .returned (.slice q (capL 401 acc (enS ds i m n)).length c)∧Hp B H0 H (own 78 8 q (capL 401 acc (enS ds i m n)).length c (msC (capL 401 acc (enS ds i m n)))::L) w'
 | 0,i,m,n,acc,qo,co,hk,hi,hm,hn,ha,L,w,hH=>l01FillX_c hds hm hd hi h8 hn ha (fun h=>by omega) hH
 | k+1,i,m,n,acc,qo,co,hk,hi,hm,hn,ha,L,w,hH=>l01FillX_c hds hm hd hi h8 hn ha (fun h m' n' acc' qo' co' h1 h2 h3 L w hH=>l01Fill_n hds hd h8 k (i+1) m' n' acc' qo' co' (by omega) (by omega) h1 h2 h3 L w hH) hH
def monT (ds:List Int) (n:Int):List Pw:=(monS ds n).take 401
theorem mon_capS (ds:List Int) (n:Int) (m:Pw) (hm:m=zP):capL 401 [] (enS ds 0 m n)=monT ds n:=by
 subst hm;rw [capL_zero]
 rfl
theorem monT_fit {ds:List Int} {n:Int}:(decide (((monT ds n).length:Int)>120)) = !fitB ds n:=by
 unfold monT fitB;rw [List.length_take,← decide_not];simp only [decide_eq_decide]
 omega
theorem monT_eq {ds:List Int} {n:Int} (h:fitB ds n=true):monT ds n=monS ds n:=List.take_of_length_le (by have:=of_decide_eq_true h;omega)
theorem Mono.zP:Mono zP:=⟨rfl,fun j=>by rw [show G.zP=List.replicate 8 0 from rfl,rep_get];omega⟩
theorem l01Monomials_c {B:World} {H0 H:HP} {L:List SA} {w:World} {qds:Option Addr} {cds:Nat} {ds:List Int} {n:Int} (hds:Ints H qds ds) (hd : ∀j,j<ds.length→1≤ds.getD j 0∧ds.getD j 0≤12) (h8:ds.length≤8) (hn : -1000000≤n∧n≤1000000) (hH:Hp B H0 H L w):Calls Try.prog 36 [.slice qds ds.length cds,.int .i64 n].toArray w fun e w'=>∃q c,e = .returned (.slice q (monT ds n).length c)∧Hp B H0 H (own 78 8 q (monT ds n).length c (msC (monT ds n))::L) w':=by
 refine Jt Try.func36 rfl 9 rfl rfl [(0,.slice qds ds.length cds),(1,.int .i64 n)] rfl hH ?_;clear hH;refine Je fun _ hK1 _=>(Jb (Jg (Jd rfl) rfl (Jf (Ja (hK1 (Je fun _ hK2 _=>(Jb (Jg (Jc rfl) rfl (Jg (Es bz78) rfl (Jg (Jc rfl) rfl (J.own0 78 8 (Jz fn61 rfl rfl fun w hH=>(l01Fill_n hds hd h8 ds.length 0 zP n [] none 0 (by omega) (by omega) Mono.zP hn (by simp) _ _ hH).mono ?_))))))))))));rintro _ w ⟨qo2,co2,rfl,hH⟩;refine ⟨_,rfl,fun a hF=>JT hF hH ?_⟩;refine Jg (Jd rfl) rfl (Jf (Ja (hK2 (Jp (Jk rfl (Res.tmp rfl) fun w hH=>?_)))));replace hH:=hH.sublist (.cons_cons _ (List.Sublist.refl _));rw [mon_capS _ _ _ rfl] at hH ⊢;exact ⟨qo2,co2,rfl,hH⟩
theorem fn36:Fn Try.prog 36:=⟨_,Try.func36,by kernel_rfl,rfl⟩
def wiB (ds:List Int) (a b:Int):Bool:=(List.range (b+1 - max a 0).toNat).all fun k:Nat=>fitB ds (max a 0+(k:Int))
theorem wiB_no {ds:List Int} {a b:Int} {k:Nat} (h:max a 0+(k:Int)≤b) (hf:fitB ds (max a 0+(k:Int))=false):wiB ds a b=false:=by
 cases hh:wiB ds a b with
 | false=>rfl
 | true=>
  have:=List.all_eq_true.1 hh k (List.mem_range.2 (by omega));rw [hf] at this
  cases this
theorem wiB_yes {ds:List Int} {a b:Int} (h : ∀k:Nat,max a 0+(k:Int)≤b→fitB ds (max a 0+(k:Int))=true):wiB ds a b=true:=
 List.all_eq_true.2 fun k hk=>h k (by have:=List.mem_range.1 hk;omega)
theorem vmax (lo:Int):Value.int .i64 (if 0>lo then 0 else lo) = .int .i64 (max lo 0+((0:Nat):Int)):=by
 congr 1
 omega
theorem l03Within_c {B:World} {H0 H:HP} {L:List SA} {w:World} {qad qaf:Option Addr} {cad caf:Nat} {ad:List Int} {af:List (List Term)} {lo:Int} {hi:Int} (had:Ints H qad ad) (haf:Forms H qaf af) (hd : ∀j,j<ad.length→1≤ad.getD j 0∧ad.getD j 0≤12) (h8:ad.length≤8) (hl : -100000≤lo∧lo≤100000) (hh : -100000≤hi∧hi≤100000) (hH:Hp B H0 H L w):Calls Try.prog 35 [.agg [.slice qad ad.length cad,.slice qaf af.length caf].toArray,.int .i64 lo,.int .i64 hi].toArray w fun e w'=>e = .returned (.bool (wiB ad lo hi))∧Hp B H0 H L w':=by
 refine Jt Try.func35 rfl 21 rfl rfl [(0,.agg [.slice qad ad.length cad,.slice qaf af.length caf].toArray),(1,.int .i64 lo),(2,.int .i64 hi)] rfl hH ?_;clear hH;refine Je fun _ hK1 _=>(Jb (Eb rfl rfl rfl fun g3=>(Jg (Jd rfl) rfl (Jf (Ja (hK1 (Je fun _ hK2 _=>(Je fun _ hK3 _=>(Jb (Jg (Jc rfl) rfl (Jg (PR.eqv (v':=.int .i64 (max lo 0+((0:Nat):Int))) (vmax _) (PR.max2 rfl rfl)) rfl (Jg (Jd rfl) rfl (Jf (Ja (hK3 (Jm ?_))))))))))))))));refine JC (σ:=Nat) (fun (k:Nat)=>[(7,.int .i64 (max lo 0+(k:Int)))]) (fun (k:Nat)=>H) (fun (k:Nat)=>obj g3 (.cells [.slice qad ad.length cad,.slice qaf af.length caf].toArray 32 (0,0))::L) (fun (k:Nat)=>(max lo 0+(k:Int)≤hi+1∨k=0)∧∀j,j<k→fitB ad (max lo 0+(j:Int))=true) (fun (k:Nat)=>(hi+1 - (max lo 0+(k:Int))).toNat) 0 ⟨.inr rfl,fun j hj=>by omega⟩ ⟨rfl,trivial⟩ rfl rfl ?_;rintro k ⟨hk,hI⟩ _ hAg0;refine Je fun _ hK4 _=>(Je fun _ hK5 _=>(Jb (Jg (Jc rfl) rfl (Jg (Jc rfl) rfl (Jg (PR.leq rfl rfl) rfl (Jf (Ja (hK5 (Jl rfl (fun h12=>?_) (fun h12=>?_))))))))))
 ·
  refine Jj (Ja (hK4 (Je fun _ hK6 _=>(Jm (Je fun _ hK7 _=>(Jb (Jg (Jq u32 rfl sz22 rfl) rfl (Jg (Jr rfl At.z rfl pl22) rfl (Jg (Jc rfl) rfl (Jz fn36 rfl rfl fun w hH=>(l01Monomials_c had hd h8 (by omega) hH).mono ?_))))))))));rintro _ w ⟨qo18,co18,rfl,hH⟩;refine ⟨_,rfl,fun a hF=>JT hF hH ?_⟩;refine Jg (Jn u69 rfl rfl) rfl (Jg (EC rfl rfl) rfl (Jf (Ja (hK7 (Eh rfl (fun h20=>?_) (fun h20=>?_))))))
  ·
   refine Je fun _ hK8 _=>(Jb (Jg (Jd rfl) rfl (Jf (Ja (hK8 (Jp (JJ (Jh (Jh (JJ (Jh (Jk rfl (Res.tmp rfl) fun w hH=>?_))))))))))));replace hH:=hH.tail;replace hH:=hH.tail;exact ⟨by rw [wiB_no (k:=k) (by omega) (by rw [monT_fit] at h20;simpa using h20)],hH⟩
  ·
   refine Jj (JE (Ja (hK6 (Jb (Jg (Jc rfl) rfl (Jg (JA rfl rfl (by first | exact nw _ (by omega) | rfl)) rfl (Jg (Jd rfl) rfl (Jf (Ja (JQ .z ?_))))))))));exact hAg0 (k+1) ⟨.inl (by omega),upto hI (by rw [monT_fit] at h20;simpa using h20)⟩ (by show (hi+1 - (max lo 0+((k+1:Nat):Int))).toNat<(hi+1 - (max lo 0+(k:Int))).toNat;omega) 13 rfl rfl ⟨(vi (by omega)),trivial⟩ rfl rfl
 ·
  refine JG (Ji (Ji (JN (Ja (hK2 (Je fun _ hK9 _=>(Jb (Jg (Jd rfl) rfl (Jf (Ja (hK9 (Jp (Jk rfl (Res.tmp rfl) fun w hH=>?_)))))))))))));replace hH:=hH.tail;exact ⟨by rw [wiB_yes (fun j hj=>hI j (by omega))],hH⟩
theorem eg78:Try.prog.eqGuardType Try.prog.depth 78=false:=by kernel_rfl
def vec:List Term→List Pw→List Int
 | _, []=>[]
 | [],_::ps=>0::vec [] ps
 | t::ts,p::ps=>if t.mono=p then t.fac::vec ts ps else 0::vec (t::ts) ps
theorem vec_nil : ∀ps:List Pw,vec [] ps=List.replicate ps.length 0
 | []=>rfl
 | p::ps=>by rw [vec,vec_nil ps];rfl
theorem vec_end (f:List Term):vec f []=[]:=by cases f <;> rfl
theorem tm_drop {f:List Term} {j:Nat} (hj:j<f.length):f.drop j=tm f j::f.drop (j+1):=by
 rw [List.drop_eq_getElem_cons hj]
 simp [tm,List.getD_eq_getElem?_getD,List.getElem?_eq_getElem hj]
theorem rw_drop1 {ps:List Pw} {k:Nat} (hk:k<ps.length):ps.drop k=rw_ ps k::ps.drop (k+1):=by
 rw [List.drop_eq_getElem_cons hk]
 simp [rw_,List.getD_eq_getElem?_getD,List.getElem?_eq_getElem hk]
theorem vec_yes {f:List Term} {ps:List Pw} {j k:Nat} (hj:j<f.length) (hk:k<ps.length) (h:(tm f j).mono=rw_ ps k):vec (f.drop j) (ps.drop k)=(tm f j).fac::vec (f.drop (j+1)) (ps.drop (k+1)):=by
 rw [tm_drop hj,rw_drop1 hk,vec,if_pos h]
theorem vec_no {f:List Term} {ps:List Pw} {j k:Nat} (hj:j<f.length) (hk:k<ps.length) (h : ¬(tm f j).mono=rw_ ps k):vec (f.drop j) (ps.drop k)=0::vec (f.drop j) (ps.drop (k+1)):=by
 rw [tm_drop hj,rw_drop1 hk,vec,if_neg h]
theorem vec_out1 {f:List Term} {ps:List Pw} {A:List Int} {j k:Nat} (h:A++vec (f.drop j) (ps.drop k)=vec f ps) (hk : ¬k<ps.length):A++List.replicate (ps.length - k) 0=vec f ps:=by
 rw [← h,List.drop_of_length_le (show ps.length≤k by omega),vec_end,show ps.length - k=0 by omega]
 rfl
theorem vec_out2 {f:List Term} {ps:List Pw} {A:List Int} {j k:Nat} (h:A++vec (f.drop j) (ps.drop k)=vec f ps) (hj : ¬j<f.length):A++List.replicate (ps.length - k) 0=vec f ps:=by
 rw [← h,List.drop_of_length_le (show f.length≤j by omega),vec_nil,List.length_drop]
theorem rep_set {A:List Int} {n k:Nat} {v:Int} (hA:A.length=k) (hk:k<n):(A++List.replicate (n - k) 0).set k v=(A++[v])++List.replicate (n - (k+1)) 0:=by
 subst hA;rw [List.set_append,if_neg (by omega),Nat.sub_self,show n - A.length=(n - (A.length+1))+1 by omega,List.replicate_succ]
 simp
theorem rep_one {A:List Int} {n k:Nat} (hk:k<n):A++List.replicate (n - k) 0=(A++[0])++List.replicate (n - (k+1)) 0:=by
 rw [show n - k=(n - (k+1))+1 by omega,List.replicate_succ]
 simp
theorem vec_len : ∀(f:List Term) (ps:List Pw),(vec f ps).length=ps.length
 | f, []=>by rw [vec_end];rfl
 | [],p::ps=>by rw [vec_nil];simp
 | t::ts,p::ps=>by
  rw [vec]
  split
  ·simp [vec_len ts ps]
  ·simp [vec_len (t::ts) ps]
theorem vec_cf : ∀{ps:List Pw} {f:List Term},(toS f).Pairwise (fun x y=>before x.1 y.1=true)→ps.Pairwise (fun p q=>before p q=true)→(∀x∈toS f,x.1∈ps)→vec f ps=ps.map (cf (toS f))
 | [],f,_,_,_=>by rw [vec_end];rfl
 | p::ps, [],_,_,_=>by
  rw [vec_nil]
  simp only [toS,List.map_nil,List.map_cons,List.length_cons,List.replicate_succ,cf]
  congr 1
  exact map_zero ps
 | p::ps,t::ts,hf,hp,hm=>by
  have hf':=List.pairwise_cons.1 (show ((t.mono,t.fac)::toS ts).Pairwise _ from hf)
  have hp':=List.pairwise_cons.1 hp
  rw [vec]
  by_cases e:t.mono=p
  ·rw [if_pos e,List.map_cons]
   have hts : ∀x∈toS ts,x.1∈ps:=fun x hx=>by
    rcases List.mem_cons.1 (hm x (by show x∈(t.mono,t.fac)::toS ts;exact List.mem_cons_of_mem _ hx)) with h | h
    ·have:=before_ne (hf'.1 x hx)
     exact absurd (e.trans h.symm) this
    ·exact h
   rw [vec_cf hf'.2 hp'.2 hts]
   congr 1
   ·show t.fac=cf ((t.mono,t.fac)::toS ts) p
    simp only [cf]
    rw [if_pos e]
   ·refine List.map_congr_left fun q hq=>?_
    show cf (toS ts) q=cf ((t.mono,t.fac)::toS ts) q
    simp only [cf]
    rw [if_neg (fun h=>before_ne (hp'.1 q hq) (e.symm.trans h))]
  ·rw [if_neg e,List.map_cons]
   have ht:t.mono∈ps:=by
    rcases List.mem_cons.1 (hm (t.mono,t.fac) (by show _∈(t.mono,t.fac)::toS ts;simp)) with h | h
    ·exact absurd h e
    ·exact h
   have hne : ∀x∈toS (t::ts),x.1≠p:=fun x hx hh=>by
    rcases List.mem_cons.1 (show x∈(t.mono,t.fac)::toS ts from hx) with rfl | hx
    ·exact e hh
    ·have h1:=hf'.1 x hx
     rw [hh] at h1
     have h2:=before_as (hp'.1 _ ht)
     rw [h1] at h2
     cases h2
   rw [cf_none hne,vec_cf hf hp'.2 fun x hx=>(List.mem_cons.1 (hm x hx)).resolve_left (hne x hx)]
theorem l03Vector_c {B:World} {H0 H:HP} {L:List SA} {w:World} {qf:Option Addr} {cf:Nat} {f:List Term} {qps:Option Addr} {cps:Nat} {ps:List (List Int)} (hf:Terms H qf f) (hps:Monos H qps ps) (hn:ps.length≤1000000) (hfl:f.length≤1000000) (hpm : ∀p∈ps,Mono p) (hH:Hp B H0 H L w):Calls Try.prog 37 [.agg [.slice qf f.length cf].toArray,.slice qps ps.length cps].toArray w fun e w'=>∃q c,e = .returned (.slice q (vec f ps).length c)∧Hp B H0 H (own 2 1 q (vec f ps).length c (intsC (vec f ps))::L) w':=by
 refine Jt Try.func37 rfl 47 rfl rfl [(0,.agg [.slice qf f.length cf].toArray),(1,.slice qps ps.length cps)] rfl hH ?_;clear hH;refine Je fun _ hK1 _=>(Jb (Eb rfl rfl rfl fun g2=>(Jg (Jd rfl) rfl (Jf (Ja (hK1 (Je fun _ hK2 _=>(Jb (Jg (Jc rfl) rfl (Jg (Jn u69 rfl rfl) rfl (J.mk (MK.makeI (m:=ps.length) u22 ze2 sz2 by2 rfl rfl rfl rfl (by omega)) rfl fun qo10 co10=>(Jg (PR.eqv (v':=.slice qo10 ps.length co10) (by rw [List.length_replicate]) (Jd rfl)) rfl (Jg (Jd rfl) rfl (Jf (Ja (hK2 ?_))))))))))))))));refine Je fun _ hK3 _=>(Je fun _ hK4 _=>(Jb (Jg (Jd rfl) rfl (Jf (Ja (hK4 (Jm (JC (σ:=List Int × Nat × Nat) (fun ⟨A,k,j⟩=>[(7,.int .i64 (k:Int)),(6,.int .i64 (j:Int))]) (fun ⟨A,k,j⟩=>H) (fun ⟨A,k,j⟩=>own 2 1 qo10 ps.length co10 (intsC (A++List.replicate (ps.length - k) 0))::obj g2 (.cells [.slice qf f.length cf].toArray 74 (0,0))::L) (fun ⟨A,k,j⟩=>A.length=k∧k≤ps.length∧j≤f.length∧A++vec (f.drop j) (ps.drop k)=vec f ps) (fun ⟨A,k,j⟩=>ps.length - k) ([],0,0) ⟨rfl,by omega,by omega,rfl⟩ ⟨rfl,⟨rfl,trivial⟩⟩ rfl (by rw [List.length_replicate];rfl) ?_))))))));rintro ⟨A,k,j⟩ ⟨hA,hk,hj,hV⟩ _ hAg0;refine Je fun _ hK5 _=>(Je fun _ hK6 _=>(Jb (Jg (Jc rfl) rfl (Jg (Jc rfl) rfl (Jg (Jn u69 rfl rfl) rfl (Jg (JM rfl rfl) rfl (Jg (Jc rfl) rfl (Eg (jd:=15) rfl (fun hg15=>?_) (fun hg15=>?_)))))))))
 ·
  try have hg15p:=of_decide_eq_true hg15
  refine JU (Jc rfl) rfl rfl rfl hg15 (JU (Jq u74 rfl sz72 rfl) rfl rfl rfl hg15 (JU (Jr rfl (.s .z) rfl pl72) rfl rfl rfl hg15 (JU (Jn u72 rfl rfl) rfl rfl rfl hg15 (JU (JM rfl rfl) rfl rfl rfl hg15 (Jg (JX rfl hg15 rfl) rfl (Jf (Ja (hK6 (Jl rfl (fun h21=>?_) (fun h21=>?_))))))))))
  ·
   have hk1:k<ps.length:=by omega
   have hj1:j<f.length:=by omega
   refine Jj (Ja (hK5 (Je fun _ hK7 _=>(Jm (Je fun _ hK8 _=>(Eo foll0 (by kernel_rfl) (Jv (Jq u74 rfl sz72 rfl) rfl (Jv (Jr rfl (.s .z) rfl pl72) rfl (Jv (Jc rfl) rfl (Jv (Ej u72 sz104 rfl rfl rfl hj1 hf.sm) rfl (Jv (Eq u104 rfl sz78 rfl (hf.sm (i:=j) hj1)) rfl (Jv (JH rfl (hf.mono hj1) (hf.sm (i:=j) hj1) (by rw [bytesC_length,(hf.wf _ hj1).mono.len];exact ag78)) rfl (Jv (Jc rfl) rfl (Jv (Jc rfl) rfl (Jv (Ej u69 sz78 rfl rfl rfl hk1 hps.sm) rfl ?_)))))))))))))));refine Jv (JH rfl (hps.cell _ hk1) (hps.sm (i:=k) hk1) (by rw [bytesC_length,hps.len _ hk1];exact ag78)) rfl (Jv (PR.eqlM u78 u5 sz5 eg78 rfl rfl (hf.wf j hj1).mono.len (rw_all hpm hk1).len) rfl (Ef (Ja (hK8 (Jl rfl (fun h34=>?_) (fun h34=>?_))))))
   ·
    refine Je fun _ hK9 _=>(Jb (Jg (Jc rfl) rfl (Jg (Jc rfl) rfl (Jg (Jq u74 rfl sz72 rfl) rfl (Jg (Jr rfl (.s .z) rfl pl72) rfl (Jg (Jc rfl) rfl (Jg (Ej u72 sz104 rfl rfl rfl hj1 hf.sm) rfl (Jg (Eq u104 rfl sz2 rfl (hf.sm (i:=j) hj1)) rfl (Jg (JL rfl (hf.fac hj1) pl2) rfl (Jg (PR.idxW u22 sz2 rfl rfl rfl hk1 At.z) rfl (J.storeWI rfl rfl sz2 hk1 At.z (Jf (Ja (hK9 (Jb ?_)))))))))))))));refine Jg (Jc rfl) rfl (Jg (JA rfl rfl (by first | exact nw _ (by omega) | rfl)) rfl (Jg (Jd rfl) rfl (Jf (JE (Ja (hK7 (Jb (Jg (Jc rfl) rfl (Jg (JA rfl rfl (by first | exact nw _ (by omega) | rfl)) rfl (Jg (Jd rfl) rfl (Jf (Ja ?_))))))))))));exact hAg0 (A++[(tm f j).fac],k+1,j+1) ⟨by simp [hA],by omega,by omega,by rw [← hV,vec_yes hj1 hk1 h34];simp⟩ (by show ps.length - (k+1)<ps.length - k;omega) 39 rfl rfl ⟨rfl,⟨rfl,trivial⟩⟩ rfl (by dsimp only;rw [rep_set hA hk1])
   ·
    refine Jj (JE (Ja (hK7 (Jb (Jg (Jc rfl) rfl (Jg (JA rfl rfl (by first | exact nw _ (by omega) | rfl)) rfl (Jg (Jd rfl) rfl (Jf (Ja ?_)))))))));exact hAg0 (A++[0],k+1,j) ⟨by simp [hA],by omega,by omega,by rw [← hV,vec_no hj1 hk1 h34];simp⟩ (by show ps.length - (k+1)<ps.length - k;omega) 27 rfl rfl ⟨rfl,⟨rfl,trivial⟩⟩ rfl (by dsimp only;rw [rep_one hk1])
  ·
   refine JG (Ji (Ji (JN (Ja (hK3 (Je fun _ hK10 _=>(Jb (Jg (Jc rfl) rfl (Jg (Jd rfl) rfl (Jf (Ja (hK10 (Jp (Jk rfl (Res.tmp rfl) fun w hH=>?_))))))))))))));replace hH:=hH.sublist (.cons_cons _ (.cons _ (List.Sublist.refl _)));rw [vec_out2 hV (by omega)] at hH;exact ⟨_,_,by rw [vec_len],by rw [vec_len];exact hH⟩
 ·
  try have hg15p:=of_decide_eq_false hg15
  refine JO rfl rfl rfl hg15 (JO rfl rfl rfl hg15 (JO rfl rfl rfl hg15 (JO rfl rfl rfl hg15 (JO rfl rfl rfl hg15 (Jg (JV rfl hg15 rfl) rfl (Jf (Ja (hK6 (Er rfl (JG (Ji (Ji (JN (Ja (hK3 (Je fun _ hK11 _=>?_))))))))))))))));refine Jb (Jg (Jc rfl) rfl (Jg (Jd rfl) rfl (Jf (Ja (hK11 (Jp (Jk rfl (Res.tmp rfl) fun w hH=>?_)))))));replace hH:=hH.sublist (.cons_cons _ (.cons _ (List.Sublist.refl _)));rw [vec_out1 hV (by omega)] at hH;exact ⟨_,_,by rw [vec_len],by rw [vec_len];exact hH⟩
theorem fn37:Fn Try.prog 37:=⟨_,Try.func37,by kernel_rfl,rfl⟩
theorem mon_mn {ds:List Int} {n:Int} {m:Nat} (h8:ds.length≤8) : ∀p∈(monS ds n).take m,Mono p:=fun p hp=>(mon_pok h8 (List.mem_of_mem_take hp)).mn (by omega)
theorem monL_mn {ds:List Int} {n:Int} (h8:ds.length≤8) : ∀p∈monL ds n,Mono p:=mon_mn h8
theorem monT_8 {ds:List Int} {n:Int} (h8:ds.length≤8) : ∀p∈monT ds n,p.length=8:=mon_8 h8
theorem mon_srt (ds:List Int) (n:Int) (h8:ds.length≤8):(monS ds n).Pairwise fun p q=>before p q=true:=enumF_srt (by omega) rfl
theorem monL_srt (ds:List Int) (n:Int) (h8:ds.length≤8):(monL ds n).Pairwise fun p q=>before p q=true:=(mon_srt ds n h8).sublist (List.take_sublist _ _)
theorem monT_L {ds:List Int} {n:Int} (h:fitB ds n=true):monT ds n=monL ds n:=by rw [monT_eq h,monL_fit h]
theorem mon_one {p:Pw}:toS (ofS (addS [] p 1))=[(p,1)]:=by rw [toS_ofS,addS_one]
theorem dS_one {ds:List Int} {fs:List (List Term)} (hA:AlgOk ds fs) (h8:ds.length≤8) (hd : ∀j,j<ds.length→1≤ds.getD j 0∧ds.getD j 0≤12) {n:Int} {p:Pw} (hp:p∈monS ds n):Sok 60 (dS ds fs [(p,1)]):=
 dS_sok (ds:=ds) (Sok.one (k:=1) (mon_pok h8 hp) (by omega)) hA.fok (mon_occ h8 hp hd hA.hl)
theorem dS_one_len {ds:List Int} {fs:List (List Term)} (hA:AlgOk ds fs) (h8:ds.length≤8) (hd : ∀j,j<ds.length→1≤ds.getD j 0∧ds.getD j 0≤12) {n:Int} {p:Pw} (hp:p∈monS ds n):(dS ds fs [(p,1)]).length≤80000:=by
 have h1:=dAll_len (ds:=ds) hA.len (mon_occ h8 hp hd hA.hl);have h2:=acc_len (dAll ds fs [(p,1)]) [];simp only [List.length_cons,List.length_nil] at h1 h2;unfold dS
 omega
theorem dS_vec {ds:List Int} {fs:List (List Term)} {n:Int} (hA:AlgOk ds fs) (h8:ds.length≤8) (hd : ∀j,j<ds.length→1≤ds.getD j 0∧ds.getD j 0≤12) (hom:Hom1 ds fs n) {k:Nat} (hk:k<(monL ds n).length):vec (ofS (dS ds fs [(rw_ (monL ds n) k,1)])) (monL ds (n+1))=(monL ds (n+1)).map (cf (dS ds fs [(rw_ (monL ds n) k,1)])):=by
 have h:=vec_cf (ps:=monL ds (n+1)) (f:=ofS (dS ds fs [(rw_ (monL ds n) k,1)])) (by rw [toS_ofS];exact (dS_one hA h8 hd (monL_mem hk)).srt) (monL_srt ds (n+1) h8) (by rw [toS_ofS];exact hom _ (rw_mem hk))
 rwa [toS_ofS] at h
theorem l03Matrix_c {B:World} {H0 H:HP} {L:List SA} {w:World} {qad qaf:Option Addr} {cad caf:Nat} {ad:List Int} {af:List (List Term)} {n:Int} (had:Ints H qad ad) (haf:Forms H qaf af) (hd : ∀j,j<ad.length→1≤ad.getD j 0∧ad.getD j 0≤12) (h8:ad.length≤8) (hn : -1≤n∧n≤100000) (hA:AlgOk ad af) (hfit:fit2 ad n) (hom:Hom1 ad af n) (hH:Hp B H0 H L w):Calls Try.prog 19 [.agg [.slice qad ad.length cad,.slice qaf af.length caf].toArray,.int .i64 n].toArray w fun e w'=>∃H' q c,Le H H' ∧RowsR H' q (matS ad af n)∧(matS ad af n).length≤c∧e = .returned (.slice q (matS ad af n).length c)∧Hp B H0 H' L w':=by
 refine Jt Try.func19 rfl 38 rfl rfl [(0,.agg [.slice qad ad.length cad,.slice qaf af.length caf].toArray),(1,.int .i64 n)] rfl hH ?_;have hw0:=hH.old;have hw1:=hH.le;have hmT0:=monT_L hfit.1;have hmT1:=monT_L hfit.2;have hml:=monL_len ad n;have hml1:=monL_len ad (n+1);clear hH;refine Je fun _ hK1 _=>(Jb (Eb rfl rfl rfl fun g2=>(Jg (Jd rfl) rfl (Jf (Ja (hK1 (Je fun _ hK2 _=>(Ey (Rs:=[_]) 13 [[], [0], [], [0,1,2], [], [4], [], [6], [0,1,2,3,4,5,6,7], [], [0,1,2,3,4,5,6,7,8], [0,1,2,3,4,5,6,7,8,10], [0,1,2,3,4,5,6,7,8,9,10,11]] [[], [13], [], [], [], [13], [], [], [], [], [], [], []] [[], [], [], [], [], [], [], [], [], [], [], [], []] rfl rfl (by kernel_rfl) ?_))))))));apply Jy 1 rfl
 iterate 3 focus (intros;(conv=>lhs;simp only [Jo,JB,Ee,JD,JR,eq_self,Nat.reduceEqDiff,reduceIte,Nat.reduceSub,Nat.reduceAdd,List.cons_append,List.nil_append]);all_goals rfl)
 ·
  intro gh X K zq zc zq2 zc2 zb zv hK;refine Jg (Jq u32 rfl sz22 rfl) rfl (Js ?_);exact hK zq zc zq2 zc2 zb zv
 ·
  intro gh gh' h
  rfl
 apply Jy 2 rfl
 iterate 3 focus (intros;(conv=>lhs;simp only [Jo,JB,Ee,JD,JR,eq_self,Nat.reduceEqDiff,reduceIte,Nat.reduceSub,Nat.reduceAdd,List.cons_append,List.nil_append]);all_goals rfl)
 ·
  intro gh X K zq zc zq2 zc2 zb zv hK;refine Jg (Jr rfl At.z rfl pl22) rfl (Js ?_);exact hK zq zc zq2 zc2 zb zv
 ·
  intro gh gh' h
  rfl
 apply Jy 3 rfl
 iterate 3 focus (intros;(conv=>lhs;simp only [Jo,JB,Ee,JD,JR,eq_self,Nat.reduceEqDiff,reduceIte,Nat.reduceSub,Nat.reduceAdd,List.cons_append,List.nil_append]);all_goals rfl)
 ·
  intro gh X K zq zc zq2 zc2 zb zv hK;refine Jg (Jc rfl) rfl (Js ?_);exact hK zq zc zq2 zc2 zb zv
 ·
  intro gh gh' h
  rfl
 apply En 4 rfl
 iterate 3 focus (intros;(conv=>lhs;simp only [Jo,JB,Ee,JD,JR,eq_self,Nat.reduceEqDiff,reduceIte,Nat.reduceSub,Nat.reduceAdd,List.cons_append,List.nil_append]);all_goals rfl)
 ·
  intro gh X K zq zc zq2 zc2 zb zv hK;refine Jz fn36 rfl rfl fun w hH=>(l01Monomials_c had hd h8 (by omega) hH).mono ?_;rintro _ w ⟨qo12,co12,rfl,hH⟩;refine ⟨_,rfl,fun a hF=>JT hF hH ?_⟩;refine Js ?_;exact hK qo12 co12 zq2 zc2 zb zv
 ·
  intro gh gh' h;refine ⟨?_,?_⟩ <;> rfl
 apply Jy 5 rfl
 iterate 3 focus (intros;(conv=>lhs;simp only [Jo,JB,Ee,JD,JR,eq_self,Nat.reduceEqDiff,reduceIte,Nat.reduceSub,Nat.reduceAdd,List.cons_append,List.nil_append]);all_goals rfl)
 ·
  intro gh X K zq zc zq2 zc2 zb zv hK;refine Jg (Jq u32 rfl sz22 rfl) rfl (Js ?_);exact hK zq zc zq2 zc2 zb zv
 ·
  intro gh gh' h
  rfl
 apply Jy 6 rfl
 iterate 3 focus (intros;(conv=>lhs;simp only [Jo,JB,Ee,JD,JR,eq_self,Nat.reduceEqDiff,reduceIte,Nat.reduceSub,Nat.reduceAdd,List.cons_append,List.nil_append]);all_goals rfl)
 ·
  intro gh X K zq zc zq2 zc2 zb zv hK;refine Jg (Jr rfl At.z rfl pl22) rfl (Js ?_);exact hK zq zc zq2 zc2 zb zv
 ·
  intro gh gh' h
  rfl
 apply Jy 7 rfl
 iterate 3 focus (intros;(conv=>lhs;simp only [Jo,JB,Ee,JD,JR,eq_self,Nat.reduceEqDiff,reduceIte,Nat.reduceSub,Nat.reduceAdd,List.cons_append,List.nil_append]);all_goals rfl)
 ·
  intro gh X K zq zc zq2 zc2 zb zv hK;refine Jg (Jc rfl) rfl (Js ?_);exact hK zq zc zq2 zc2 zb zv
 ·
  intro gh gh' h
  rfl
 apply Jy 8 rfl
 iterate 3 focus (intros;(conv=>lhs;simp only [Jo,JB,Ee,JD,JR,eq_self,Nat.reduceEqDiff,reduceIte,Nat.reduceSub,Nat.reduceAdd,List.cons_append,List.nil_append]);all_goals rfl)
 ·
  intro gh X K zq zc zq2 zc2 zb zv hK;refine Jg (JA rfl rfl (by first | exact nw _ (by omega) | rfl)) rfl (Js ?_);exact hK zq zc zq2 zc2 zb zv
 ·
  intro gh gh' h
  rfl
 apply En 9 rfl
 iterate 3 focus (intros;(conv=>lhs;simp only [Jo,JB,Ee,JD,JR,eq_self,Nat.reduceEqDiff,reduceIte,Nat.reduceSub,Nat.reduceAdd,List.cons_append,List.nil_append]);all_goals rfl)
 ·
  intro gh X K zq zc zq2 zc2 zb zv hK;refine Jz fn36 rfl rfl fun w hH=>(l01Monomials_c had hd h8 (by omega) hH).mono ?_;rintro _ w ⟨qo17,co17,rfl,hH⟩;refine ⟨_,rfl,fun a hF=>JT hF hH ?_⟩;refine Js ?_;exact hK qo17 co17 zq2 zc2 zb zv
 ·
  intro gh gh' h;refine ⟨?_,?_⟩ <;> (first | simp only [h 3 rfl] | rfl)
 apply En 10 rfl
 iterate 3 focus (intros;(conv=>lhs;simp only [Jo,JB,Ee,JD,JR,eq_self,Nat.reduceEqDiff,reduceIte,Nat.reduceSub,Nat.reduceAdd,List.cons_append,List.nil_append]);all_goals rfl)
 ·
  intro gh X K zq zc zq2 zc2 zb zv hK;refine J.mk (MK.lit0 u27 sz22) rfl fun qo18 co18=>(Js ?_);exact hK qo18 co18 zq2 zc2 zb zv
 ·
  intro gh gh' h;refine ⟨?_,?_⟩ <;> rfl
 apply Jy 11 rfl
 iterate 3 focus (intros;(conv=>lhs;simp only [Jo,JB,Ee,JD,JR,eq_self,Nat.reduceEqDiff,reduceIte,Nat.reduceSub,Nat.reduceAdd,List.cons_append,List.nil_append]);all_goals rfl)
 ·
  intro gh X K zq zc zq2 zc2 zb zv hK;refine Jg (Jd rfl) rfl (Js ?_);exact hK zq zc zq2 zc2 zb zv
 ·
  intro gh gh' h
  first | simp only [h 3 rfl,h 8 rfl] | rfl
 apply Jy 12 rfl
 iterate 3 focus (intros;(conv=>lhs;simp only [Jo,JB,Ee,JD,JR,eq_self,Nat.reduceEqDiff,reduceIte,Nat.reduceSub,Nat.reduceAdd,List.cons_append,List.nil_append]);all_goals rfl)
 ·
  intro gh X K zq zc zq2 zc2 zb zv hK;refine Jg (Jd rfl) rfl (Js ?_);exact hK zq zc zq2 zc2 zb zv
 ·
  intro gh gh' h
  first | simp only [h 3 rfl,h 8 rfl] | rfl
 apply Jy 13 rfl
 iterate 3 focus (intros;(conv=>lhs;simp only [Jo,JB,Ee,JD,JR,eq_self,Nat.reduceEqDiff,reduceIte,Nat.reduceSub,Nat.reduceAdd,List.cons_append,List.nil_append]);all_goals rfl)
 ·
  intro gh X K zq zc zq2 zc2 zb zv hK;refine Jg (Jd rfl) rfl (Js ?_);exact hK zq zc zq2 zc2 zb zv
 ·
  intro gh gh' h
  first | simp only [h 3 rfl,h 8 rfl,h 9 rfl] | rfl
 apply Ez [0,1,2,3,4,5,6,7,8,9,10,11,12] [0,1,2,3,4,5,6,7,8,9,10,11,12,13] foll0 rfl rfl rfl (by rfl)
 iterate 2 focus (intros;(conv=>lhs;simp only [Jo,JB,Ee,JD,JR,eq_self,Nat.reduceEqDiff,reduceIte,Nat.reduceSub,Nat.reduceAdd,List.cons_append,List.nil_append]);all_goals rfl)
 intro gh;generalize (gh 3).c=co12;generalize (gh 3).q=qo12;generalize (gh 8).c=co17;generalize (gh 8).q=qo17;generalize (gh 9).c=co18;generalize (gh 9).q=qo18;clear gh;refine EJ.fixA .z fun Ho12 hleo12 hAo12=>?_;replace had:=had.le hleo12;replace haf:=haf.le hleo12;have hxo12:=own_monos (monT_8 h8) hAo12;have hco12:=own_le hAo12;refine EJ.fixA .z fun Ho17 hleo17 hAo17=>?_;replace had:=had.le hleo17;replace haf:=haf.le hleo17;replace hxo12:=hxo12.le hleo17;have hxo17:=own_monos (monT_8 h8) hAo17;have hco17:=own_le hAo17;rw [hmT0] at hxo12;rw [hmT1] at hxo17;rw [hmT0,hmT1];have hmm:=monL_mn (n:=n) h8;have hmm1:=monL_mn (n:=n+1) h8;refine Ja (hK2 (Je fun _ hK3 _=>(Je fun _ hK4 _=>(Jb (Jg (Jd rfl) rfl (Jf (Ja (hK4 (Jm (JC (σ:=HP × Option Addr × Nat × List Value × Nat) (fun ⟨Hk,q,c,vals,k⟩=>[(8,.int .i64 (k:Int)),(7,.slice q k c)]) (fun ⟨Hk,q,c,vals,k⟩=>Hk) (fun ⟨Hk,q,c,vals,k⟩=>own 22 1 q k c vals::obj g2 (.cells [.slice qad ad.length cad,.slice qaf af.length caf].toArray 32 (0,0))::L) (fun ⟨Hk,q,c,vals,k⟩=>Le Ho17 Hk∧SlF Hk vals (matK ad af n k)∧k≤(monL ad n).length) (fun ⟨Hk,q,c,vals,k⟩=>(monL ad n).length - k) (Ho17,qo18,co18, [],0) ⟨Le.refl _,SlF.nil _,by omega⟩ ⟨rfl,⟨rfl,trivial⟩⟩ rfl rfl ?_))))))))));rintro ⟨Hk,q,c,vals,k⟩ ⟨hlk,hS,hk⟩ _ hAg0;replace had:=had.le hlk;replace haf:=haf.le hlk;replace hxo12:=hxo12.le hlk;replace hxo17:=hxo17.le hlk;refine Je fun _ hK5 _=>(Je fun _ hK6 _=>(Jb (Jg (Jc rfl) rfl (Jg (Jc rfl) rfl (Jg (Jn u69 rfl rfl) rfl (Jg (JM rfl rfl) rfl (Jf (Ja (hK6 (Jl rfl (fun h22=>?_) (fun h22=>?_)))))))))))
 ·
  have hk1:k<(monL ad n).length:=by omega
  have hpm:=monL_mem hk1;have hpk:=mon_pok h8 hpm;have hdl:=dS_one_len hA h8 hd hpm;have hds:=dS_one hA h8 hd hpm;refine Jj (Ja (hK5 (Je fun _ hK7 _=>(Jm (Ey (Rs:=[_,_]) 13 [[], [], [], [], [2,3], [2,3,4], [2,3,4,5], [1,2,3,4,5,6], [], [1,2,3,4,5,6,7,8], [1,2,3,4,5,6,7,8,9], [0,1,2,3,4,5,6,7,8,9,10], [0,1,2,3,4,5,6,7,8,9,10,11]] [[], [14], [], [], [], [], [], [6], [], [7], [], [10], []] [[], [], [], [], [], [], [], [], [], [], [], [13], []] rfl rfl (by kernel_rfl) ?_)))));apply Jy 1 rfl
  iterate 3 focus (intros;(conv=>lhs;simp only [Jo,JB,Ee,JD,JR,eq_self,Nat.reduceEqDiff,reduceIte,Nat.reduceSub,Nat.reduceAdd,List.cons_append,List.nil_append]);all_goals rfl)
  ·
   intro gh X K zq zc zq2 zc2 zb zv hK;refine Jg (Jc rfl) rfl (Js ?_);exact hK zq zc zq2 zc2 zb zv
  ·
   intro gh gh' h
   rfl
  apply Jy 2 rfl
  iterate 3 focus (intros;(conv=>lhs;simp only [Jo,JB,Ee,JD,JR,eq_self,Nat.reduceEqDiff,reduceIte,Nat.reduceSub,Nat.reduceAdd,List.cons_append,List.nil_append]);all_goals rfl)
  ·
   intro gh X K zq zc zq2 zc2 zb zv hK;refine Jg (Ju rfl At.z (by simpa [*] using ag32)) rfl (Js ?_);exact hK zq zc zq2 zc2 zb zv
  ·
   intro gh gh' h
   rfl
  apply Jy 3 rfl
  iterate 3 focus (intros;(conv=>lhs;simp only [Jo,JB,Ee,JD,JR,eq_self,Nat.reduceEqDiff,reduceIte,Nat.reduceSub,Nat.reduceAdd,List.cons_append,List.nil_append]);all_goals rfl)
  ·
   intro gh X K zq zc zq2 zc2 zb zv hK;refine Jg (Jc rfl) rfl (Js ?_);exact hK zq zc zq2 zc2 zb zv
  ·
   intro gh gh' h
   rfl
  apply Jy 4 rfl
  iterate 3 focus (intros;(conv=>lhs;simp only [Jo,JB,Ee,JD,JR,eq_self,Nat.reduceEqDiff,reduceIte,Nat.reduceSub,Nat.reduceAdd,List.cons_append,List.nil_append]);all_goals rfl)
  ·
   intro gh X K zq zc zq2 zc2 zb zv hK;refine Jg (Jc rfl) rfl (Js ?_);exact hK zq zc zq2 zc2 zb zv
  ·
   intro gh gh' h
   rfl
  apply Jy 5 rfl
  iterate 3 focus (intros;(conv=>lhs;simp only [Jo,JB,Ee,JD,JR,eq_self,Nat.reduceEqDiff,reduceIte,Nat.reduceSub,Nat.reduceAdd,List.cons_append,List.nil_append]);all_goals rfl)
  ·
   intro gh X K zq zc zq2 zc2 zb zv hK;refine Jg (Ej u69 sz78 rfl rfl rfl hk1 hxo12.sm) rfl (Js ?_);exact hK zq zc zq2 zc2 zb zv
  ·
   intro gh gh' h
   rfl
  apply Jy 6 rfl
  iterate 3 focus (intros;(conv=>lhs;simp only [Jo,JB,Ee,JD,JR,eq_self,Nat.reduceEqDiff,reduceIte,Nat.reduceSub,Nat.reduceAdd,List.cons_append,List.nil_append]);all_goals rfl)
  ·
   intro gh X K zq zc zq2 zc2 zb zv hK;refine Jg (JH rfl (hxo12.cell _ hk1) (hxo12.sm (i:=k) hk1) (by rw [bytesC_length,hxo12.len _ hk1];exact ag78)) rfl (Js ?_);exact hK zq zc zq2 zc2 zb zv
  ·
   intro gh gh' h
   rfl
  apply En 7 rfl
  iterate 3 focus (intros;(conv=>lhs;simp only [Jo,JB,Ee,JD,JR,eq_self,Nat.reduceEqDiff,reduceIte,Nat.reduceSub,Nat.reduceAdd,List.cons_append,List.nil_append]);all_goals rfl)
  ·
   intro gh X K zq zc zq2 zc2 zb zv hK;refine Jz fn39 rfl rfl fun w hH=>(l01Single_c (rw_all hmm hk1) (by omega) hH).mono ?_;rintro _ w ⟨qo31,co31,rfl,hH⟩;refine ⟨_,rfl,fun a hF=>JT hF hH ?_⟩;refine Js ?_;exact hK qo31 co31 zq2 zc2 zb zv
  ·
   intro gh gh' h;refine ⟨?_,?_⟩ <;> rfl
  apply En 8 rfl
  iterate 3 focus (intros;(conv=>lhs;simp only [Jo,JB,Ee,JD,JR,eq_self,Nat.reduceEqDiff,reduceIte,Nat.reduceSub,Nat.reduceAdd,List.cons_append,List.nil_append]);all_goals rfl)
  ·
   intro gh X K zq zc zq2 zc2 zb zv hK;refine Jz fn38 rfl rfl fun w hH=>hH.lend .z fun Hl1 hle1 hA1 hB1 hH=>(l02D_c (Mi:=20) (Ms:=20) (had.le hle1) (haf.le hle1) (own_terms (one_wf (rw_all hmm hk1)) hA1) hA.hn hA.hd hA.fok hA.hl hA.kex (by rw [mon_one];exact Sok.one hpk (by omega)) (one_kex (mon_ex h8 hpm hd)) (by omega) hA.len (by rw [one_len];omega) hH).mono ?_;rintro _ w ⟨qo32,co32,rfl,hH⟩;replace hH:=hB1 _ _ hH;refine ⟨_,rfl,fun a hF=>JT hF hH ?_⟩;refine Jw .z (Jw (.s .z) (Js ?_));exact hK qo32 co32 zq2 zc2 zb zv
  ·
   intro gh gh' h;refine ⟨?_,?_⟩ <;> (first | simp only [h 6 rfl] | rfl)
  apply Jy 9 rfl
  iterate 3 focus (intros;(conv=>lhs;simp only [Jo,JB,Ee,JD,JR,eq_self,Nat.reduceEqDiff,reduceIte,Nat.reduceSub,Nat.reduceAdd,List.cons_append,List.nil_append]);all_goals rfl)
  ·
   intro gh X K zq zc zq2 zc2 zb zv hK;refine Jg (Jc rfl) rfl (Js ?_);exact hK zq zc zq2 zc2 zb zv
  ·
   intro gh gh' h
   rfl
  apply En 10 rfl
  iterate 3 focus (intros;(conv=>lhs;simp only [Jo,JB,Ee,JD,JR,eq_self,Nat.reduceEqDiff,reduceIte,Nat.reduceSub,Nat.reduceAdd,List.cons_append,List.nil_append]);all_goals rfl)
  ·
   intro gh X K zq zc zq2 zc2 zb zv hK;refine Jz fn37 rfl rfl fun w hH=>hH.lend .z fun Hl1 hle1 hA1 hB1 hH=>(l03Vector_c (own_terms (by rw [mon_one];exact hds.wf (by omega)) hA1) (hxo17.le hle1) (by omega) (by rw [mon_one,ofS_len];omega) hmm1 hH).mono ?_;rintro _ w ⟨qo34,co34,rfl,hH⟩;replace hH:=hB1 _ _ hH;refine ⟨_,rfl,fun a hF=>JT hF hH ?_⟩;refine Jw .z (Jw (.s .z) (Js ?_));exact hK qo34 co34 zq2 zc2 zb zv
  ·
   intro gh gh' h;refine ⟨?_,?_⟩ <;> (first | simp only [h 6 rfl,h 7 rfl] | rfl)
  apply En 11 rfl
  iterate 3 focus (intros;(conv=>lhs;simp only [Jo,JB,Ee,JD,JR,eq_self,Nat.reduceEqDiff,reduceIte,Nat.reduceSub,Nat.reduceAdd,List.cons_append,List.nil_append]);all_goals rfl)
  ·
   intro gh X K zq zc zq2 zc2 zb zv hK;refine J.mk (MK.lit1S u27 ze22 sz22 rfl rfl) rfl fun qo35 co35=>(Js ?_);exact hK qo35 co35 zq2 zc2 zb zv
  ·
   intro gh gh' h;refine ⟨?_,?_⟩ <;> (first | simp only [h 6 rfl,h 7 rfl,h 9 rfl] | rfl)
  apply En 12 rfl
  iterate 3 focus (intros;(conv=>lhs;simp only [Jo,JB,Ee,JD,JR,eq_self,Nat.reduceEqDiff,reduceIte,Nat.reduceSub,Nat.reduceAdd,List.cons_append,List.nil_append]);all_goals rfl)
  ·
   intro gh X K zq zc zq2 zc2 zb zv hK;refine J.append1 u27 ze22 sz22 by22 rfl rfl rfl rfl (by omega) (.s .z) At.z (fun _ _=>At.z) rfl fun qo36 co36=>(Jw .z (Jw (.s .z) (Js ?_)));exact hK qo36 co36 zq2 zc2 zb zv
  ·
   intro gh gh' h;refine ⟨?_,?_⟩ <;> (first | simp only [h 6 rfl,h 7 rfl,h 9 rfl,h 10 rfl] | rfl)
  apply Jy 13 rfl
  iterate 3 focus (intros;(conv=>lhs;simp only [Jo,JB,Ee,JD,JR,eq_self,Nat.reduceEqDiff,reduceIte,Nat.reduceSub,Nat.reduceAdd,List.cons_append,List.nil_append]);all_goals rfl)
  ·
   intro gh X K zq zc zq2 zc2 zb zv hK;refine Jg (Jd rfl) rfl (Js ?_);exact hK zq zc zq2 zc2 zb zv
  ·
   intro gh gh' h
   first | simp only [h 6 rfl,h 7 rfl,h 9 rfl,h 10 rfl,h 11 rfl] | rfl
  apply Ez [0,1,2,3,4,5,6,7,8,9,10,11,12] [0,1,2,3,4,5,6,7,8,9,10,11,12,14] foll0 rfl rfl rfl (by rfl)
  iterate 2 focus (intros;(conv=>lhs;simp only [Jo,JB,Ee,JD,JR,eq_self,Nat.reduceEqDiff,reduceIte,Nat.reduceSub,Nat.reduceAdd,List.cons_append,List.nil_append]);all_goals rfl)
  intro gh;generalize (gh 6).c=co31;generalize (gh 6).q=qo31;generalize (gh 7).c=co32;generalize (gh 7).q=qo32;generalize (gh 9).c=co34;generalize (gh 9).q=qo34;generalize (gh 10).c=co35;generalize (gh 10).q=qo35;generalize (gh 11).c=co36;generalize (gh 11).q=qo36;clear gh;refine EJ.fixA (.s (.s .z)) fun Ho34 hleo34 hAo34=>?_;replace had:=had.le hleo34;replace haf:=haf.le hleo34;replace hxo12:=hxo12.le hleo34;replace hxo17:=hxo17.le hleo34;replace hS:=hS.le hleo34;have hxo34:=own_ints hAo34;have hco34:=own_le hAo34;have hve:=dS_vec hA h8 hd hom hk1;rw [← mon_one] at hve;have hS2:=hS.snoc (hve ▸ hxo34) (by rw [hve]) hco34;rw [mon_one] at hS2;refine JE (Ja (hK7 (Jb (Jg (Jc rfl) rfl (Jg (JA rfl rfl (by first | exact nw _ (by omega) | rfl)) rfl (Jg (Jd rfl) rfl (Jf (Ja (JQ .z (JQ .z (JQ .z ?_)))))))))));exact hAg0 (Ho34,qo36,co36,_,k+1) ⟨(hlk.trans hleo34),by rw [matK_succ hk1];exact hS2,by omega⟩ (by show (monL ad n).length - (k+1)<(monL ad n).length - k;omega) 22 rfl rfl ⟨rfl,⟨rfl,trivial⟩⟩ rfl rfl
 ·
  refine JG (Ji (Ji (JN (Ja (hK3 (Je fun _ hK8 _=>(Jb (Jg (Jc rfl) rfl (J.fixA .z fun Ho18 hleo18 hAo18=>?_)))))))));replace had:=had.le hleo18;replace haf:=haf.le hleo18;replace hxo12:=hxo12.le hleo18;replace hxo17:=hxo17.le hleo18;replace hS:=hS.le hleo18;have hxo18:=hS.rows (Le.refl _) hAo18;have hco18:=own_le hAo18;refine Jg (Jd rfl) rfl (Jf (Ja (hK8 (Jp (Jk rfl (Res.tmp rfl) fun w hH=>?_)))));replace hH:=hH.tail
  have hke:k=(monL ad n).length:=by omega
  rw [matK_end hke] at hxo18;exact ⟨_,q,c,(((hleo12.trans hleo17).trans hlk).trans hleo18),hxo18,by rw [matS_len,← hke];exact hco18,by rw [matS_len,hke],hH⟩
theorem wsum_nn0 {ws p:Pw} (hw : ∀j,0≤ws.getD j 0) (hp : ∀j,0≤p.getD j 0) : ∀k:Nat,0≤wsum ws p k
 | 0=>by simp [wsum]
 | k+1=>by have:=wsum_nn0 hw hp k;have:=Int.mul_nonneg (hw k) (hp k);simp only [wsum];omega
theorem degOk_wt {ds:List Int} {ts:List Term} {x:Int} (hn:ds.length≤8) (hd : ∀j,0≤ds.getD j 0∧ds.getD j 0≤12) (hw:Wfs ts) (h:degOk ds ts x=true) : ∀y∈toS ts,wsum ds y.1 ds.length=x:=by
 intro y hy;unfold degOk at h;obtain ⟨h1,h2⟩:=Bool.and_eq_true_iff.1 h;obtain ⟨t,ht,rfl⟩:=List.mem_map.1 hy;obtain ⟨j,hj,rfl⟩:=List.mem_iff_getElem.1 ht
 have h3:wd ds ts j=wd ds ts 0:=by simpa using List.all_eq_true.1 h1 j (by simpa using hj)
 have h4:=degF_neg hn hd hw h1
 have h5:degF ds ts=x:=by
  rcases (Bool.or_eq_true_iff.1 h2) with h | h
  ·exact absurd (of_decide_eq_true h) (fun e=>h4.1 e (by omega))
  ·exact of_decide_eq_true h
 unfold degF outAt at h5;rw [h1,if_pos rfl,if_neg (by omega)] at h5;rw [tm_eq hj]
 show wd ds ts j=x
 omega
theorem isAlg_im {ds:List Int} {fs:List (List Term)} (h:isAlg ds fs=true):imsOk ds fs=true:=by
 unfold isAlg at h;simp only [Bool.and_eq_true] at h;exact h.1.2
theorem leftP_get {p:Pw} {i j:Nat} (hi:i<8) (hj:j<8):(leftP p i).getD j 0=if j=i then p.getD i 0 - 1 else if j<i then p.getD j 0 else 0:=by
 unfold leftP;rw [getD_set8,show (aheadP p i).length=8 by simp,aheadP_get hj]
 by_cases e:i=j
 ·subst e;rw [if_pos ⟨rfl,hi⟩,if_pos rfl]
 ·rw [if_neg (fun h=>e h.1),if_neg (fun h:j=i=>e h.symm)]
theorem wsum_lb {ds p:Pw} {i:Nat} (hi:i<8) : ∀n:Nat,n≤8→wsum ds (leftP p i) n+wsum ds (behP p (i+1)) n=wsum ds p n - (if i<n then ds.getD i 0 else 0)
 | 0,_=>by simp [wsum]
 | n+1,h=>by
  have ih:=wsum_lb (ds:=ds) (p:=p) hi n (by omega)
  simp only [wsum]
  rw [leftP_get hi (by omega),behP_get (by omega)]
  rcases Nat.lt_trichotomy n i with h1 | h1 | h1
  ·rw [if_neg (by omega),if_pos h1,if_pos (by omega),if_neg (by omega)]
   rw [if_neg (by omega)] at ih
   rw [Int.mul_zero]
   omega
  ·subst h1
   rw [if_pos rfl,if_pos (by omega),if_pos (by omega)]
   rw [if_neg (by omega)] at ih
   rw [Int.mul_zero,Int.mul_sub,Int.mul_one]
   omega
  ·rw [if_neg (by omega),if_neg (by omega),if_neg (by omega),if_pos (by omega)]
   rw [if_pos h1] at ih
   rw [Int.mul_zero]
   omega
theorem wsF_cons (d:Int) (ds p:List Int) (i:Nat):wsF (d::ds) p i=d * p.getD i 0+wsF ds p (i+1):=rfl
theorem wsF_sum {p:List Int} : ∀(pre ds:List Int),wsF ds p pre.length+wsum (pre++ds) p pre.length=wsum (pre++ds) p (pre++ds).length
 | pre, []=>by simp [wsF]
 | pre,d::ds=>by
  have ih:=wsF_sum (p:=p) (pre++[d]) ds
  rw [List.length_append,List.append_assoc] at ih
  simp only [List.length_cons,List.length_nil,List.cons_append,List.nil_append,wsum,Nat.zero_add] at ih
  rw [wsF_cons]
  have e:(pre++d::ds).getD pre.length 0=d:=by simp [List.getD_eq_getElem?_getD]
  rw [e] at ih
  omega
theorem wsF_0 (ds p:List Int):wsF ds p 0=wsum ds p ds.length:=by
 have h:=wsF_sum (p:=p) [] ds
 simpa [wsum] using h
theorem mon_wt {ds:List Int} {n:Int} (h8:ds.length≤8) {p:Pw} (hp:p∈monS ds n):wsum ds p ds.length=n:=by
 rw [← wsF_0];exact (enumF_mem (by omega) rfl hp).2.2.2
theorem wsum_ge {ds p:Pw} (hd : ∀j,0≤ds.getD j 0) (hp : ∀j,0≤p.getD j 0) {j:Nat} : ∀n:Nat,j<n→ds.getD j 0 * p.getD j 0≤wsum ds p n
 | 0,h=>by omega
 | n+1,h=>by
  have h0:=wsum_nn0 hd hp n
  have h1:0≤ds.getD n 0 * p.getD n 0:=Int.mul_nonneg (hd n) (hp n)
  simp only [wsum]
  rcases Nat.lt_or_ge j n with hj | hj
  ·have:=wsum_ge hd hp (j:=j) n hj
   omega
  ·obtain rfl:j=n:=by omega
   omega
theorem mon_in {ds:List Int} (h8:ds.length≤8) (hd : ∀j,j<ds.length→1≤ds.getD j 0∧ds.getD j 0≤12) {n:Int} (hn:n≤41) {M:Int} {p:Pw} (hp:Pok M p) (hx:Ex ds p) (hw:wsum ds p ds.length=n):p∈monS ds n:=by
 have hd0 : ∀j,0≤ds.getD j 0:=fun j=>by
  by_cases hj:j<ds.length
  ·have:=hd j hj;omega
  ·rw [getD_ge (by omega)];omega
 have hp0 : ∀j,0≤p.getD j 0:=fun j=>(hp.bd j).1;refine enumF_in (by omega) rfl hp.len (fun t ht=>(hd t ht).1) (fun j hj=>?_) hp0 (fun t ht=>?_) (by rw [wsF_0];exact hw)
 ·rw [hx.out j (by omega),show zP=List.replicate 8 0 from rfl,rep_get]
 ·rw [Nat.zero_add];have hdt:=hd t ht;have htm:=tmod_two (d:=ds.getD t 0) (by omega);have hge:=wsum_ge hd0 hp0 (j:=t) ds.length ht;rw [hw] at hge;refine ⟨?_,fun h=>hx.odd t ht (by omega)⟩
  by_cases ho:(ds.getD t 0).tmod 2=1
  ·have:=hx.odd t ht (by omega)
   omega
  ·have h2:2≤ds.getD t 0:=by
    rcases (show ds.getD t 0=1∨2≤ds.getD t 0 by omega) with h | h
    ·rw [h] at ho;exact absurd (by decide) ho
    ·exact h
   have h3:2 * p.getD t 0≤ds.getD t 0 * p.getD t 0:=Int.mul_le_mul_of_nonneg_right h2 (hp0 t)
   omega
theorem dS_wt {ds:List Int} {fs:List (List Term)} (hG:isAlg ds fs=true) (hw:Wfss fs) {M:Int} {p:Pw} (hp:Pok M p) (hx:Ex ds p) {x:Pw × Int} (h:x∈dS ds fs [(p,1)]):Ex ds x.1∧wsum ds x.1 ds.length=wsum ds p ds.length+1:=by
 have hA:=isAlg_ok hG hw;have hn:=hA.hn
 rcases acc_mem h with h | ⟨z,hz,e⟩
 ·simp at h
 rw [e];unfold dAll at hz;simp only [List.flatMap_cons,List.flatMap_nil,List.append_nil] at hz;unfold dLk at hz;obtain ⟨i,hi,hz⟩:=List.mem_flatMap.1 hz;have hi8:=List.mem_range.1 hi;unfold dP at hz
 split at hz
 ·rename_i hpos
  have hid:i<ds.length:=by
   rcases Nat.lt_or_ge i ds.length with h | h
   ·exact h
   ·have h1:=hx.out i h;simp only at hpos
    omega
  obtain ⟨y,hy,ey⟩:=scl_key hz;rw [ey]
  have hif:i<fs.length:=by rw [hA.hl];exact hid
  have him:=(hA.fok i hif).1;have hlp:=leftP_pok hp hpos;have hbp:=behP_pok hp (i+1);have g1:Gok M [(leftP p i,1)]:=(Sok.one hlp (k:=1) (by omega)).g;have g3:Gok M [(behP p (i+1),1)]:=(Sok.one hbp (k:=1) (by omega)).g
  have k1:KEx ds [(leftP p i,1)]:=fun x hx'=>by rw [List.mem_singleton.1 hx'];exact leftP_ex hp hx hpos
  have k3:KEx ds [(behP p (i+1),1)]:=fun x hx'=>by rw [List.mem_singleton.1 hx'];exact behP_ex hp hx (i+1)
  have k2:=hA.kex i hif;have k12:=times_kex g1 him.g k1 k2;have g12:=gtimes (ds:=ds) g1 him.g;refine ⟨times_kex g12.g g3 k12 k3 y hy,?_⟩
  rcases acc_mem hy with h | ⟨a,ha,ea⟩
  ·simp at h
  obtain ⟨u,hu,v,hv,_,e2⟩:=mulL_mem ha;rw [List.mem_singleton.1 hv] at e2
  rcases acc_mem hu with h | ⟨b,hb,eb⟩
  ·simp at h
  obtain ⟨c,hc,d,hd',_,e3⟩:=mulL_mem hb;rw [List.mem_singleton.1 hc] at e3;have hdl:=(him.key d hd').len;have h1:=imsOk_at (isAlg_im hG) hif;unfold imOk at h1;have h2:=(Bool.and_eq_true_iff.1 h1).2;have hwd:=degOk_wt hn hA.hd (hw.fm i) h2 d hd';have hlb:=wsum_lb (ds:=ds) (p:=p) hi8 ds.length hn;rw [if_pos hid] at hlb;rw [ea,e2,wsum_add (by rw [eb,e3];simp [addp]) hbp.len,eb,e3,wsum_add hlp.len hdl,hwd]
  omega
 ·simp at hz
theorem hom_of {ds:List Int} {fs:List (List Term)} (hG:isAlg ds fs=true) (hw:Wfss fs) (h8:ds.length≤8) (hd : ∀j,j<ds.length→1≤ds.getD j 0∧ds.getD j 0≤12) {n:Int} (hn:n≤40) (hf:fit2 ds n):Hom1 ds fs n:=fun p hp x hx=>by
 have hp':=List.mem_of_mem_take hp
 have h1:=dS_wt hG hw (mon_pok h8 hp') (mon_ex h8 hp' hd) hx
 have hA:=isAlg_ok hG hw
 have h2:=dS_one hA h8 hd hp'
 rw [monL_fit hf.2]
 exact mon_in h8 hd (by omega) (h2.key x hx) h1.1 (by rw [h1.2,mon_wt h8 hp'])
theorem fn19:Fn Try.prog 19:=⟨_,Try.func19,by kernel_rfl,rfl⟩
theorem fn33:Fn Try.prog 33:=⟨_,Try.func33,by kernel_rfl,rfl⟩
theorem fn35:Fn Try.prog 35:=⟨_,Try.func35,by kernel_rfl,rfl⟩
theorem alg_112 {ds:List Int} {fs:List (List Term)} (h:isAlg ds fs=true) : ∀j,j<ds.length→1≤ds.getD j 0∧ds.getD j 0≤12:=fun j hj=>by
 have h1:=isDeg_bd (isAlg_deg h) j
 have h2:=isDeg_pos1 (isAlg_deg h) j hj
 omega
def askB (m:Int):Bool:=decide (0≤m) && decide (m≤20)
theorem askB_y {m:Int} (h:askB m=true):0≤m∧m≤20:=by unfold askB at h;simpa using h
def cdC (ds:List Int) (fs:List (List Term)) (n:Int):Int:=if isAlg ds fs then if askB n then if wiB ds (n - 1) (n+1) then 0 else 3 else 2 else 1
theorem wi_fit {ds:List Int} {a b k:Int} (h:wiB ds a b=true) (h1:max a 0≤k) (h2:k≤b):fitB ds k=true:=by
 have:=List.all_eq_true.1 h (k - max a 0).toNat (List.mem_range.2 (by omega))
 rwa [show max a 0+(((k - max a 0).toNat:Nat):Int)=k by omega] at this
theorem fit_neg {ds:List Int} {fs:List (List Term)} (hG:isAlg ds fs=true) {n:Int} (h:n<0):fitB ds n=true:=by
 unfold fitB;rw [monS_neg (alg_112 hG) (isDeg_len (isAlg_deg hG)) h]
 rfl
theorem wi_fit' {ds:List Int} {fs:List (List Term)} (hG:isAlg ds fs=true) {a b k:Int} (h:wiB ds a b=true) (h1:a≤k) (h2:k≤b):fitB ds k=true:=by
 by_cases hk:k<0
 ·exact fit_neg hG hk
 ·exact wi_fit h (by omega) h2
theorem l03Code_c {B:World} {H0 H:HP} {L:List SA} {w:World} {qad qaf:Option Addr} {cad caf:Nat} {ad:List Int} {af:List (List Term)} {n:Int} (had:Ints H qad ad) (haf:Forms H qaf af) (hn8:ad.length≤1048576) (hn9:af.length≤1048576) (hl9 : ∀i,i<af.length→(fm af i).length≤1048576) (hH:Hp B H0 H L w):Calls Try.prog 18 [.agg [.slice qad ad.length cad,.slice qaf af.length caf].toArray,.int .i64 n].toArray w fun e w'=>e = .returned (.int .i64 (cdC ad af n))∧Hp B H0 H L w':=by
 refine Jt Try.func18 rfl 21 rfl rfl [(0,.agg [.slice qad ad.length cad,.slice qaf af.length caf].toArray),(1,.int .i64 n)] rfl hH ?_;clear hH;refine Je fun _ hK1 _=>(Jb (Eb rfl rfl rfl fun g2=>(Jg (Jd rfl) rfl (Jf (Ja (hK1 (Je fun _ hK2 _=>(Jm (Je fun _ hK3 _=>(Jb (Jg (Ju rfl At.z (by simpa [*] using ag32)) rfl (Jz fn33 rfl rfl fun w hH=>(l02Is_c had haf (by omega) (by omega) hl9 hH).mono ?_))))))))))));rintro _ w ⟨rfl,hH⟩;refine ⟨_,rfl,fun a hF=>JT hF hH ?_⟩;refine Jg (Ei rfl) rfl (Jg (Jd rfl) rfl (Jf (Ja (hK3 (Eh rfl (fun h5=>?_) (fun h5=>?_))))))
 ·
  refine Je fun _ hK4 _=>(Jb (Jg (Jd rfl) rfl (Jf (Ja (hK4 (Jp (JJ (Jh (Jk rfl (Res.tmp rfl) fun w hH=>?_)))))))));replace hH:=hH.tail;exact ⟨ri (by rw [cdC,if_neg (by rw [not_f h5];decide)]),hH⟩
 ·
  have hG:isAlg ad af=true:=not_t h5;have hwf:=haf.wfss;have hA:=isAlg_ok hG hwf;have h8:=hA.hn;have hd:=alg_112 hG;refine Je fun _ hK5 _=>(Jb (Jg (Jc rfl) rfl (Jz fn34 rfl rfl fun w hH=>(l01In_c hH).mono ?_)));rintro _ w ⟨rfl,hH⟩;refine ⟨_,rfl,fun a hF=>JT hF hH ?_⟩;refine Jg (Ei rfl) rfl (Jg (Jd rfl) rfl (Jf (Ja (hK5 (Eh rfl (fun h9=>?_) (fun h9=>?_))))))
  ·
   refine Je fun _ hK6 _=>(Jb (Jg (Jd rfl) rfl (Jf (Ja (hK6 (Jp (JJ (Jh (Jk rfl (Res.tmp rfl) fun w hH=>?_)))))))));replace hH:=hH.tail;exact ⟨ri (by rw [cdC,if_pos hG,if_neg (by rw [show askB n=false from not_f h9];decide)]),hH⟩
  ·
   have hk:=askB_y (not_t h9);refine Je fun _ hK7 _=>(Jb (Jg (Ju rfl At.z (by simpa [*] using ag32)) rfl (Jg (Jc rfl) rfl (Jg (PR.sub rfl rfl (by first | exact nw _ (by omega) | rfl)) rfl (Jg (Jc rfl) rfl (Jg (JA rfl rfl (by first | exact nw _ (by omega) | rfl)) rfl (Jz fn35 rfl rfl fun w hH=>(l03Within_c had haf hd h8 (by omega) (by omega) hH).mono ?_)))))));rintro _ w ⟨rfl,hH⟩;refine ⟨_,rfl,fun a hF=>JT hF hH ?_⟩;refine Jg (Ei rfl) rfl (Jg (Jd rfl) rfl (Jf (Ja (hK7 (Eh rfl (fun h13=>?_) (fun h13=>?_))))))
   ·
    refine Je fun _ hK8 _=>(Jb (Jg (Jd rfl) rfl (Jf (Ja (hK8 (Jp (JJ (Jh (Jk rfl (Res.tmp rfl) fun w hH=>?_)))))))));replace hH:=hH.tail;exact ⟨ri (by rw [cdC,if_pos hG,if_pos (show askB n=true from not_t h9),if_neg (by rw [not_f h13];decide)]),hH⟩
   ·
    refine Jj (JE (Ja (hK2 (Je fun _ hK9 _=>(Jb (Jg (Jd rfl) rfl (Jf (Ja (hK9 (Jp (Jk rfl (Res.tmp rfl) fun w hH=>?_)))))))))));replace hH:=hH.tail;exact ⟨ri (by rw [cdC,if_pos hG,if_pos (show askB n=true from not_t h9),if_pos (not_t h13)]),hH⟩
theorem bd93_0_1 : ∀(p0:Option Addr) (b1:Nat) w,(Instr.build 93 #[(0,.pointer p0),(1,.map (some b1))]).run Try.prog w = .ok (.agg [.pointer p0,.map (some b1)].toArray) w:=fun p0 b1 _=>by kernel_rfl
theorem lvO_cell : ∀{ls:List (Int × Lv)} {x:Int × Lv} {h:HP},x∈ls→(lvO ls).holds h→(lvB x.2).holds h
 | [],_,_,hx,_=>by simp at hx
 | y::ls,x,h,hx,hh=>by
  rcases List.mem_cons.1 hx with rfl | hx
  ·exact hh.1
  ·exact lvO_cell hx hh.2.1
theorem cpx_cell {lb:Nat} {ls:List (Int × Lv)} {n:Int} {x:Lv} {h:HP} {k:Nat} {v:Value} (hx:(n,x)∈ls) (hh:(cpx lb ls).holds h) (hk:x.cells[k]? = some v):cellO h (some ⟨x.b,0,none⟩) k=some v:=obj_cell (lvO_cell hx hh.2.1) hk
section
variable {P : Program} {ops : Array Oper} {Q : Exit → Act → World → Prop} {n : Nat} {B : World} {H0 H : HP} {rest : List Oper} {us : List (Nat × Value)} {L L' : List SA} {t : TypeId} {p : String} {af : Array Edge} {d : Nat} {x y : Operand}
theorem PR.loadCx {ty:TypeId} {lb k b:Nat} {ls:List (Int × Lv)} {m:Int} {lv:Lv} {v:Value} (hx:opv us x=some (ptr (some ⟨b,0,none⟩) k)) (hat:At L (cpx lb ls) (cpx lb ls) L) (hm:(m,lv)∈ls) (hb:lv.b=b) (hk:lv.cells[k]? = some v) (hp:Plain P ty):PR P n B H0 us H L (.load ty x) t v:=
 fun c' w' d' b' a w hF hH=>by
  subst hb
  exact JL (H:=G.hp w) (L:=[]) (B:=w) (H0:=G.hp w) hx (cpx_cell hm (hH.objs _ hat.mem).1 hk) hp c' w' d' b' a w hF (Hp.start fun _ _ h=>h)
end
theorem Hp.cpx0 {B:World} {H0 H:HP} {L:List SA} {w:World} {lb:Nat} (h:Hp B H0 H (lvM lb []::L) w):Hp B H0 H (cpx lb []::L) w:=(h.emp.front (.s .z)).star
theorem newComplex_c {B:World} {H0 H:HP} {L:List SA} {w:World} {ba:Nat} {qad qaf:Option Addr} {cad caf:Nat} {ad:List Int} {af:List (List Term)} (pad:CellAt H ba 0 (.slice qad ad.length cad)) (paf:CellAt H ba 1 (.slice qaf af.length caf)) (had:Ints H qad ad) (haf:Forms H qaf af) (hH:Hp B H0 H L w):Calls Try.prog 44 [.pointer (some ⟨ba,0,none⟩)].toArray w fun e w'=>∃H' b lc,Le H H' ∧CellAt H' b 0 (.pointer (some ⟨ba,0,none⟩))∧CellAt H' b 1 (.map (some lc))∧e = .returned (.pointer (some ⟨b,0,none⟩))∧Hp B H0 H' (cpx lc []::L) w':=by
 refine Jt Try.func44 rfl 7 rfl rfl [(0,.pointer (some ⟨ba,0,none⟩))] rfl hH ?_;clear hH;refine Je fun _ hK1 _=>(Jb (Jg (Jd rfl) rfl (Jf (Ja (hK1 (Je fun _ hK2 _=>(Jb (Jg (Jc rfl) rfl (EG ekI evB okI rfl fun bm4=>(Jg (PR.build2 rfl rfl (fun w=>bd93_0_1 _ _ w)) rfl (Eb rfl rfl rfl fun g6=>(J.freezeRow .z fun H6 hle6 hc6=>?_))))))))))));replace pad:=pad.le hle6;replace paf:=paf.le hle6;replace had:=had.le hle6;replace haf:=haf.le hle6;refine Jg (Jd rfl) rfl (Jf (Ja (hK2 (Jp (Jk rfl (Res.tmp rfl) fun w hH=>?_)))));replace hH:=hH.sublist (.cons_cons _ (List.Sublist.refl _));exact ⟨_,_,_,hle6,hc6 0 _ rfl,hc6 1 _ rfl,rfl,hH.cpx0⟩
theorem fn18:Fn Try.prog 18:=⟨_,Try.func18,by kernel_rfl,rfl⟩
theorem fn22:Fn Try.prog 22:=⟨_,Try.func22,by kernel_rfl,rfl⟩
theorem fn23:Fn Try.prog 23:=⟨_,Try.func23,by kernel_rfl,rfl⟩
theorem fn24:Fn Try.prog 24:=⟨_,Try.func24,by kernel_rfl,rfl⟩
theorem fn42:Fn Try.prog 42:=⟨_,Try.func42,by kernel_rfl,rfl⟩
theorem fn43:Fn Try.prog 43:=⟨_,Try.func43,by kernel_rfl,rfl⟩
theorem fn44:Fn Try.prog 44:=⟨_,Try.func44,by kernel_rfl,rfl⟩
theorem fn45:Fn Try.prog 45:=⟨_,Try.func45,by kernel_rfl,rfl⟩
theorem fn46:Fn Try.prog 46:=⟨_,Try.func46,by kernel_rfl,rfl⟩
theorem fn48:Fn Try.prog 48:=⟨_,Try.func48,by kernel_rfl,rfl⟩
theorem ar_wi (ds:List Int) (fs:List (List Term)) (hG:isAlg ds fs=true) (n:Int):arB ds n=wiB ds (n - 1) (n+1):=by
 cases h:wiB ds (n - 1) (n+1) with
 | true=>
  unfold arB;rw [wi_fit' hG h (by omega) (by omega),wi_fit' hG h (by omega) (by omega),wi_fit' hG h (by omega) (by omega)]
  rfl
 | false=>
  cases h2:arB ds n with
  | false=>rfl
  | true=>
   exfalso
   unfold arB at h2;simp only [Bool.and_eq_true] at h2;rw [wiB_yes fun k hk=>?_] at h
   ·cases h
   ·rcases (show max (n - 1) 0+(k:Int)=n - 1∨max (n - 1) 0+(k:Int)=n∨max (n - 1) 0+(k:Int)=n+1 by omega) with e | e | e <;> rw [e]
    ·exact h2.1
    ·exact h2.2.1
    ·exact h2.2.2
def asC (ds:List Int) (fs:List (List Term)) (ns:List Int):Int:=if isAlg ds fs then if ns.any fun x=>!askB x then 2 else arC ds ns else 1
def mdV (ds:List Int) (fs:List (List Term)) (n:Int):List (List Int):=if cdC ds fs n=0 then matS ds fs n else []
section
variable {ds : List Int} {fs : List (List Term)} {n : Int} {ns : List Int}
theorem first_as {b:Bool}:firstOf [codeA ds fs [],if b=true then 2 else 0]=if isAlg ds fs then if b then 2 else 0 else 1:=by
 rw [codeA_nil,firstOf_two];unfold algC
 cases isAlg ds fs <;> cases b <;> rfl
theorem asC_one:asC ds fs [n]=cdC ds fs n:=by
 unfold asC cdC arC
 cases hG:isAlg ds fs with
 | false=>rfl
 | true=>
  simp only [List.any_cons,List.any_nil,Bool.or_false,List.all_cons,List.all_nil,Bool.and_true,if_true];rw [ar_wi ds fs hG n]
  cases askB n <;> rfl
theorem as_y (h:(if isAlg ds fs then if (ns.any fun x=>!askB x)=true then (2:Int) else 0 else 1)=0):isAlg ds fs=true∧(ns.any fun x=>!askB x)=false:=by
 cases hG:isAlg ds fs with
 | false=>rw [hG] at h;simp at h
 | true=>
  refine ⟨rfl,?_⟩
  cases hh:(ns.any fun x=>!askB x) with
  | false=>rfl
  | true=>rw [hG,hh] at h;simp at h
theorem asC_y (hG:isAlg ds fs=true) (h:(ns.any fun x=>!askB x)=false):arC ds ns=asC ds fs ns:=by unfold asC;rw [hG,h];rfl
theorem asC_n (h : ¬(if isAlg ds fs then if (ns.any fun x=>!askB x)=true then (2:Int) else 0 else 1)=0):(if isAlg ds fs then if (ns.any fun x=>!askB x)=true then (2:Int) else 0 else 1)=asC ds fs ns:=by
 unfold asC
 cases hG:isAlg ds fs with
 | false=>rfl
 | true=>
  cases hh:(ns.any fun x=>!askB x) with
  | true=>rfl
  | false=>rw [hG,hh] at h;exact absurd rfl h
theorem as_ask (h:(ns.any fun x=>!askB x)=false) : ∀i,i<ns.length→0≤ns.getD i 0∧ns.getD i 0≤20:=fun i hi=>by
 have h1:(!askB ns[i])=false:=by
  have:=List.any_eq_false.1 h ns[i] (List.getElem_mem hi)
  simpa using this
 have h2:=askB_y (not_t h1)
 rw [List.getD_eq_getElem?_getD,List.getElem?_eq_getElem hi]
 exact h2
theorem cd_y (h:cdC ds fs n=0):isAlg ds fs=true∧(0≤n∧n≤20)∧fit2 ds n:=by
 unfold cdC at h
 cases hG:isAlg ds fs with
 | false=>rw [hG] at h;simp at h
 | true=>
  cases hk:askB n with
  | false=>rw [hG,hk] at h;simp at h
  | true=>
   cases hw:wiB ds (n - 1) (n+1) with
   | false=>rw [hG,hk,hw] at h;simp at h
   | true=>
    have ha:=askB_y hk;exact ⟨rfl,ha,wi_fit hw (by omega) (by omega),wi_fit hw (by omega) (by omega)⟩
theorem mdV_n (h:cdC ds fs n≠0):mdV ds fs n=[]:=if_neg h
theorem mdV_y (h:cdC ds fs n=0):mdV ds fs n=matS ds fs n:=if_pos h
end
theorem isAsked_c {B:World} {H0 H:HP} {L:List SA} {w:World} {n:Int} (hH:Hp B H0 H L w):Calls Try.prog 43 [.int .i64 n].toArray w fun e w'=>e = .returned (.bool (askB n))∧Hp B H0 H L w':=by
 refine Jt Try.func43 rfl 5 rfl rfl [(0,.int .i64 n)] rfl hH ?_;clear hH;refine Je fun _ hK1 _=>(Jb (Jg (Jd rfl) rfl (Jf (Ja (hK1 (Je fun _ hK2 _=>(Jb (Jg (Jc rfl) rfl (Jz fn68 rfl rfl fun w hH=>(within_c hH).mono ?_)))))))));rintro _ w ⟨rfl,hH⟩;refine ⟨_,rfl,fun a hF=>JT hF hH ?_⟩;refine Jg (Jd rfl) rfl (Jf (Ja (hK2 (Jp (Jk rfl (Res.tmp rfl) fun w hH=>?_)))));exact ⟨rfl,hH⟩
theorem asked1_c {B:World} {H0 H:HP} {L:List SA} {w:World} {n:Int} (hH:Hp B H0 H L w):Calls Try.prog 42 [.int .i64 n].toArray w fun e w'=>e = .returned (.bool (!askB n))∧Hp B H0 H L w':=by
 refine Jt Try.func42 rfl 6 rfl rfl [(0,.int .i64 n)] rfl hH ?_;clear hH;refine Je fun _ hK1 _=>(Jb (Jg (Jd rfl) rfl (Jf (Ja (hK1 (Je fun _ hK2 _=>(Jb (Jg (Jc rfl) rfl (Jz fn43 rfl rfl fun w hH=>(isAsked_c hH).mono ?_)))))))));rintro _ w ⟨rfl,hH⟩;refine ⟨_,rfl,fun a hF=>JT hF hH ?_⟩;refine Jg (Ei rfl) rfl (Jg (Jd rfl) rfl (Jf (Ja (hK2 (Jp (Jk rfl (Res.tmp rfl) fun w hH=>?_))))));exact ⟨rfl,hH⟩
theorem copyRows_c {B:World} {H0 H:HP} {L:List SA} {w:World} {qrs:Option Addr} {crs:Nat} {rs:List (List Int)} (hrs:RowsR H qrs rs) (hn:rs.length≤1000000) (hl : ∀i,i<rs.length→(rw_ rs i).length≤1048576) (hH:Hp B H0 H L w):Calls Try.prog 23 [.slice qrs rs.length crs].toArray w fun e w'=>∃q c vs,e = .returned (.slice q (rs).length c)∧Hp B H0 H (ownRs 22 2 q c vs (rs)::L) w':=by
 refine Jt Try.func23 rfl 20 rfl rfl [(0,.slice qrs rs.length crs)] rfl hH ?_;clear hH;refine Je fun _ hK1 _=>(Jb (Jg (Jd rfl) rfl (Jf (Ja (hK1 (Je fun _ hK2 _=>(Jb (J.mk (MK.lit0 u27 sz22) rfl fun qo6 co6=>(J.is0 2 (Jg (Jd rfl) rfl (Jf (Ja (hK2 (Je fun _ hK3 _=>(Je fun _ hK4 _=>(Jb ?_))))))))))))))));refine Jg (Jc rfl) rfl (Jg (Jn u27 rfl rfl) rfl (Jg (Jc rfl) rfl (Jf (Ja (hK4 (Jm (JC (σ:=Option Addr × Nat × Vs × Nat) (fun ⟨q,c,vs,k⟩=>[(9,.int .i64 (k:Int)),(3,.slice q k c)]) (fun ⟨q,c,vs,k⟩=>H) (fun ⟨q,c,vs,k⟩=>ownIs 2 vs (rs.take k)::own 22 1 q k c (slicesI vs (rs.take k))::L) (fun ⟨q,c,vs,k⟩=>k≤rs.length) (fun ⟨q,c,vs,k⟩=>rs.length - k) (qo6,co6,nilVs,0) (by show 0≤rs.length;omega) ⟨rfl,⟨rfl,trivial⟩⟩ rfl rfl ?_)))))));rintro ⟨q,c,vs,k⟩ hk _ hAg0;refine Je fun _ hK5 _=>(Jb (Jg (JM rfl rfl) rfl (Jf (Ja (hK5 (Je fun _ hK6 _=>(Jl rfl (fun h10=>?_) (fun h10=>?_))))))))
 ·
  have hk1:k<rs.length:=by omega
  have hl1:=hl k hk1;refine Jj (Ja (hK6 (Je fun _ hK7 _=>(Jm (Je fun _ hK8 _=>(Jb (Jg (JY u27 sz22 rfl rfl rfl hk1 hrs.sm) rfl ?_)))))));obtain ⟨qe12,ce12,he12,le12,Fe12⟩:=hrs k hk1;refine Jg (JL rfl he12 pl22) rfl (Jg (Jd rfl) rfl (Jf (Ja (hK8 (Jb (Jg (Jc rfl) rfl (Jg (Jc rfl) rfl (Jz fn49 rfl rfl fun w hH=>(CloneI_c Fe12 (by omega) hH).mono ?_))))))));rintro _ w ⟨qo15,co15,rfl,hH⟩;refine ⟨_,rfl,fun a hF=>JT hF hH ?_⟩;refine J.mk (MK.lit1S u27 ze22 sz22 rfl rfl) rfl fun qo16 co16=>(J.append1 u27 ze22 sz22 by22 rfl rfl rfl rfl (by omega) .z (.s (.s .z)) (fun _ _=>(.s (.s .z))) rfl fun qo17 co17=>(Jg (Jd rfl) rfl (Jf (JE (Ja (hK7 (Jb (Jg (JA rfl rfl (by first | exact nw _ (by omega) | rfl)) rfl (Jg (Jc rfl) rfl (Jf (Ja (Jw (.s (.s (.s .z))) (Jw (.s .z) (Jw (.s (.s (.s .z))) (Jw (.s (.s (.s .z))) ?_)))))))))))))));refine EJ.isSnoc (rs:=rs.take k) (List.length_take_of_le hk) rfl (JQ (.s .z) ?_);exact hAg0 (qo17,co17,setV vs k (qo15,co15),k+1) (by show k+1≤rs.length;omega) (by show rs.length - (k+1)<rs.length - k;omega) 14 rfl rfl ⟨rfl,⟨rfl,trivial⟩⟩ rfl (by dsimp only;rw [rw_take hk1,slicesI_set (List.length_take_of_le hk)])
 ·
  refine JG (Ji (Ji (JN (Ja (hK3 (Je fun _ hK9 _=>(Jb (Jg (Jc rfl) rfl (Jg (Jd rfl) rfl (Jf (Ja (hK9 (Jp (Jk rfl (Res.tmp rfl) fun w hH=>?_))))))))))))));replace hH:=hH.sublist (.cons_cons _ (.cons_cons _ (List.Sublist.refl _)))
  obtain rfl:k=rs.length:=by omega
  rw [List.take_length] at hH;exact ⟨q,c,vs,rfl,by unfold ownRs;exact (hH.front (.s .z)).star⟩
theorem asked_c {B:World} {H0 H:HP} {L:List SA} {w:World} {ba:Nat} {qad qaf:Option Addr} {cad caf:Nat} {ad:List Int} {af:List (List Term)} {qns:Option Addr} {cns:Nat} {ns:List Int} (pad:CellAt H ba 0 (.slice qad ad.length cad)) (paf:CellAt H ba 1 (.slice qaf af.length caf)) (had:Ints H qad ad) (haf:Forms H qaf af) (hns:Ints H qns ns) (hn8:ad.length≤1048576) (hn9:af.length≤1048576) (hl9 : ∀i,i<af.length→(fm af i).length≤1048576) (hnl:ns.length≤1000) (hH:Hp B H0 H L w):Calls Try.prog 22 [.pointer (some ⟨ba,0,none⟩),.slice qns ns.length cns].toArray w fun e w'=>∃H' b lc,Le H H' ∧CellAt H' b 0 (.pointer (some ⟨ba,0,none⟩))∧CellAt H' b 1 (.map (some lc))∧e = .returned (.tuple #[.pointer (some ⟨b,0,none⟩),.int .i64 (asC ad af ns)])∧Hp B H0 H' (cpx lc []::L) w':=by
 refine Jt Try.func22 rfl 26 rfl rfl [(0,.pointer (some ⟨ba,0,none⟩)),(1,.slice qns ns.length cns)] rfl hH ?_;have hw0:=hH.old;have hw1:=hH.le;clear hH;refine Je fun _ hK1 _=>(Jb (Jg (Jd rfl) rfl (Jg (Jd rfl) rfl (Jf (Ja (hK1 (Je fun _ hK2 _=>(Jb (Jg (Jc rfl) rfl (Jz fn41 rfl rfl fun w hH=>(ContainsFuncI_c hns fn42 (fun x w hH=>by simpa only [Array.append_empty,Array.empty_append] using asked1_c hH) (by omega) hH).mono ?_))))))))));rintro _ w ⟨rfl,hH⟩;refine ⟨_,rfl,fun a hF=>JT hF hH ?_⟩;refine Jg (Jd rfl) rfl (Jf (Ja (hK2 (Je fun _ hK3 _=>(Jb (Jg (Jc rfl) rfl (Jz fn44 rfl rfl fun w hH=>(newComplex_c pad paf had haf hH).mono ?_)))))));rintro _ w ⟨Hf12,bn12,ln12,hlf12,pn120,pn121,rfl,hH⟩;refine ⟨_,rfl,fun a hF=>JT hF hH ?_⟩;replace pad:=pad.le hlf12;replace paf:=paf.le hlf12;replace had:=had.le hlf12;replace haf:=haf.le hlf12;replace hns:=hns.le hlf12;refine Jg (Jc rfl) rfl (Jz fn46 rfl rfl fun w hH=>(algebraCode_c pad paf had haf (forms_nil Hf12) hn8 hn9 hl9 (by simp) (fun i hi=>by simp at hi) hH).mono ?_);rintro _ w ⟨rfl,hH⟩;refine ⟨_,rfl,fun a hF=>JT hF hH ?_⟩;refine Jg (Jc rfl) rfl (Jz fn47 rfl rfl fun w hH=>(when_c hH).mono ?_);rintro _ w ⟨rfl,hH⟩;refine ⟨_,rfl,fun a hF=>JT hF hH ?_⟩;refine J.litI2 u22 ze2 sz2 rfl rfl rfl fun g17=>(Jz fn45 rfl rfl fun w hH=>hH.lend .z fun Hl1 hle1 hA1 hB1 hH=>(first_c (own_ints hA1) (by simp) hH).mono ?_);rintro _ w ⟨rfl,hH⟩;replace hH:=hB1 _ _ hH;refine ⟨_,rfl,fun a hF=>JT hF hH ?_⟩;refine Jg (Jd rfl) rfl (Jg (Jd rfl) rfl (Jf (Ja (hK3 (CJ.cutU (σ:=Unit) (fun (_:Unit)=>[(8,.int .i64 (asC ad af ns))]) (fun (_:Unit)=>Hf12) (fun (_:Unit)=>cpx ln12 []::L) (fun (_:Unit)=>True) ?_ ?_)))))
 ·
  intro _ hMt1;refine Je fun _ hK4 _=>(Jb (Jg (Jc rfl) rfl (Jg (Ew rfl rfl) rfl (Jf (Ja (hK4 (Jl rfl (fun h20=>?_) (fun h20=>?_))))))))
  ·
   rw [first_as] at h20;obtain ⟨hG,hany⟩:=as_y h20;have hA:=isAlg_ok hG haf.wfss;have hd:=alg_112 hG;have h8:=hA.hn;have hb9:=as_ask hany;refine Jb (Jg (Jc rfl) rfl (Jg (Jc rfl) rfl (Jz fn48 rfl rfl fun w hH=>(around_c pn120 pn121 pad paf had haf hns hd h8 (fun i hi=>by have:=hb9 i hi;omega) (by omega) hH).mono ?_)));rintro _ w ⟨rfl,hH⟩;refine ⟨_,rfl,fun a hF=>JT hF hH ?_⟩;refine Jg (Jd rfl) rfl (Jf (Ja (JQ .z ?_)));exact hMt1 () trivial 6 rfl rfl ⟨(vi (asC_y hG hany)),trivial⟩ rfl rfl
  ·
   rw [first_as] at h20;refine Jj (Ja (JQ .z ?_));exact hMt1 () trivial 2 rfl rfl ⟨(vi (first_as.trans (asC_n h20))),trivial⟩ rfl rfl
 ·
  rintro _ _;refine Je fun _ hK5 _=>(Jb (Jg (Jc rfl) rfl (Jg (Jc rfl) rfl (Jg (Jd rfl) rfl (Jg (Jd rfl) rfl (Jf (Ja (hK5 (Jp (Ev rfl (Res.tmp rfl) (Res.tmp rfl) fun w hH=>?_))))))))));replace hH:=hH.sublist (.cons_cons _ (List.Sublist.refl _));exact ⟨_,_,_,hlf12,pn120,pn121,rfl,hH⟩
theorem MatrixOfD_c {B:World} {H0 H:HP} {L:List SA} {w:World} {qad qaf:Option Addr} {cad caf:Nat} {ad:List Int} {af:List (List Term)} {n:Int} (had:Ints H qad ad) (haf:Forms H qaf af) (hn8:ad.length≤1048576) (hn9:af.length≤1048576) (hl9 : ∀i,i<af.length→(fm af i).length≤1048576) (hH:Hp B H0 H L w):Calls Try.prog 8 [.agg [.slice qad ad.length cad,.slice qaf af.length caf].toArray,.int .i64 n].toArray w fun e w'=>∃q c vs,e = .returned (.tuple #[.slice q (mdV ad af n).length c,.int .i64 (cdC ad af n)])∧Hp B H0 H (ownRs 22 2 q c vs (mdV ad af n)::L) w':=by
 refine Jt Try.func8 rfl 24 rfl rfl [(0,.agg [.slice qad ad.length cad,.slice qaf af.length caf].toArray),(1,.int .i64 n)] rfl hH ?_;have hw0:=hH.old;have hw1:=hH.le;clear hH;refine Je fun _ hK1 _=>(Jb (Eb rfl rfl rfl fun g2=>(J.freezeRow .z fun Hz2 hlez2 hcz2=>?_)));replace had:=had.le hlez2;replace haf:=haf.le hlez2;have pad:CellAt Hz2 g2 0 (.slice qad ad.length cad):=hcz2 0 _ rfl;have paf:CellAt Hz2 g2 1 (.slice qaf af.length caf):=hcz2 1 _ rfl;refine Jg (Jd rfl) rfl (Jg (Jd rfl) rfl (Jf (Ja (hK1 (Je fun _ hK2 _=>(Jb (Jg (Jc rfl) rfl (J.mk (MK.lit1I u22 ze2 sz2 rfl) rfl fun qo10 co10=>(J.fixA .z fun Ho10 hleo10 hAo10=>?_)))))))));replace had:=had.le hleo10;replace haf:=haf.le hleo10;replace pad:=pad.le hleo10;replace paf:=paf.le hleo10;have hxo10:=own_ints hAo10;have hco10:=own_le hAo10;refine Jz fn22 rfl rfl fun w hH=>(asked_c pad paf had haf hxo10 hn8 hn9 hl9 (by simp) hH).mono ?_;rintro _ w ⟨Hf11,bn11,ln11,hlf11,pn110,pn111,rfl,hH⟩;refine ⟨_,rfl,fun a hF=>JT hF hH ?_⟩;replace had:=had.le hlf11;replace haf:=haf.le hlf11;replace pad:=pad.le hlf11;replace paf:=paf.le hlf11;replace hxo10:=hxo10.le hlf11;refine Jg (Jc rfl) rfl (Jg (JI rfl rfl) rfl (Jg (JI rfl rfl) rfl (Jg (Jd rfl) rfl (Jg (Jd rfl) rfl (Jf (Ja (hK2 (Je fun _ hK3 _=>(Je fun _ hK4 _=>(Jb (Jg (Jc rfl) rfl (Jg (Ek rfl rfl) rfl (Jf (Ja (hK4 (Jl rfl (fun h15=>?_) (fun h15=>?_)))))))))))))))))
 ·
  rw [asC_one] at h15 ⊢;refine Je fun _ hK5 _=>(Jb (Jg (Jc rfl) rfl (Jg (Jd rfl) rfl (Jg (Jd rfl) rfl (Jf (Ja (hK5 (Jp (Jh (Ev rfl (Res.tmp rfl) (Res.tmp rfl) fun w hH=>?_))))))))));replace hH:=hH.sublist (.cons _ (List.Sublist.refl _));rw [mdV_n h15];exact ⟨none,0,nilVs,rfl,(Hp.rsNil 22 2 (hH.own0 22 1)).weaken ((hlez2.trans hleo10).trans hlf11) hw0 hw1⟩
 ·
  rw [asC_one] at h15;have h0:cdC ad af n=0:=Decidable.not_not.1 h15;obtain ⟨hG,hnn,hft⟩:=cd_y h0;have hA:=isAlg_ok hG haf.wfss;have hd:=alg_112 hG;have h8:=hA.hn;have hom:=hom_of hG haf.wfss h8 hd (by omega) hft;have hmok:=matS_ok (n:=n) hA h8 hd;have hmlen:=matS_len ad af n;have hml:=monL_len ad n;have hml1:=monL_len ad (n+1)
  have hrl : ∀i,i<(matS ad af n).length→(rw_ (matS ad af n) i).length≤1048576:=fun i hi=>by have:=(hmok _ (rw_mem hi)).len;omega
  refine Jj (Ja (hK3 (Je fun _ hK6 _=>(Jb (Jg (Jc rfl) rfl (Jg (Jc rfl) rfl (Jz fn24 rfl rfl fun w hH=>(withMatrix_c (n:=n) (X:=fun _=>False) pn110 pn111 pad paf had haf hd h8 (by omega) hA (fun h=>h) hft hom CpxOk.nil (Nxt.nil _) (hH.front .z)).mono ?_)))))));rintro _ w ⟨Hf19,ls19,⟨b19,p19,⟨ql19,kl19,cl19⟩,⟨qm19,km19,cm19⟩,⟨qz19,kz19,cz19⟩,⟨qy19,ky19,cy19⟩,⟨qx19,kx19,cx19⟩⟩,hlf19,hC19,hx19,hsub19,hN19,hk19,⟨hm19,hkp19⟩,rfl,hH⟩;refine ⟨_,rfl,fun a hF=>JT hF hH ?_⟩;obtain ⟨rfl,hmr19⟩:km19=(matS ad af n).length∧RowsR Hf19 qm19 (matS ad af n):=hm19;replace had:=had.le hlf19;replace haf:=haf.le hlf19;replace pad:=pad.le hlf19;replace paf:=paf.le hlf19;replace hxo10:=hxo10.le hlf19;replace pn110:=pn110.le hlf19;replace pn111:=pn111.le hlf19;refine Jg (JK rfl) rfl (Jg (Jq u55 rfl sz27 rfl) rfl (Jg (PR.loadCx (b:=b19) (k:=2) (v:=.slice qm19 (matS ad af n).length cm19) rfl At.z hx19 rfl rfl pl27) rfl (Jz fn23 rfl rfl fun w hH=>(copyRows_c hmr19 (by omega) hrl hH).mono ?_)));rintro _ w ⟨qo23,co23,vso23,rfl,hH⟩;refine ⟨_,rfl,fun a hF=>JT hF hH ?_⟩;refine Jg (Jd rfl) rfl (Jg (Jd rfl) rfl (Jf (Ja (hK6 (Jp (Ev rfl (Res.tmp rfl) (Res.tmp rfl) fun w hH=>?_))))));replace hH:=hH.sublist (.cons_cons _ (.cons _ (List.Sublist.refl _)));rw [mdV_y h0,h0];exact ⟨_,_,_,rfl,hH.weaken (((hlez2.trans hleo10).trans hlf11).trans hlf19) hw0 hw1⟩
theorem sMatrixOfD_c {B:World} {H0 H:HP} {L:List SA} {w:World} {qad qaf:Option Addr} {cad caf:Nat} {ad:List Int} {af:List (List Term)} {n:Int} (had:Ints H qad ad) (haf:Forms H qaf af) (hn8:ad.length≤1048576) (hn9:af.length≤1048576) (hl9 : ∀i,i<af.length→(fm af i).length≤1048576) (hH:Hp B H0 H L w):Calls Try.prog 6 [.agg [.slice qad ad.length cad,.slice qaf af.length caf].toArray,.int .i64 n].toArray w fun e w'=>∃H' q c,Le H H' ∧RowsR H' q (mdV ad af n)∧(mdV ad af n).length≤c∧e = .returned (.tuple #[.slice q (mdV ad af n).length c,.int .i64 (cdC ad af n)])∧Hp B H0 H' L w':=by
 refine Jt Try.func6 rfl 16 rfl rfl [(0,.agg [.slice qad ad.length cad,.slice qaf af.length caf].toArray),(1,.int .i64 n)] rfl hH ?_;have hw0:=hH.old;have hw1:=hH.le;clear hH;refine Je fun _ hK1 _=>(Jb (Eb rfl rfl rfl fun g2=>(Jg (Jd rfl) rfl (Jg (Jd rfl) rfl (Jf (Ja (hK1 (Je fun _ hK2 _=>(Je fun _ hK3 _=>(Jb (Jg (Ju rfl At.z (by simpa [*] using ag32)) rfl (Jg (Jc rfl) rfl (Jz fn18 rfl rfl fun w hH=>(l03Code_c had haf (by omega) (by omega) hl9 hH).mono ?_)))))))))))));rintro _ w ⟨rfl,hH⟩;refine ⟨_,rfl,fun a hF=>JT hF hH ?_⟩;refine Jg (Jd rfl) rfl (Jf (Ja (hK3 (Je fun _ hK4 _=>(Jb (Jg (Jc rfl) rfl (Jg (Ek rfl rfl) rfl (Jf (Ja (hK4 (Jl rfl (fun h11=>?_) (fun h11=>?_))))))))))))
 ·
  refine Je fun _ hK5 _=>(Jb (Jg (Jc rfl) rfl (Jg (Jd rfl) rfl (Jg (Jd rfl) rfl (Jf (Ja (hK5 (Jp (Jh (Ev rfl (Res.tmp rfl) (Res.tmp rfl) fun w hH=>?_))))))))));replace hH:=hH.tail;rw [mdV_n h11];exact ⟨_,none,0,(Le.refl _),RowsR.nil _ _,Nat.zero_le _,rfl,hH⟩
 ·
  have h0:cdC ad af n=0:=Decidable.not_not.1 h11;obtain ⟨hG,hnn,hft⟩:=cd_y h0;have hA:=isAlg_ok hG haf.wfss;have hd:=alg_112 hG;have h8:=hA.hn;have hom:=hom_of hG haf.wfss h8 hd (by omega) hft;have hmok:=matS_ok (n:=n) hA h8 hd;have hmlen:=matS_len ad af n;have hml:=monL_len ad n;have hml1:=monL_len ad (n+1)
  have hrl : ∀i,i<(matS ad af n).length→(rw_ (matS ad af n) i).length≤1048576:=fun i hi=>by have:=(hmok _ (rw_mem hi)).len;omega
  refine Jj (Ja (hK2 (Je fun _ hK6 _=>(Jb (Jg (Ju rfl At.z (by simpa [*] using ag32)) rfl (Jg (Jc rfl) rfl (Jz fn19 rfl rfl fun w hH=>(l03Matrix_c had haf hd h8 (by omega) hA hft hom hH).mono ?_)))))));rintro _ w ⟨Hf15,qf15,cf15,hlf15,hI15,hcc15,rfl,hH⟩;refine ⟨_,rfl,fun a hF=>JT hF hH ?_⟩;replace had:=had.le hlf15;replace haf:=haf.le hlf15;refine Jg (Jd rfl) rfl (Jg (Jd rfl) rfl (Jf (Ja (hK6 (Jp (Ev rfl (Res.tmp rfl) (Res.tmp rfl) fun w hH=>?_))))));replace hH:=hH.tail;rw [mdV_y h0,h0];exact ⟨_,_,_,hlf15,hI15,hcc15,rfl,hH⟩
end Go.Proofs.Ythenedanhcnccaa.G
