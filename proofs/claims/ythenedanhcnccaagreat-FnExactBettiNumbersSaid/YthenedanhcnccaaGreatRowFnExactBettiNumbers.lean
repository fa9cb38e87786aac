/- The row: the law answers true whatever the input, and the input reads as it did. No condition. -/
import Derived.Test.YthenedanhcnccaaGreatRows
import Derived.Test.YthenedanhcnccaaGreatProg
import Derived.WalkKit
import Derived.KernelRfl
import Derived.JoinedOf
import Derived.Maps.AppendAt
import Derived.Still
import Derived.ProofKit
import Derived.OpenShut
import Derived.StillTail
import Derived.Deep.Upon
import Derived.WalkSpells
import Derived.Maps.Range
import Derived.DeepKeys4
import Derived.Maps.Keyed
import Derived.ChangeOld
import Derived.Below
import Derived.SizedLaws
import Derived.Test.YthenedanhcnccaaGreatPBetf
set_option linter.unusedVariables false
set_option linter.unusedSimpArgs false
set_option maxRecDepth 10000
set_option maxHeartbeats 8000000
namespace Go.Proofs.YthenedanhcnccaaGreat.G
open Go Go.RowKit
def Nn (p:Pw):Prop:=p.length=8∧∀j,0≤p.getD j 0
theorem Nn.add {p q:Pw} (hp:Nn p) (hq:Nn q):Nn (addp p q):=⟨by simp,fun j=>by
 rw [addp_get hp.1 hq.1]
 have:=hp.2 j
 have:=hq.2 j
 omega⟩
def par (x:Int):Int:=if x % 2=1 then -1 else 1
theorem par_add (x y:Int):par (x+y)=par x * par y:=by
 unfold par
 rcases (show x % 2=0∨x % 2=1 by omega) with h | h <;> rcases (show y % 2=0∨y % 2=1 by omega) with k | k
 ·rw [if_neg (by omega),if_neg (by omega),if_neg (by omega)];rfl
 ·rw [if_pos (by omega),if_neg (by omega),if_pos (by omega)];rfl
 ·rw [if_pos (by omega),if_pos (by omega),if_neg (by omega)];rfl
 ·rw [if_neg (by omega),if_pos (by omega),if_pos (by omega)];rfl
section
variable {ds : Pw}
theorem oin_nn (hd : ∀j,0≤ds.getD j 0∧ds.getD j 0≤12) {p:Pw} (hp:Nn p) (i:Nat) : ∀m,0≤oin ds p i m
 | 0=>by simp [oin]
 | m+1=>by
  have h1:=oin_nn hd hp i m
  have h2:=hp.2 (i+1+m)
  simp only [oin]
  rcases deg2 hd (i+1+m) with h | h <;> rw [h] <;> omega
theorem oddTo_nn (hd : ∀j,0≤ds.getD j 0∧ds.getD j 0≤12) {p q:Pw} (hp:Nn p) : ∀k,0≤oddTo ds p q k
 | 0=>by simp [oddTo]
 | k+1=>by
  have h1:=oddTo_nn hd hp (q:=q) k
  have h2:=oin_nn hd hp k (ds.length - (k+1))
  simp only [oddTo]
  split <;> omega
theorem sgn_par (hd : ∀j,0≤ds.getD j 0∧ds.getD j 0≤12) {p q:Pw} (hp:Nn p) (h:hits ds p q=false):sgn ds p q=par (oddTo ds p q ds.length):=by
 unfold sgn par;rw [h,if_neg (by decide),Int.tmod_eq_emod_of_nonneg (oddTo_nn hd hp _)]
theorem sgn_z0 {p q:Pw} (h:hits ds p q=true):sgn ds p q=0:=by unfold sgn;rw [h];rfl
theorem oin_add {p p':Pw} (hp:p.length=8) (hp':p'.length=8) (i:Nat) : ∀m,oin ds (addp p p') i m=oin ds p i m+oin ds p' i m
 | 0=>by simp [oin]
 | m+1=>by
  simp only [oin]
  rw [oin_add hp hp' i m,addp_get hp hp',Int.mul_add]
  omega
theorem oddTo_addl {p p' q:Pw} (hp:p.length=8) (hp':p'.length=8) : ∀k,oddTo ds (addp p p') q k=oddTo ds p q k+oddTo ds p' q k
 | 0=>by simp [oddTo]
 | k+1=>by
  simp only [oddTo]
  rw [oddTo_addl hp hp' k,oin_add hp hp']
  split <;> omega
theorem hits_at {p q:Pw} (h:hits ds p q=false) {i:Nat} (hi:i<ds.length):(ds.getD i 0).tmod 2≠0→¬(0<p.getD i 0∧0<q.getD i 0):=fun ho hh=>by
 have:=List.any_eq_false.1 h i (List.mem_range.2 hi)
 unfold hitAt at this
 rw [decide_eq_true ho,decide_eq_true hh.1,decide_eq_true hh.2] at this
 exact this rfl
theorem hits_of {p q:Pw} (h : ∀i,i<ds.length→(ds.getD i 0).tmod 2≠0→¬(0<p.getD i 0∧0<q.getD i 0)):hits ds p q=false:=hits_no fun i hi=>by
 have:=h i hi
 unfold hitAt
 by_cases h1:(ds.getD i 0).tmod 2≠0
 ·have h2:=this h1
  rw [decide_eq_true h1]
  by_cases h3:0<p.getD i 0
  ·rw [decide_eq_true h3,decide_eq_false (show ¬0<q.getD i 0 from fun h4=>h2 ⟨h3,h4⟩)]
   rfl
  ·rw [decide_eq_false h3]
   rfl
 ·rw [decide_eq_false h1]
  rfl
theorem oddTo_addr {p q q':Pw} (hq:Nn q) (hq':Nn q') (h:hits ds q q'=false) : ∀k,k≤ds.length→oddTo ds p (addp q q') k=oddTo ds p q k+oddTo ds p q' k
 | 0,_=>by simp [oddTo]
 | k+1,hk=>by
  have ih:=oddTo_addr (p:=p) hq hq' h k (by omega)
  have h1:=hits_at h (i:=k) (by omega)
  have h2:=hq.2 k
  have h3:=hq'.2 k
  simp only [oddTo]
  rw [ih,addp_get hq.1 hq'.1]
  by_cases ho:(ds.getD k 0).tmod 2≠0
  ·have h4:=h1 ho
   by_cases ha:0<q.getD k 0
   ·have hb : ¬0<q'.getD k 0:=fun hb=>h4 ⟨ha,hb⟩
    rw [if_pos ⟨ho,by omega⟩,if_pos ⟨ho,ha⟩,if_neg fun hh=>hb hh.2]
    omega
   ·by_cases hb:0<q'.getD k 0
    ·rw [if_pos ⟨ho,by omega⟩,if_neg fun hh=>ha hh.2,if_pos ⟨ho,hb⟩]
     omega
    ·rw [if_neg fun hh=>by have:=hh.2;omega,if_neg fun hh=>ha hh.2,if_neg fun hh=>hb hh.2]
     omega
  ·rw [if_neg fun hh=>ho hh.1,if_neg fun hh=>ho hh.1,if_neg fun hh=>ho hh.1]
   omega
theorem sgn_assoc (hd : ∀j,0≤ds.getD j 0∧ds.getD j 0≤12) {p q r:Pw} (hp:Nn p) (hq:Nn q) (hr:Nn r):sgn ds p q * sgn ds (addp p q) r=sgn ds q r * sgn ds p (addp q r):=by
 cases h1:hits ds p q with
 | true=>
  have h2:hits ds p (addp q r)=true:=by
   cases hh:hits ds p (addp q r) with
   | true=>rfl
   | false=>
    have:=hits_of (ds:=ds) (p:=p) (q:=q) fun i hi ho hx=>hits_at hh hi ho ⟨hx.1,by rw [addp_get hq.1 hr.1];have:=hr.2 i;omega⟩;rw [this] at h1
    cases h1
  rw [sgn_z0 h1,sgn_z0 h2,Int.zero_mul,Int.mul_zero]
 | false=>
  cases h3:hits ds q r with
  | true=>
   have h2:hits ds (addp p q) r=true:=by
    cases hh:hits ds (addp p q) r with
    | true=>rfl
    | false=>
     have:=hits_of (ds:=ds) (p:=q) (q:=r) fun i hi ho hx=>hits_at hh hi ho ⟨by rw [addp_get hp.1 hq.1];have:=hp.2 i;omega,hx.2⟩;rw [this] at h3
     cases h3
   rw [sgn_z0 h3,sgn_z0 h2,Int.zero_mul,Int.mul_zero]
  | false=>
   have e:hits ds (addp p q) r=hits ds p (addp q r):=by
    cases ha:hits ds p (addp q r) with
    | false=>
     refine hits_of fun i hi ho hx=>?_;have hx1:=hx.1;rw [addp_get hp.1 hq.1] at hx1;have h4:=hits_at ha hi ho;rw [addp_get hq.1 hr.1] at h4;have h5:=hits_at h3 hi ho;have:=hp.2 i;have:=hq.2 i
     by_cases hpi:0<p.getD i 0
     ·exact h4 ⟨hpi,by have:=hx.2;omega⟩
     ·exact h5 ⟨by omega,hx.2⟩
    | true=>
     cases hb:hits ds (addp p q) r with
     | true=>rfl
     | false=>
      have:=hits_of (ds:=ds) (p:=p) (q:=addp q r) fun i hi ho hx=>by
       have hx2:=hx.2;rw [addp_get hq.1 hr.1] at hx2;have h4:=hits_at hb hi ho;rw [addp_get hp.1 hq.1] at h4;have h5:=hits_at h1 hi ho;have:=hq.2 i;have:=hr.2 i
       by_cases hqi:0<q.getD i 0
       ·exact h5 ⟨hx.1,hqi⟩
       ·exact h4 ⟨by have:=hx.1;omega,by omega⟩
      rw [this] at ha
      cases ha
   cases h6:hits ds p (addp q r) with
   | true=>rw [sgn_z0 h6,sgn_z0 (e.trans h6),Int.mul_zero,Int.mul_zero]
   | false=>
    rw [sgn_par hd hp h1,sgn_par hd (hp.add hq) (e.trans h6),sgn_par hd hq h3,sgn_par hd hp h6,oddTo_addl hp.1 hq.1,oddTo_addr hq hr h3 _ (Nat.le_refl _),← par_add,← par_add]
    congr 1
    omega
end
def od (ds:Pw) (j:Nat):Int:=(ds.getD j 0).tmod 2
def eG (i:Nat):Pw:=(List.range 8).map fun j=>if j=i then 1 else 0
theorem eG_len (i:Nat):(eG i).length=8:=by simp [eG]
theorem eG_get {i j:Nat} (hi:i<8):(eG i).getD j 0=if j=i then 1 else 0:=by
 rcases Nat.lt_or_ge j 8 with h | h
 ·simp [eG,List.getD_eq_getElem?_getD,h]
 ·rw [getD_ge (by rw [eG_len];omega),if_neg (by omega)]
theorem eG_nn {i:Nat} (hi:i<8):Nn (eG i):=⟨eG_len i,fun j=>by rw [eG_get hi];split <;> omega⟩
def ow (ds p:Pw):Nat→Int
 | 0=>0
 | k+1=>ow ds p k+od ds k * p.getD k 0
section
variable {ds : Pw}
theorem od_cases (hd : ∀j,0≤ds.getD j 0∧ds.getD j 0≤12) (j:Nat):od ds j=0∨od ds j=1:=deg2 hd j
theorem oin_ow (p:Pw) (i:Nat) : ∀m,oin ds p i m=ow ds p (i+1+m) - ow ds p (i+1)
 | 0=>by simp [oin]
 | m+1=>by
  simp only [oin]
  rw [oin_ow p i m,show i+1+(m+1)=(i+1+m)+1 by omega]
  simp only [ow]
  show _+od ds (i+1+m) * _=_
  omega
theorem ow_eG {i:Nat} (hi:i<8) : ∀k,ow ds (eG i) k=if i<k then od ds i else 0
 | 0=>by simp [ow]
 | k+1=>by
  simp only [ow]
  rw [ow_eG hi k,eG_get hi]
  by_cases h:k=i
  ·subst h
   rw [if_neg (by omega),if_pos rfl,if_pos (by omega)]
   omega
  ·rw [if_neg h,Int.mul_zero]
   by_cases h2:i<k
   ·rw [if_pos h2,if_pos (by omega)]
    omega
   ·rw [if_neg h2,if_neg (by omega)]
    omega
def Od1 (ds p:Pw):Prop:=∀j,j<ds.length→od ds j=1→p.getD j 0≤1
theorem oddTo_r (hd : ∀j,0≤ds.getD j 0∧ds.getD j 0≤12) {t:Pw} {i:Nat} (hi:i<ds.length) (h8:ds.length≤8) : ∀k,k≤ds.length→oddTo ds t (eG i) k=if i<k then od ds i * (ow ds t ds.length - ow ds t (i+1)) else 0
 | 0,_=>by simp [oddTo]
 | k+1,hk=>by
  simp only [oddTo]
  rw [oddTo_r hd hi h8 k (by omega),eG_get (by omega),oin_ow,show k+1+(ds.length - (k+1))=ds.length by omega]
  by_cases h:k=i
  ·subst h
   rw [if_neg (show ¬k<k by omega),if_pos (show k<k+1 by omega),if_pos rfl]
   rcases od_cases hd k with h1 | h1
   ·rw [h1,if_neg fun hh=>hh.1 h1]
    omega
   ·rw [h1,if_pos ⟨by show od ds k≠0;omega,by decide⟩]
    omega
  ·have e : ¬((ds.getD k 0).tmod 2≠0∧0<if k=i then (1:Int) else 0):=fun hh=>by
    have h2:=hh.2
    rw [if_neg h] at h2
    omega
   rw [if_neg e]
   by_cases h2:i<k
   ·rw [if_pos h2,if_pos (by omega)]
    omega
   ·rw [if_neg h2,if_neg (by omega)]
    omega
theorem oddTo_l (hd : ∀j,0≤ds.getD j 0∧ds.getD j 0≤12) {t:Pw} (ht:Nn t) (h1:Od1 ds t) {i:Nat} (hi:i<ds.length) (h8:ds.length≤8) : ∀k,k≤ds.length→oddTo ds (eG i) t k=od ds i * ow ds t (min k i)
 | 0,_=>by simp [oddTo,ow]
 | k+1,hk=>by
  simp only [oddTo]
  rw [oddTo_l hd ht h1 hi h8 k (by omega),oin_ow,show k+1+(ds.length - (k+1))=ds.length by omega,ow_eG (by omega),ow_eG (by omega),if_pos hi]
  by_cases h:k<i
  ·rw [if_neg (show ¬i<k+1 by omega),Nat.min_eq_left (by omega),Nat.min_eq_left (by omega)]
   simp only [ow]
   have h2:=ht.2 k
   rcases od_cases hd k with h3 | h3
   ·rw [h3,if_neg fun hh=>hh.1 h3]
    simp
   ·have h4:=h1 k (by omega) h3
    rw [h3,Int.one_mul,Int.mul_add]
    by_cases h5:0<t.getD k 0
    ·rw [if_pos ⟨by show od ds k≠0;omega,h5⟩,show t.getD k 0=1 by omega]
     omega
    ·rw [if_neg fun hh=>h5 hh.2,show t.getD k 0=0 by omega]
     omega
  ·rw [if_pos (show i<k+1 by omega),Nat.min_eq_right (by omega),Nat.min_eq_right (by omega)]
   split <;> omega
theorem hits_symm (p q:Pw):hits ds p q=hits ds q p:=by
 unfold hits
 congr 1
 funext i
 unfold hitAt;rw [Bool.and_comm (decide (0<p.getD i 0))]
theorem emod_od (hd : ∀j,0≤ds.getD j 0∧ds.getD j 0≤12) (j:Nat):ds.getD j 0 % 2=od ds j:=by
 unfold od;rw [Int.tmod_eq_emod_of_nonneg (hd j).1]
theorem ow_par (hd : ∀j,0≤ds.getD j 0∧ds.getD j 0≤12) (p:Pw) : ∀k,wsum ds p k % 2=ow ds p k % 2
 | 0=>by simp [wsum,ow]
 | k+1=>by
  have ih:=ow_par hd p k
  have h1:(ds.getD k 0 * p.getD k 0) % 2=(od ds k * p.getD k 0) % 2:=by
   rw [Int.mul_emod,Int.mul_emod (od ds k),show od ds k % 2=ds.getD k 0 % 2 by rw [← emod_od hd k];omega]
  simp only [wsum,ow]
  omega
theorem par_mod {x y:Int} (h:x % 2=y % 2):par x=par y:=by unfold par;rw [h]
theorem sgn_comm (hd : ∀j,0≤ds.getD j 0∧ds.getD j 0≤12) {t:Pw} (ht:Nn t) (h1:Od1 ds t) {i:Nat} (hi:i<ds.length) (h8:ds.length≤8):sgn ds t (eG i)=par (wsum ds t ds.length * ds.getD i 0) * sgn ds (eG i) t:=by
 cases hh:hits ds t (eG i) with
 | true=>rw [sgn_z0 hh,sgn_z0 ((hits_symm _ _).trans hh),Int.mul_zero]
 | false=>
  have hg:hits ds (eG i) t=false:=(hits_symm _ _).trans hh;rw [sgn_par hd ht hh,sgn_par hd (eG_nn (by omega)) hg,oddTo_r hd hi h8 _ (Nat.le_refl _),if_pos hi,oddTo_l hd ht h1 hi h8 _ (Nat.le_refl _),Nat.min_eq_right (by omega),← par_add];refine par_mod ?_
  have hz:od ds i * (od ds i * t.getD i 0)=0:=by
   rcases od_cases hd i with h | h
   ·rw [h,Int.zero_mul]
   ·have h2:=hits_at hh hi (by show od ds i≠0;omega);rw [eG_get (by omega),if_pos rfl] at h2;have h3:=ht.2 i
    rw [show t.getD i 0=0 by
     rcases Int.lt_or_le 0 (t.getD i 0) with h4 | h4
     ·exact absurd ⟨h4,by decide⟩ h2
     ·omega]
    simp
  have e1:ow ds t (i+1)=ow ds t i+od ds i * t.getD i 0:=rfl
  have e2:(wsum ds t ds.length * ds.getD i 0) % 2=(ow ds t ds.length * od ds i) % 2:=by
   rw [Int.mul_emod,ow_par hd,Int.mul_emod (ow ds t ds.length),show od ds i % 2=ds.getD i 0 % 2 by rw [← emod_od hd i];omega]
  rw [e1,Int.mul_sub,Int.mul_add,hz];rw [Int.mul_comm (ow ds t ds.length)] at e2
  omega
theorem sgn_first (hd : ∀j,0≤ds.getD j 0∧ds.getD j 0≤12) {q:Pw} (hq:Nn q) {i:Nat} (hi:i<ds.length) (h8:ds.length≤8) (h0 : ∀j,j<i→q.getD j 0=0) (ho:od ds i=1→q.getD i 0=0):sgn ds (eG i) q=1:=by
 have hh:hits ds (eG i) q=false:=hits_of fun j hj hoj hx=>by
  have hx1:=hx.1;rw [eG_get (by omega)] at hx1
  by_cases e:j=i
  ·subst e;have h2:=ho ((od_cases hd j).resolve_left hoj);have:=hx.2
   omega
  ·rw [if_neg e] at hx1
   omega
 have hw : ∀k,k≤ds.length→oddTo ds (eG i) q k=0:=fun k=>by
  induction k with
  | zero=>intro _;rfl
  | succ k ih=>
   intro hk;simp only [oddTo];rw [ih (by omega)]
   by_cases h:k<i
   ·rw [if_neg fun hh=>by
     have h1:=h0 k h;have h2:=hh.2
     omega]
    rfl
   ·rw [oin_ow,ow_eG (by omega),ow_eG (by omega),show k+1+(ds.length - (k+1))=ds.length by omega,if_pos hi,if_pos (show i<k+1 by omega)]
    split <;> omega
 rw [sgn_par hd (eG_nn (by omega)) hh,hw _ (Nat.le_refl _)]
 rfl
end
section
variable {ds : Pw}
theorem wG_cong {G G':Pw→Int} : ∀{s:Sm},(∀x∈s,Mo (G x.1) (G' x.1))→Mo (wG G s) (wG G' s)
 | [],_=>Mo.refl _
 | x::s,h=>((h x (by simp)).mull x.2).add (wG_cong fun y hy=>h y (by simp [hy]))
theorem wG_addF (G G':Pw→Int) : ∀s:Sm,wG (fun p=>G p+G' p) s=wG G s+wG G' s
 | []=>rfl
 | x::s=>by
  simp only [wG]
  rw [wG_addF G G' s,Int.mul_add]
  omega
theorem wG_mulF (k:Int) (G:Pw→Int) : ∀s:Sm,wG (fun p=>k * G p) s=k * wG G s
 | []=>by simp [wG]
 | x::s=>by
  simp only [wG]
  rw [wG_mulF k G s,Int.mul_add,← Int.mul_assoc,← Int.mul_assoc,Int.mul_comm x.2 k]
theorem wG_zeroF : ∀s:Sm,wG (fun _=>0) s=0
 | []=>rfl
 | x::s=>by simp only [wG];rw [wG_zeroF s];omega
def lG (ds:Pw) (m:Pw) (G:Pw→Int) (q:Pw):Int:=sgn ds m q * G (addp m q)
def rG (ds:Pw) (q:Pw) (G:Pw→Int) (m:Pw):Int:=sgn ds m q * G (addp m q)
theorem wG_mul1 (G:Pw→Int) (x:Pw × Int) : ∀t:Sm,Mo (wG G (mul1 ds x t)) (x.2 * wG (lG ds x.1 G) t)
 | []=>by
  show Mo 0 (x.2 * 0)
  rw [Int.mul_zero]
  exact Mo.refl _
 | y::t=>by
  have ih:=wG_mul1 G x t
  have e:mul1 ds x (y::t)=(if sgn ds x.1 y.1=0 then [] else [(addp x.1 y.1,(sgn ds x.1 y.1 * x.2 * y.2).tmod 10007)])++mul1 ds x t:=rfl
  rw [e,wG_app]
  simp only [wG]
  rw [Int.mul_add]
  refine Mo.add ?_ ih
  split
  ·rename_i h
   show Mo 0 _
   unfold lG
   rw [h,Int.zero_mul,Int.mul_zero,Int.mul_zero]
   exact Mo.refl _
  ·show Mo (_ * G (addp x.1 y.1)+0) _
   rw [Int.add_zero]
   refine ((Mo.tmod _).mul _).trans ?_
   have e2:sgn ds x.1 y.1 * x.2 * y.2 * G (addp x.1 y.1)=x.2 * (y.2 * lG ds x.1 G y.1):=by
    unfold lG
    rw [Int.mul_comm (sgn ds x.1 y.1) x.2,Int.mul_assoc,Int.mul_assoc,Int.mul_left_comm (sgn ds x.1 y.1) y.2]
   rw [e2]
   exact Mo.refl _
theorem wG_mulL (G:Pw→Int) (t:Sm) : ∀s:Sm,Mo (wG G (mulL ds s t)) (wG (fun p=>wG (lG ds p G) t) s)
 | []=>Mo.refl _
 | x::s=>by
  have ih:=wG_mulL G t s
  have e:mulL ds (x::s) t=mul1 ds x t++mulL ds s t:=rfl
  rw [e,wG_app]
  exact (wG_mul1 G x t).add ih
theorem wG_times (G:Pw→Int) (s t:Sm):Mo (wG G (timesS ds s t)) (wG (fun p=>wG (lG ds p G) t) s):=by
 have h:=wG_acc G (mulL ds s t) [];have h0:wG G []=0:=rfl;rw [h0,Int.zero_add] at h;exact h.trans (wG_mulL G t s)
def tG (ds:Pw) (im:Sm) (p:Pw) (i:Nat) (G:Pw→Int):Int:=wG (fun r=>sgn ds (leftP p i) r * (sgn ds (addp (leftP p i) r) (behP p (i+1)) * G (addp (addp (leftP p i) r) (behP p (i+1))))) im
theorem wG_dT (G:Pw→Int) (im:Sm) (p:Pw) (i:Nat):Mo (wG G (dT ds im p i)) (tG ds im p i G):=by
 unfold dT;refine (wG_times G _ _).trans ((wG_times _ _ _).trans ?_);simp only [wG,Int.one_mul,Int.add_zero];refine wG_cong fun x _=>?_;unfold lG;exact Mo.refl _
def dG (ds:Pw) (fs:List (List Term)) (G:Pw→Int) (p:Pw):Nat→Int
 | 0=>0
 | k+1=>dG ds fs G p k+if 0<p.getD k 0 then dsg ds p k * (p.getD k 0 * tG ds (toS (fm fs k)) p k G) else 0
theorem wG_dLk (fs:List (List Term)) (G:Pw→Int) (x:Pw × Int) : ∀k,Mo (wG G (dLk ds fs x k)) (x.2 * dG ds fs G x.1 k)
 | 0=>by
  show Mo 0 (x.2 * 0)
  rw [Int.mul_zero]
  exact Mo.refl _
 | k+1=>by
  have ih:=wG_dLk fs G x k
  rw [dLk_succ,wG_app]
  simp only [dG]
  rw [Int.mul_add]
  refine ih.add ?_
  unfold dP
  split
  ·refine (wG_scl G _ _).trans ?_
   refine ((wG_dT G _ _ _).mull _).trans ?_
   refine ((Mo.fld _).mul _).trans ?_
   have e:dsg ds x.1 k * x.2 * x.1.getD k 0 * tG ds (toS (fm fs k)) x.1 k G=x.2 * (dsg ds x.1 k * (x.1.getD k 0 * tG ds (toS (fm fs k)) x.1 k G)):=by
    rw [Int.mul_comm (dsg ds x.1 k) x.2,Int.mul_assoc,Int.mul_assoc]
   rw [e]
   exact Mo.refl _
  ·rw [Int.mul_zero]
   exact Mo.refl _
theorem wG_dAll (fs:List (List Term)) (G:Pw→Int) : ∀s:Sm,Mo (wG G (dAll ds fs s)) (wG (fun p=>dG ds fs G p 8) s)
 | []=>Mo.refl _
 | x::s=>by
  have ih:=wG_dAll fs G s
  have e:dAll ds fs (x::s)=dLk ds fs x 8++dAll ds fs s:=rfl
  rw [e,wG_app]
  exact (wG_dLk fs G x 8).add ih
theorem wG_dS (fs:List (List Term)) (G:Pw→Int) (s:Sm):Mo (wG G (dS ds fs s)) (wG (fun p=>dG ds fs G p 8) s):=by
 have h:=wG_acc G (dAll ds fs s) [];have h0:wG G []=0:=rfl;rw [h0,Int.zero_add] at h;exact h.trans (wG_dAll fs G s)
theorem cf_wG {M:Int} (p:Pw) : ∀{u:Sm},Sok M u→cf u p=wG (ind p) u
 | [],_=>rfl
 | x::u,h=>by
  have ih:=cf_wG p h.tail
  have hn:=List.nodup_cons.1 (show (x.1::u.map (·.1)).Nodup from h.nodup)
  show (if x.1=p then x.2 else cf u p)=x.2 * ind p x.1+wG (ind p) u
  unfold ind at ih ⊢
  by_cases e:x.1=p
  ·rw [if_pos e,if_pos e,← ih,cf_none fun y hy h2=>hn.1 (List.mem_map.2 ⟨y,hy,h2.trans e.symm⟩)]
   omega
  ·rw [if_neg e,if_neg e,← ih]
   omega
end
section
variable {ds : Pw} {q : Pw} {i : Nat}
theorem ea_get (hq:q.length=8) (hi:i<8) (j:Nat):(addp (eG i) q).getD j 0=(if j=i then 1 else 0)+q.getD j 0:=by rw [addp_get (eG_len i) hq,eG_get hi]
theorem dsg_first (hd : ∀j,0≤ds.getD j 0∧ds.getD j 0≤12) (hq:q.length=8) (hi:i<ds.length) (h8:ds.length≤8) (ho:od ds i=1→q.getD i 0=0) : ∀k,dsg ds (addp (eG i) q) k=(if i<k then par (od ds i) else 1) * dsg ds q k
 | 0=>by simp [dsg]
 | k+1=>by
  have ih:=dsg_first hd hq hi h8 ho k
  simp only [dsg]
  rw [ih,ea_get hq (by omega)]
  by_cases e:k=i
  ·subst e
   rw [if_neg (show ¬k<k by omega),if_pos rfl,if_pos (show k<k+1 by omega),Int.one_mul]
   rcases od_cases hd k with h | h
   ·have h' : ¬(ds.getD k 0).tmod 2=1:=fun hh=>by
     have:od ds k=1:=hh
     omega
    rw [if_neg fun hh=>h' hh.2.1,if_neg fun hh=>h' hh.2.1,h]
    show _=1 * _
    omega
   ·rw [ho h,if_pos ⟨hi,h,by decide⟩,if_neg fun hh=>absurd hh.2.2 (by decide),h]
    show _ = -1 * _
    omega
  ·rw [if_neg e,Int.zero_add]
   have e2:(if i<k then par (od ds i) else 1)=if i<k+1 then par (od ds i) else 1:=by
    by_cases h:i<k
    ·rw [if_pos h,if_pos (by omega)]
    ·rw [if_neg h,if_neg (by omega)]
   rw [e2]
   split
   ·rw [Int.mul_sub,Int.mul_zero]
   ·rfl
theorem behP_first (hq:q.length=8) (hi:i<8) {k:Nat} (hk:i<k):behP (addp (eG i) q) k=behP q k:=list8 (by simp) (by simp) fun j hj=>by
 rw [behP_get hj,behP_get hj,ea_get hq hi]
 by_cases h:j<k
 ·rw [if_pos h,if_pos h]
 ·rw [if_neg h,if_neg h,if_neg (by omega)]
  omega
theorem leftP_at {x:Pw} {k j:Nat} (hj:j<8):(leftP x k).getD j 0=if k=j then x.getD k 0 - 1 else if j<k then x.getD j 0 else 0:=by
 unfold leftP;rw [getD_set8]
 by_cases e:k=j
 ·subst e
  have hl:k<(aheadP x k).length:=by simpa using hj
  rw [if_pos ⟨rfl,hl⟩,if_pos rfl]
 ·rw [if_neg fun h=>e h.1,if_neg e,aheadP_get hj]
theorem leftP_first (hq:q.length=8) (hi:i<8) {k:Nat} (hk:i≤k):leftP (addp (eG i) q) k=addp (eG i) (leftP q k):=by
 refine list8 (by simp [leftP]) (by simp) fun j hj=>?_
 have hl:(leftP q k).length=8:=by simp [leftP]
 rw [addp_get (eG_len i) hl,eG_get hi,leftP_at hj,leftP_at hj,ea_get hq hi,ea_get hq hi]
 by_cases e:k=j
 ·subst e;rw [if_pos rfl,if_pos rfl]
  omega
 ·rw [if_neg e,if_neg e]
  by_cases h:j<k
  ·rw [if_pos h,if_pos h]
  ·rw [if_neg h,if_neg h,if_neg (show ¬j=i by omega)]
   rfl
end
theorem addp_assoc {p q r:Pw} (hp:p.length=8) (hq:q.length=8) (hr:r.length=8):addp (addp p q) r=addp p (addp q r):=list8 (by simp) (by simp) fun j _=>by
 rw [addp_get (by simp) hr,addp_get hp hq,addp_get hp (by simp),addp_get hq hr]
 omega
section
variable {ds : Pw} {q : Pw} {i : Nat}
theorem leftP_nn {x:Pw} {k:Nat} (hx:Nn x) (h:0<x.getD k 0) (hk:k<8):Nn (leftP x k):=⟨by simp [leftP],fun j=>by
 rcases Nat.lt_or_ge j 8 with hj | hj
 ·rw [leftP_at hj]
  have:=hx.2 j
  split
  ·omega
  ·split <;> omega
 ·rw [getD_ge (by simp [leftP];omega)]
  omega⟩
theorem behP_nn {x:Pw} {k:Nat} (hx:Nn x):Nn (behP x k):=⟨by simp,fun j=>by
 rcases Nat.lt_or_ge j 8 with hj | hj
 ·rw [behP_get hj]
  have:=hx.2 j
  split <;> omega
 ·rw [getD_ge (by simp;omega)]
  omega⟩
theorem tG_first (hd : ∀j,0≤ds.getD j 0∧ds.getD j 0≤12) (hq:Nn q) (hi:i<ds.length) (h8:ds.length≤8) (h0 : ∀j,j<i→q.getD j 0=0) (ho:od ds i=1→q.getD i 0=0) {im:Sm} (him : ∀x∈im,Nn x.1) (G:Pw→Int) {k:Nat} (hk:i<k) (hk8:k<8) (hqk:0<q.getD k 0):tG ds im (addp (eG i) q) k G=tG ds im q k (lG ds (eG i) G):=by
 unfold tG;rw [leftP_first hq.1 (by omega) (by omega),behP_first hq.1 (by omega) (by omega)];have hl:=leftP_nn hq hqk hk8;have hb:Nn (behP q (k+1)):=behP_nn hq;have he:Nn (eG i):=eG_nn (by omega);have hf:sgn ds (eG i) (leftP q k)=1:=sgn_first hd hl hi h8 (fun j hj=>by rw [leftP_at (by omega),if_neg (by omega),if_pos (by omega),h0 j hj]) (fun h=>by rw [leftP_at (by omega),if_neg (by omega),if_pos (by omega),ho h])
 have key : ∀s:Sm,(∀x∈s,Nn x.1)→wG (fun r=>sgn ds (addp (eG i) (leftP q k)) r * (sgn ds (addp (addp (eG i) (leftP q k)) r) (behP q (k+1)) * G (addp (addp (addp (eG i) (leftP q k)) r) (behP q (k+1))))) s=wG (fun r=>sgn ds (leftP q k) r * (sgn ds (addp (leftP q k) r) (behP q (k+1)) * lG ds (eG i) G (addp (addp (leftP q k) r) (behP q (k+1))))) s:=fun s=>by
  induction s with
  | nil=>intro _;rfl
  | cons x s ih=>
   intro hs;have hx:=hs x (by simp);simp only [wG];rw [ih fun y hy=>hs y (by simp [hy])]
   congr 2
   have a1:=sgn_assoc hd he hl hx;rw [hf,Int.one_mul] at a1;have a2:=sgn_assoc hd he (hl.add hx) hb;unfold lG;rw [a1,addp_assoc he.1 hl.1 hx.1,Int.mul_assoc,addp_assoc he.1 (hl.add hx).1 hb.1,← Int.mul_assoc (sgn ds (eG i) (addp (leftP q k) x.1)),a2,Int.mul_assoc]
 exact key im him
end
section
variable {ds : Pw} {q : Pw} {i : Nat}
def Ev (ds m:Pw):Prop:=∀j,j<ds.length→od ds j=1→m.getD j 0=0
theorem Ev.ow (hd : ∀j,0≤ds.getD j 0∧ds.getD j 0≤12) {m:Pw} (h:Ev ds m) : ∀k,k≤ds.length→G.ow ds m k=0
 | 0,_=>rfl
 | k+1,hk=>by
  simp only [G.ow]
  rw [Ev.ow hd h k (by omega)]
  rcases od_cases hd k with e | e
  ·rw [e];omega
  ·rw [h k (by omega) e];omega
theorem Ev.hitl (hd : ∀j,0≤ds.getD j 0∧ds.getD j 0≤12) {m r:Pw} (h:Ev ds m):hits ds m r=false:=hits_of fun j hj hoj hx=>by
 have:=h j hj ((od_cases hd j).resolve_left hoj)
 have:=hx.1
 omega
theorem Ev.oddl (hd : ∀j,0≤ds.getD j 0∧ds.getD j 0≤12) {m:Pw} (h:Ev ds m) (r:Pw) : ∀k,k≤ds.length→oddTo ds m r k=0
 | 0,_=>rfl
 | k+1,hk=>by
  simp only [oddTo]
  rw [Ev.oddl hd h r k (by omega),oin_ow,show k+1+(ds.length - (k+1))=ds.length by omega,h.ow hd _ (Nat.le_refl _),h.ow hd _ hk]
  split <;> rfl
theorem Ev.oddr (hd : ∀j,0≤ds.getD j 0∧ds.getD j 0≤12) {m:Pw} (h:Ev ds m) (r:Pw) : ∀k,k≤ds.length→oddTo ds r m k=0
 | 0,_=>rfl
 | k+1,hk=>by
  simp only [oddTo]
  rw [Ev.oddr hd h r k (by omega),if_neg fun hh=>by
   have:=h k (by omega) ((od_cases hd k).resolve_left hh.1)
   have:=hh.2
   omega]
  rfl
theorem Ev.sgnl (hd : ∀j,0≤ds.getD j 0∧ds.getD j 0≤12) {m:Pw} (h:Ev ds m) (hm:Nn m) (r:Pw):sgn ds m r=1:=by
 rw [sgn_par hd hm (h.hitl hd),h.oddl hd r _ (Nat.le_refl _)]
 rfl
theorem Ev.sgnr (hd : ∀j,0≤ds.getD j 0∧ds.getD j 0≤12) {m r:Pw} (h:Ev ds m) (hr:Nn r):sgn ds r m=1:=by
 rw [sgn_par hd hr ((hits_symm _ _).trans (h.hitl hd)),h.oddr hd r _ (Nat.le_refl _)]
 rfl
theorem Ev.left (hd : ∀j,0≤ds.getD j 0∧ds.getD j 0≤12) {m r b:Pw} (h:Ev ds m) (hm:Nn m) (hr:Nn r) (hb:Nn b):sgn ds (addp m r) b=sgn ds r b:=by
 have a:=sgn_assoc hd hm hr hb
 rwa [h.sgnl hd hm,h.sgnl hd hm,Int.one_mul,Int.mul_one] at a
theorem Ev.right (hd : ∀j,0≤ds.getD j 0∧ds.getD j 0≤12) {m r b:Pw} (h:Ev ds m) (hm:Nn m) (hr:Nn r) (hb:Nn b):sgn ds r (addp m b)=sgn ds r b:=by
 have a:=sgn_assoc hd hr hm hb;rw [h.sgnr hd hr,h.sgnl hd hm,Int.one_mul,Int.one_mul] at a
 have e:addp r m=addp m r:=list8 (by simp) (by simp) fun j _=>by rw [addp_get hr.1 hm.1,addp_get hm.1 hr.1];omega
 rw [e,h.left hd hm hr hb] at a;exact a.symm
end
theorem addp_comm {p q:Pw} (hp:p.length=8) (hq:q.length=8):addp p q=addp q p:=list8 (by simp) (by simp) fun j _=>by
 rw [addp_get hp hq,addp_get hq hp]
 omega
theorem addp_left {p q r:Pw} (hp:p.length=8) (hq:q.length=8) (hr:r.length=8):addp p (addp q r)=addp q (addp p r):=by
 rw [← addp_assoc hp hq hr,addp_comm hp hq,addp_assoc hq hp hr]
section
variable {ds : Pw} {fs : List (List Term)} {q : Pw} {i : Nat}
theorem dsg_zero : ∀k,(∀j,j<k→q.getD j 0=0)→dsg ds q k=1
 | 0,_=>rfl
 | k+1,h0=>by
  simp only [dsg]
  rw [dsg_zero k fun j hj=>h0 j (by omega),if_neg fun h=>by
   have h2:=h.2.2
   rw [h0 k (by omega)] at h2
   exact absurd h2 (by decide)]
theorem tG_ev (hd : ∀j,0≤ds.getD j 0∧ds.getD j 0≤12) {im:Sm} (him : ∀x∈im,Nn x.1) {p:Pw} (hm:Ev ds (leftP p i)) (nm:Nn (leftP p i)) (nb:Nn (behP p (i+1))) (G:Pw→Int):tG ds im p i G=wG (fun r=>sgn ds r (addp (leftP p i) (behP p (i+1))) * G (addp r (addp (leftP p i) (behP p (i+1))))) im:=by
 unfold tG;generalize leftP p i=m at hm nm;generalize behP p (i+1)=b at nb
 have key : ∀s:Sm,(∀x∈s,Nn x.1)→wG (fun r=>sgn ds m r * (sgn ds (addp m r) b * G (addp (addp m r) b))) s=wG (fun r=>sgn ds r (addp m b) * G (addp r (addp m b))) s:=fun s=>by
  induction s with
  | nil=>intro _;rfl
  | cons x s ih=>
   intro hs;have hx:=hs x (by simp);simp only [wG];rw [ih fun y hy=>hs y (by simp [hy]),hm.sgnl hd nm,hm.left hd nm hx nb,hm.right hd nm hx nb,Int.one_mul,addp_comm nm.1 hx.1,addp_assoc hx.1 nm.1 nb.1]
 exact key im him
theorem dG_first (hd : ∀j,0≤ds.getD j 0∧ds.getD j 0≤12) (hq:Nn q) (hi:i<ds.length) (h8:ds.length≤8) (h0 : ∀j,j<i→q.getD j 0=0) (ho:od ds i=1→q.getD i 0=0) (him : ∀k,∀x∈toS (fm fs k),Nn x.1) (G:Pw→Int) : ∀k,k≤8→dG ds fs G (addp (eG i) q) k=(if i<k then wG (fun r=>sgn ds r q * G (addp r q)) (toS (fm fs i)) else 0)+par (od ds i) * dG ds fs (lG ds (eG i) G) q k
 | 0,_=>by simp [dG]
 | k+1,hk=>by
  have ih:=dG_first hd hq hi h8 h0 ho him G k (by omega)
  have he:Nn (eG i):=eG_nn (by omega)
  simp only [dG]
  rw [ih,ea_get hq.1 (by omega)]
  rcases Nat.lt_trichotomy k i with h | h | h
  ·rw [if_neg (show ¬i<k by omega),if_neg (show ¬i<k+1 by omega),if_neg (show ¬k=i by omega),h0 k h,if_neg (by omega),if_neg (by omega)]
   simp
  ·subst h
   have hp:=he.add hq
   have hpk:(addp (eG k) q).getD k 0=1+q.getD k 0:=by rw [ea_get hq.1 (by omega),if_pos rfl]
   have hqk:=hq.2 k
   have evl:Ev ds (leftP (addp (eG k) q) k):=fun j hj hjo=>by
    rw [leftP_at (by omega)]
    by_cases e:k=j
    ·subst e
     rw [if_pos rfl,hpk,ho hjo]
     rfl
    ·rw [if_neg e]
     by_cases h2:j<k
     ·rw [if_pos h2,ea_get hq.1 (by omega),if_neg (by omega),h0 j h2]
      rfl
     ·rw [if_neg h2]
   have e:addp (leftP (addp (eG k) q) k) (behP (addp (eG k) q) (k+1))=q:=list8 (by simp) hq.1 fun j hj=>by
    rw [addp_get (by simp) (by simp),leftP_at hj,behP_get hj,ea_get hq.1 (by omega),ea_get hq.1 (by omega),if_pos rfl]
    rcases Nat.lt_trichotomy j k with h2 | h2 | h2
    ·rw [if_neg (by omega),if_pos h2,if_neg (by omega),if_pos (by omega),h0 j h2]
     rfl
    ·subst h2
     rw [if_pos rfl,if_pos (by omega)]
     omega
    ·rw [if_neg (by omega),if_neg (by omega),if_neg (by omega),if_neg (by omega)]
     omega
   have hT:tG ds (toS (fm fs k)) (addp (eG k) q) k G=wG (fun r=>sgn ds r q * G (addp r q)) (toS (fm fs k)):=by
    rw [tG_ev hd (him k) evl (leftP_nn hp (by omega) (by omega)) (behP_nn hp),e]
   have hs:dsg ds (addp (eG k) q) k=1:=dsg_zero k fun j hj=>by
    rw [ea_get hq.1 (by omega),if_neg (by omega),h0 j hj]
    rfl
   rw [if_neg (show ¬k<k by omega),if_pos (show k<k+1 by omega),if_pos rfl,if_pos (by omega),hT,hs]
   by_cases h3:0<q.getD k 0
   ·have h2:od ds k=0:=(od_cases hd k).resolve_right fun h2=>by
     have:=ho h2
     omega
    have eve:Ev ds (eG k):=fun j hj hjo=>by
     rw [eG_get (by omega),if_neg fun e2=>by
      rw [e2] at hjo
      omega]
    have evl2:Ev ds (leftP q k):=fun j hj hjo=>by
     rw [leftP_at (by omega),if_neg fun e2=>by
      rw [← e2] at hjo
      omega]
     by_cases h5:j<k
     ·rw [if_pos h5,h0 j h5]
     ·rw [if_neg h5]
    have e3:addp (eG k) (addp (leftP q k) (behP q (k+1)))=q:=list8 (by simp) hq.1 fun j hj=>by
     rw [ea_get (by simp) (by omega),addp_get (by simp) (by simp),leftP_at hj,behP_get hj]
     rcases Nat.lt_trichotomy j k with h2 | h2 | h2
     ·rw [if_neg (by omega),if_neg (by omega),if_pos h2,if_pos (by omega),h0 j h2]
      rfl
     ·subst h2
      rw [if_pos rfl,if_pos rfl,if_pos (by omega)]
      omega
     ·rw [if_neg (by omega),if_neg (by omega),if_neg (by omega),if_neg (by omega)]
      omega
    have nl:Nn (leftP q k):=leftP_nn hq h3 (by omega)
    have nb:Nn (behP q (k+1)):=behP_nn hq
    have hT':tG ds (toS (fm fs k)) q k (lG ds (eG k) G)=wG (fun r=>sgn ds r q * G (addp r q)) (toS (fm fs k)):=by
     rw [tG_ev hd (him k) evl2 nl nb]
     have nlb:=nl.add nb
     generalize addp (leftP q k) (behP q (k+1))=c at e3 nlb
     have key : ∀s:Sm,(∀x∈s,Nn x.1)→wG (fun r=>sgn ds r c * lG ds (eG k) G (addp r c)) s=wG (fun r=>sgn ds r q * G (addp r q)) s:=fun s=>by
      induction s with
      | nil=>intro _;rfl
      | cons x s ih=>
       intro hs
       have hx:=hs x (by simp)
       simp only [wG]
       rw [ih fun y hy=>hs y (by simp [hy])]
       congr 2
       unfold lG
       rw [eve.sgnl hd he,Int.one_mul,addp_left he.1 hx.1 nlb.1,← e3,eve.right hd he hx nlb]
     exact key _ (him k)
    rw [if_pos h3,hT',dsg_zero k h0,h2,show par 0=1 from rfl]
    simp only [Int.one_mul,Int.add_mul]
    omega
   ·rw [if_neg h3,show q.getD k 0=0 by omega]
    simp only [Int.one_mul,Int.add_zero]
    omega
  ·rw [if_pos h,if_pos (show i<k+1 by omega),if_neg (show ¬k=i by omega),Int.zero_add]
   by_cases h3:0<q.getD k 0
   ·rw [if_pos h3,if_pos h3,tG_first hd hq hi h8 h0 ho (him k) G h (by omega) h3,dsg_first hd hq.1 hi h8 ho,if_pos h,Int.mul_add,Int.mul_assoc,Int.add_assoc]
   ·rw [if_neg h3,if_neg h3,Int.add_zero,Int.add_zero]
end
section
variable {ds : Pw} {fs : List (List Term)} {p : Pw}
theorem wG_eq {G G':Pw→Int} : ∀{s:Sm},(∀x∈s,G x.1=G' x.1)→wG G s=wG G' s
 | [],_=>rfl
 | x::s,h=>by
  simp only [wG]
  rw [h x (by simp),wG_eq fun y hy=>h y (by simp [hy])]
theorem tG_add (im:Sm) (p:Pw) (i:Nat) (G G':Pw→Int):tG ds im p i (fun x=>G x+G' x)=tG ds im p i G+tG ds im p i G':=by
 unfold tG;rw [← wG_addF]
 exact wG_eq fun x _=>by simp only [Int.mul_add]
theorem tG_mul (im:Sm) (p:Pw) (i:Nat) (c:Int) (G:Pw→Int):tG ds im p i (fun x=>c * G x)=c * tG ds im p i G:=by
 unfold tG;rw [← wG_mulF]
 have e : ∀a b g:Int,a * (b * (c * g))=c * (a * (b * g)):=fun a b g=>by rw [Int.mul_left_comm b c,Int.mul_left_comm a c]
 exact wG_eq fun x _=>e _ _ _
theorem dG_add (G G':Pw→Int) (p:Pw) : ∀k,dG ds fs (fun x=>G x+G' x) p k=dG ds fs G p k+dG ds fs G' p k
 | 0=>rfl
 | k+1=>by
  simp only [dG]
  rw [dG_add G G' p k]
  split
  ·rw [tG_add,Int.mul_add,Int.mul_add]
   omega
  ·omega
theorem dG_mul (c:Int) (G:Pw→Int) (p:Pw) : ∀k,dG ds fs (fun x=>c * G x) p k=c * dG ds fs G p k
 | 0=>by simp [dG]
 | k+1=>by
  simp only [dG]
  rw [dG_mul c G p k,Int.mul_add]
  split
  ·rw [tG_mul,Int.mul_left_comm (p.getD k 0) c,Int.mul_left_comm (dsg ds p k) c]
  ·rw [Int.mul_zero]
theorem dG_zero (p:Pw) (k:Nat):dG ds fs (fun _=>0) p k=0:=by
 have h:=dG_mul (ds:=ds) (fs:=fs) 0 (fun _=>0) p k
 simpa using h
theorem dG_zP (G:Pw→Int) : ∀k,dG ds fs G zP k=0
 | 0=>rfl
 | k+1=>by
  simp only [dG]
  rw [dG_zP G k,if_neg (by rw [zP_get];omega)]
  rfl
theorem dG_wG (F:Pw→Pw→Int) (p:Pw) (k:Nat) : ∀im:Sm,dG ds fs (fun x=>wG (fun t=>F t x) im) p k=wG (fun t=>dG ds fs (F t) p k) im
 | []=>dG_zero p k
 | y::im=>by
  show dG ds fs (fun x=>y.2 * F y.1 x+wG (fun t=>F t x) im) p k=y.2 * dG ds fs (F y.1) p k+wG (fun t=>dG ds fs (F t) p k) im
  rw [dG_add (fun x=>y.2 * F y.1 x),dG_mul,dG_wG F p k im]
theorem ex_le {p q:Pw} (h:Ex ds p) (hq:Nn q) (hle : ∀j,q.getD j 0≤p.getD j 0):Ex ds q:=⟨fun j hj=>by
 have:=h.out j hj
 have:=hle j
 have:=hq.2 j
 omega,fun j hj ho=>by
 have:=h.odd j hj ho
 have:=hle j
 omega⟩
theorem ex_sum {p q:Pw} (hp:Nn p) (hq:Nn q) (h1:Ex ds p) (h2:Ex ds q) (hs:sgn ds p q≠0):Ex ds (addp p q):=⟨fun j hj=>by
 rw [addp_get hp.1 hq.1,h1.out j hj,h2.out j hj]
 rfl,fun j hj ho=>by
 rw [addp_get hp.1 hq.1]
 have hh:hits ds p q=false:=by
  cases h:hits ds p q with
  | false=>rfl
  | true=>exact absurd (sgn_z0 h) hs
 have h3:=hits_at hh hj ho
 have:=h1.odd j hj ho
 have:=h2.odd j hj ho
 have:=hp.2 j
 have:=hq.2 j
 omega⟩
theorem leftP_xn {k:Nat} (hp:Nn p) (hx:Ex ds p) (h:0<p.getD k 0) (hk:k<8):Ex ds (leftP p k):=ex_le hx (leftP_nn hp h hk) fun j=>by
 have:=hp.2 j
 rcases Nat.lt_or_ge j 8 with hj | hj
 ·rw [leftP_at hj]
  split
  ·rename_i e
   rw [e]
   omega
  ·split <;> omega
 ·rw [getD_ge (by simp;omega)]
  exact hp.2 j
theorem behP_xn {k:Nat} (hp:Nn p) (hx:Ex ds p):Ex ds (behP p k):=ex_le hx (behP_nn hp) fun j=>by
 have:=hp.2 j
 rcases Nat.lt_or_ge j 8 with hj | hj
 ·rw [behP_get hj]
  split <;> omega
 ·rw [getD_ge (by simp;omega)]
  exact hp.2 j
def Img (ds:Pw) (fs:List (List Term)):Prop:=∀k,∀x∈toS (fm fs k),Nn x.1∧Ex ds x.1∧wsum ds x.1 ds.length=ds.getD k 0+1
theorem dG_cong (hI:Img ds fs) (hp:Nn p) (hx:Ex ds p) {G G':Pw→Int} (h : ∀x,Nn x→Ex ds x→G x=G' x) : ∀k,k≤8→dG ds fs G p k=dG ds fs G' p k
 | 0,_=>rfl
 | k+1,hk=>by
  simp only [dG]
  rw [dG_cong hI hp hx h k (by omega)]
  split
  ·rename_i h0
   have e:tG ds (toS (fm fs k)) p k G=tG ds (toS (fm fs k)) p k G':=by
    unfold tG
    refine wG_eq fun x hxm=>?_
    obtain ⟨a1,a2,_⟩:=hI k x hxm
    have l1:=leftP_nn hp h0 (show k<8 by omega)
    have b1:Nn (behP p (k+1)):=behP_nn hp
    by_cases s1:sgn ds (leftP p k) x.1=0
    ·rw [s1,Int.zero_mul,Int.zero_mul]
    ·have e1:=ex_sum l1 a1 (leftP_xn hp hx h0 (by omega)) a2 s1
     by_cases s2:sgn ds (addp (leftP p k) x.1) (behP p (k+1))=0
     ·rw [s2,Int.zero_mul,Int.zero_mul]
     ·rw [h _ ((l1.add a1).add b1) (ex_sum (l1.add a1) b1 e1 (behP_xn hp hx) s2)]
   rw [e]
  ·rfl
theorem zP_nn:Nn zP:=⟨by simp [zP],fun j=>by rw [zP_get];omega⟩
theorem wrd_addp {p q:Pw} (hp:p.length=8) (hq:q.length=8) : ∀n,wrd (addp p q) n=wrd p n+wrd q n
 | 0=>rfl
 | n+1=>by
  simp only [wrd]
  rw [wrd_addp hp hq n,addp_get hp hq]
  omega
theorem wrd_eG {i:Nat} (hi:i<8) : ∀n,wrd (eG i) n=if i<n then 1 else 0
 | 0=>by simp [wrd]
 | n+1=>by
  simp only [wrd]
  rw [wrd_eG hi n,eG_get hi]
  rcases Nat.lt_trichotomy n i with h | h | h
  ·rw [if_neg (by omega),if_neg (by omega),if_neg (by omega)]
   rfl
  ·subst h
   rw [if_neg (by omega),if_pos rfl,if_pos (by omega)]
   rfl
  ·rw [if_pos h,if_neg (by omega),if_pos (by omega)]
   rfl
theorem wsum_eG {i:Nat} (hi:i<8) : ∀n,wsum ds (eG i) n=if i<n then ds.getD i 0 else 0
 | 0=>by simp [wsum]
 | n+1=>by
  simp only [wsum]
  rw [wsum_eG hi n,eG_get hi]
  rcases Nat.lt_trichotomy n i with h | h | h
  ·rw [if_neg (by omega),if_neg (by omega),if_neg (by omega),Int.mul_zero]
   rfl
  ·subst h
   rw [if_neg (by omega),if_pos rfl,if_pos (by omega),Int.mul_one]
   omega
  ·rw [if_pos h,if_neg (by omega),if_pos (by omega),Int.mul_zero,Int.add_zero]
theorem mono_ind0 (h8:ds.length≤8) {P:Pw→Prop} (z:P zP) (s : ∀j q,j<ds.length→Nn q→Ex ds q→(∀k,k<j→q.getD k 0=0)→(od ds j=1→q.getD j 0=0)→P q→P (addp (eG j) q)) : ∀n:Nat,∀p,Nn p→Ex ds p→wrd p 8≤n→P p:=fun n=>by
 induction n with
 | zero=>
  intro p hp hx hw
  have e:p=zP:=list8 hp.1 (by simp [zP]) fun j hj=>by
   have:=get_wrd hp.2 8 j hj
   have:=hp.2 j
   rw [zP_get]
   omega
  rw [e]
  exact z
 | succ n ih=>
  intro p hp hx hw
  rcases first_of (fun j=>decide (0<p.getD j 0)) 8 with h | ⟨j,h1,h2,h3⟩
  ·have e:p=zP:=list8 hp.1 (by simp [zP]) fun j hj=>by
    have:=h j hj
    have:=hp.2 j
    rw [zP_get]
    simp only [decide_eq_false_iff_not] at *
    omega
   rw [e]
   exact z
  ·have hj:0<p.getD j 0:=by simpa using h2
   have hlt:j<ds.length:=by
    rcases Nat.lt_or_ge j ds.length with h | h
    ·exact h
    ·have:=hx.out j h
     omega
   have z0 : ∀k,k<j→p.getD k 0=0:=fun k hk=>by
    have:=h3 k hk
    have:=hp.2 k
    simp only [decide_eq_false_iff_not] at *
    omega
   have hg : ∀k,(p.set j (p.getD j 0 - 1)).getD k 0=if k=j then p.getD j 0 - 1 else p.getD k 0:=fun k=>by
    rw [getD_set8]
    by_cases e:k=j
    ·rw [if_pos e,if_pos ⟨e.symm,by rw [hp.1];exact h1⟩]
    ·rw [if_neg e,if_neg fun h=>e h.1.symm]
   have nq:Nn (p.set j (p.getD j 0 - 1)):=⟨by simp [hp.1],fun k=>by
    rw [hg]
    have:=hp.2 k
    split <;> omega⟩
   have xq:Ex ds (p.set j (p.getD j 0 - 1)):=ex_le hx nq fun k=>by
    rw [hg]
    split
    ·rename_i e
     rw [e]
     omega
    ·omega
   have e:p=addp (eG j) (p.set j (p.getD j 0 - 1)):=list8 hp.1 (by simp) fun k hk=>by
    rw [ea_get nq.1 h1,hg]
    by_cases e:k=j
    ·rw [if_pos e,if_pos e,e]
     omega
    ·rw [if_neg e,if_neg e]
     omega
   have hw2:wrd p 8=1+wrd (p.set j (p.getD j 0 - 1)) 8:=by
    conv=>lhs;rw [e]
    rw [wrd_addp (eG_len j) nq.1,wrd_eG h1,if_pos h1]
   rw [e]
   refine s j _ hlt nq xq (fun k hk=>by rw [hg,if_neg (by omega),z0 k hk]) (fun ho=>?_) (ih _ nq xq (by omega))
   have:=hx.odd j hlt (by show od ds j≠0;omega)
   rw [hg,if_pos rfl]
   omega
theorem mono_ind (h8:ds.length≤8) {P:Pw→Prop} (z:P zP) (s : ∀j q,j<ds.length→Nn q→Ex ds q→(∀k,k<j→q.getD k 0=0)→(od ds j=1→q.getD j 0=0)→P q→P (addp (eG j) q)) {p:Pw} (hp:Nn p) (hx:Ex ds p):P p:=
 mono_ind0 h8 z s (wrd p 8).toNat p hp hx (by have:=wrd_nn hp.2 8;omega)
end
section
variable {ds : Pw} {fs : List (List Term)}
theorem Od1.of {p:Pw} (h:Ex ds p):Od1 ds p:=fun j hj ho=>h.odd j hj (by show od ds j≠0;omega)
theorem swap_one (hd : ∀j,0≤ds.getD j 0∧ds.getD j 0≤12) (h8:ds.length≤8) {t:Pw} (ht:Nn t) (hx:Ex ds t) {i:Nat} (hi:i<ds.length) {q:Pw} (hq:Nn q):sgn ds (eG i) q * sgn ds t (addp (eG i) q)=par (wsum ds t ds.length * ds.getD i 0) * (sgn ds t q * sgn ds (eG i) (addp t q)):=by
 have ei:Nn (eG i):=eG_nn (by omega);rw [← sgn_assoc hd ht ei hq,sgn_comm hd ht (Od1.of hx) hi h8,addp_comm ht.1 ei.1,Int.mul_assoc,sgn_assoc hd ei ht hq]
theorem dG_one (hd : ∀j,0≤ds.getD j 0∧ds.getD j 0≤12) (h8:ds.length≤8) (hI:Img ds fs) {q:Pw} (hq:Nn q) {i:Nat} (hi:i<ds.length) (h0 : ∀j,j<i→q.getD j 0=0) (ho:od ds i=1→q.getD i 0=0) (G:Pw→Int):dG ds fs G (addp (eG i) q) 8=wG (fun t=>sgn ds t q * G (addp t q)) (toS (fm fs i))+par (ds.getD i 0) * dG ds fs (lG ds (eG i) G) q 8:=by
 rw [dG_first hd hq hi h8 h0 ho (fun k x hx=>(hI k x hx).1) G 8 (Nat.le_refl _),if_pos (by omega),par_mod (show od ds i % 2=ds.getD i 0 % 2 by rw [← emod_od hd i];omega)]
theorem hits_ee {i:Nat} (hi:i<ds.length) (h8:ds.length≤8) (ho:od ds i=1) {x:Pw} (hx:Nn x):hits ds (eG i) (addp (eG i) x)=true:=by
 cases hh:hits ds (eG i) (addp (eG i) x) with
 | true=>rfl
 | false=>
  have h:=hits_at hh hi (by show od ds i≠0;omega);rw [eG_get (by omega),ea_get hx.1 (by omega),if_pos rfl] at h;have:=hx.2 i;exact absurd ⟨by omega,by omega⟩ h
theorem par_cases (x:Int):par x=1∨par x = -1:=by unfold par;split <;> simp
theorem alg_gen {t a b S A B U V W:Int} (ht:t=1∨t = -1) (ha:a=1∨a = -1) (hb:b=1∨b = -1) (ih:S * B=U+a * V) (F2:S * A=t * a * W):t * S * (A+b * B)=t * b * U+a * (W+b * (t * V)):=by
 have e:t * S * (A+b * B)=t * (S * A)+t * (b * (S * B)):=by rw [Int.mul_add,Int.mul_assoc,Int.mul_assoc,Int.mul_left_comm S b]
 rw [e,ih,F2]
 rcases ht with rfl | rfl <;> rcases ha with rfl | rfl <;> rcases hb with rfl | rfl <;> omega
theorem alg_z {a b X Y:Int} (ha:a=1∨a = -1) (hb:b=1∨b = -1) (h:0=X+b * Y):0=0+a * X+a * b * Y:=by
 rcases ha with rfl | rfl <;> rcases hb with rfl | rfl <;> omega
theorem alg_l {a b S W E X Y:Int} (ha:a=1∨a = -1) (hb:b=1∨b = -1) (h:S * E=X+b * Y):S * (W+a * E)=S * W+a * X+a * b * Y:=by
 rw [Int.mul_add,Int.mul_left_comm S a,h]
 rcases ha with rfl | rfl <;> rcases hb with rfl | rfl <;> omega
theorem dG_gen (hd : ∀j,0≤ds.getD j 0∧ds.getD j 0≤12) (h8:ds.length≤8) (hI:Img ds fs) {q:Pw} (hq:Nn q) (hx:Ex ds q) : ∀i,i<ds.length→∀G:Pw→Int,sgn ds (eG i) q * dG ds fs G (addp (eG i) q) 8=wG (fun t=>sgn ds t q * G (addp t q)) (toS (fm fs i))+par (ds.getD i 0) * dG ds fs (lG ds (eG i) G) q 8:=by
 refine mono_ind h8 (P:=fun q=>∀i,i<ds.length→∀G:Pw→Int,sgn ds (eG i) q * dG ds fs G (addp (eG i) q) 8=wG (fun t=>sgn ds t q * G (addp t q)) (toS (fm fs i))+par (ds.getD i 0) * dG ds fs (lG ds (eG i) G) q 8) ?_ ?_ hq hx
 ·intro i hi G;rw [sgn_first hd zP_nn hi h8 (fun j _=>zP_get j) (fun _=>zP_get i),Int.one_mul];exact dG_one hd h8 hI zP_nn hi (fun j _=>zP_get j) (fun _=>zP_get i) G
 ·intro j q hj hq hx h0 ho ih i hi G;have ei:Nn (eG i):=eG_nn (by omega);have ej:Nn (eG j):=eG_nn (by omega);have f0:sgn ds (eG j) q=1:=sgn_first hd hq hj h8 h0 ho
  rcases Nat.lt_trichotomy i j with h | h | h
  ·have g0 : ∀k,k<i→(addp (eG j) q).getD k 0=0:=fun k hk=>by
    rw [ea_get hq.1 (by omega),if_neg (by omega),h0 k (by omega)]
    rfl
   have gi:(addp (eG j) q).getD i 0=0:=by
    rw [ea_get hq.1 (by omega),if_neg (by omega),h0 i h]
    rfl
   rw [sgn_first hd (ej.add hq) hi h8 g0 fun _=>gi,Int.one_mul];exact dG_one hd h8 hI (ej.add hq) hi g0 (fun _=>gi) G
  ·subst h
   rcases od_cases hd i with he | he
   ·have g0 : ∀k,k<i→(addp (eG i) q).getD k 0=0:=fun k hk=>by
     rw [ea_get hq.1 (by omega),if_neg (by omega),h0 k hk]
     rfl
    have gi:od ds i=1→(addp (eG i) q).getD i 0=0:=fun h=>by omega
    rw [sgn_first hd (ei.add hq) hi h8 g0 gi,Int.one_mul];exact dG_one hd h8 hI (ei.add hq) hi g0 gi G
   ·have hp:par (ds.getD i 0) = -1:=by
     rw [← par_mod (show od ds i % 2=ds.getD i 0 % 2 by rw [← emod_od hd i];omega),he]
     rfl
    rw [sgn_z0 (hits_ee hi h8 he hq),Int.zero_mul,dG_one hd h8 hI hq hi h0 ho (lG ds (eG i) G),dG_cong hI hq hx (G':=fun _=>0) (fun x hx _=>by
     unfold lG
     rw [sgn_z0 (hits_ee hi h8 he hx),Int.zero_mul,Int.mul_zero]) 8 (Nat.le_refl _),dG_zero,Int.mul_zero,Int.add_zero,hp]
    have e:wG (fun t=>sgn ds t (addp (eG i) q) * G (addp t (addp (eG i) q))) (toS (fm fs i))=wG (fun t=>sgn ds t q * lG ds (eG i) G (addp t q)) (toS (fm fs i)):=wG_eq fun x hm=>by
     obtain ⟨a1,a2,a3⟩:=hI i x hm;have s1:=swap_one hd h8 a1 a2 hi hq
     rw [f0,Int.one_mul,a3,par_mod (y:=0) (by
      rw [Int.mul_emod,Int.add_emod,emod_od hd i,he]
      rfl),show par 0=1 from rfl,Int.one_mul] at s1
     unfold lG;rw [s1,Int.mul_assoc,addp_left a1.1 ei.1 hq.1]
    rw [e]
    omega
  ·have g0 : ∀k,k<j→(addp (eG i) q).getD k 0=0:=fun k hk=>by
    rw [ea_get hq.1 (by omega),if_neg (by omega),h0 k hk]
    rfl
   have gj:od ds j=1→(addp (eG i) q).getD j 0=0:=fun h=>by
    rw [ea_get hq.1 (by omega),if_neg (by omega),ho h]
    rfl
   have fj:sgn ds (eG j) (addp (eG i) q)=1:=sgn_first hd (ei.add hq) hj h8 g0 gj
   have xi:Ex ds (eG i):=⟨fun k hk=>by rw [eG_get (by omega),if_neg (by omega)],fun k hk _=>by
    rw [eG_get (by omega)]
    split <;> omega⟩
   have wi:wsum ds (eG i) ds.length=ds.getD i 0:=by rw [wsum_eG (by omega),if_pos hi]
   have sg:=swap_one hd h8 ei xi hj hq;rw [f0,Int.one_mul,wi,fj,Int.mul_one] at sg
   have F3:dG ds fs (lG ds (eG j) (lG ds (eG i) G)) q 8=par (ds.getD i 0 * ds.getD j 0) * dG ds fs (lG ds (eG i) (lG ds (eG j) G)) q 8:=by
    rw [← dG_mul];refine dG_cong hI hq hx (fun x hx _=>?_) 8 (Nat.le_refl _);have s1:=swap_one hd h8 ei xi hj hx;rw [wi] at s1;unfold lG;rw [← Int.mul_assoc,s1,Int.mul_assoc,Int.mul_assoc,addp_left ei.1 ej.1 hx.1]
   have F1:wG (fun t=>sgn ds t (addp (eG j) q) * G (addp t (addp (eG j) q))) (toS (fm fs i))=par ((ds.getD i 0+1) * ds.getD j 0) * wG (fun t=>sgn ds t q * lG ds (eG j) G (addp t q)) (toS (fm fs i)):=by
    rw [← wG_mulF];refine wG_eq fun x hm=>?_;obtain ⟨a1,a2,a3⟩:=hI i x hm;have s1:=swap_one hd h8 a1 a2 hj hq;rw [f0,Int.one_mul,a3] at s1;unfold lG;rw [s1,Int.mul_assoc,Int.mul_assoc,addp_left a1.1 ej.1 hq.1]
   have F2:sgn ds (eG i) q * wG (fun t=>sgn ds t (addp (eG i) q) * G (addp t (addp (eG i) q))) (toS (fm fs j))=par ((ds.getD j 0+1) * ds.getD i 0) * wG (fun t=>sgn ds t q * lG ds (eG i) G (addp t q)) (toS (fm fs j)):=by
    rw [← wG_mulF,← wG_mulF];refine wG_eq fun x hm=>?_;obtain ⟨a1,a2,a3⟩:=hI j x hm;have s1:=swap_one hd h8 a1 a2 hi hq;rw [a3] at s1;unfold lG;rw [← Int.mul_assoc,s1,Int.mul_assoc,Int.mul_assoc,addp_left a1.1 ei.1 hq.1]
   rw [addp_left ei.1 ej.1 hq.1,dG_one hd h8 hI (ei.add hq) hj g0 gj G,dG_one hd h8 hI hq hj h0 ho (lG ds (eG i) G),F3,F1,sg];have ih1:=ih i hi (lG ds (eG j) G)
   have p1:par ((ds.getD i 0+1) * ds.getD j 0)=par (ds.getD i 0 * ds.getD j 0) * par (ds.getD j 0):=by rw [Int.add_mul,Int.one_mul,par_add]
   have p2:par ((ds.getD j 0+1) * ds.getD i 0)=par (ds.getD i 0 * ds.getD j 0) * par (ds.getD i 0):=by rw [Int.add_mul,Int.one_mul,par_add,Int.mul_comm (ds.getD j 0)]
   rw [p1];rw [p2] at F2;exact alg_gen (par_cases _) (par_cases _) (par_cases _) ih1 F2
theorem dG_leib (hd : ∀j,0≤ds.getD j 0∧ds.getD j 0≤12) (h8:ds.length≤8) (hI:Img ds fs) {r:Pw} (hr:Nn r) (hx:Ex ds r) : ∀q,Nn q→Ex ds q→∀G:Pw→Int,sgn ds r q * dG ds fs G (addp r q) 8=dG ds fs (rG ds q G) r 8+par (wsum ds r ds.length) * dG ds fs (lG ds r G) q 8:=by
 refine mono_ind h8 (P:=fun r=>∀q,Nn q→Ex ds q→∀G:Pw→Int,sgn ds r q * dG ds fs G (addp r q) 8=dG ds fs (rG ds q G) r 8+par (wsum ds r ds.length) * dG ds fs (lG ds r G) q 8) ?_ ?_ hr hx
 ·intro q hq hxq G;have ez:Ev ds zP:=fun j _ _=>zP_get j
  have za : ∀x,Nn x→addp zP x=x:=fun x hx=>list8 (by simp) hx.1 fun j _=>by
   rw [addp_get zP_nn.1 hx.1,zP_get]
   omega
  rw [ez.sgnl hd zP_nn,Int.one_mul,za q hq,dG_zP,wsum_zero zP_get,show par 0=1 from rfl,Int.one_mul,Int.zero_add];refine dG_cong hI hq hxq (fun x hx _=>?_) 8 (Nat.le_refl _);unfold lG;rw [ez.sgnl hd zP_nn,za x hx,Int.one_mul]
 ·intro i r hi hr hx h0 ho ih q hq hxq G;have ei:Nn (eG i):=eG_nn (by omega);have f:sgn ds (eG i) r=1:=sgn_first hd hr hi h8 h0 ho;have ih1:=ih q hq hxq (lG ds (eG i) G)
  have sL:sgn ds (addp (eG i) r) q=sgn ds r q * sgn ds (eG i) (addp r q):=by
   have:=sgn_assoc hd ei hr hq
   rwa [f,Int.one_mul] at this
  have e1:wG (fun t=>sgn ds t r * rG ds q G (addp t r)) (toS (fm fs i))=sgn ds r q * wG (fun t=>sgn ds t (addp r q) * G (addp t (addp r q))) (toS (fm fs i)):=by
   rw [← wG_mulF];refine wG_eq fun x hm=>?_;obtain ⟨a1,a2,a3⟩:=hI i x hm;unfold rG;rw [← Int.mul_assoc,sgn_assoc hd a1 hr hq,addp_assoc a1.1 hr.1 hq.1,Int.mul_assoc]
  have e2:dG ds fs (lG ds (eG i) (rG ds q G)) r 8=dG ds fs (rG ds q (lG ds (eG i) G)) r 8:=dG_cong hI hr hx (fun x hx _=>by
   unfold lG rG
   rw [← Int.mul_assoc,sgn_assoc hd ei hx hq,addp_assoc ei.1 hx.1 hq.1,Int.mul_assoc]) 8 (Nat.le_refl _)
  have e3:dG ds fs (lG ds r (lG ds (eG i) G)) q 8=dG ds fs (lG ds (addp (eG i) r) G) q 8:=dG_cong hI hq hxq (fun x hx _=>by
   unfold lG;have s1:=sgn_assoc hd ei hr hx;rw [f,Int.one_mul] at s1
   rw [s1,addp_assoc ei.1 hr.1 hx.1,Int.mul_assoc]) 8 (Nat.le_refl _)
  rw [dG_one hd h8 hI hr hi h0 ho,e1,e2,wsum_add ei.1 hr.1,wsum_eG (by omega),if_pos hi,par_add,sL,addp_assoc ei.1 hr.1 hq.1];rw [e3] at ih1
  by_cases hz:sgn ds r q=0
  ·rw [hz,Int.zero_mul] at ih1;rw [hz,Int.zero_mul,Int.zero_mul,Int.zero_mul];exact alg_z (par_cases _) (par_cases _) ih1
  ·rw [Int.mul_assoc,dG_gen hd h8 hI (hr.add hq) (ex_sum hr hq hx hxq hz) i hi G];exact alg_l (par_cases _) (par_cases _) ih1
end
section
variable {ds : Pw} {fs : List (List Term)}
theorem dG_sq (hd : ∀j,0≤ds.getD j 0∧ds.getD j 0≤12) (h8:ds.length≤8) (hI:Img ds fs) (h2 : ∀i,∀G:Pw→Int,Mo (wG (fun r=>dG ds fs G r 8) (toS (fm fs i))) 0) {p:Pw} (hp:Nn p) (hx:Ex ds p) : ∀G:Pw→Int,Mo (dG ds fs (fun x=>dG ds fs G x 8) p 8) 0:=by
 refine mono_ind h8 (P:=fun p=>∀G:Pw→Int,Mo (dG ds fs (fun x=>dG ds fs G x 8) p 8) 0) ?_ ?_ hp hx
 ·intro G;rw [dG_zP];exact Mo.refl _
 ·intro i q hi hq hx h0 ho ih G;have ei:Nn (eG i):=eG_nn (by omega)
  have w1:Mo (wG (fun r=>sgn ds r q * dG ds fs G (addp r q) 8) (toS (fm fs i))) (par (ds.getD i 0+1) * wG (fun r=>dG ds fs (lG ds r G) q 8) (toS (fm fs i))):=by
   have e:wG (fun r=>sgn ds r q * dG ds fs G (addp r q) 8) (toS (fm fs i))=wG (fun r=>dG ds fs (rG ds q G) r 8) (toS (fm fs i))+par (ds.getD i 0+1) * wG (fun r=>dG ds fs (lG ds r G) q 8) (toS (fm fs i)):=by
    rw [← wG_mulF,← wG_addF];refine wG_eq fun x hm=>?_;obtain ⟨a1,a2,a3⟩:=hI i x hm;rw [dG_leib hd h8 hI a1 a2 q hq hx G,a3]
   rw [e];have:=h2 i (rG ds q G);unfold Mo at *
   omega
  have w2:dG ds fs (lG ds (eG i) (fun x=>dG ds fs G x 8)) q 8=wG (fun t=>dG ds fs (lG ds t G) q 8) (toS (fm fs i))+par (ds.getD i 0) * dG ds fs (fun x=>dG ds fs (lG ds (eG i) G) x 8) q 8:=by
   rw [← dG_wG,← dG_mul,← dG_add];refine dG_cong hI hq hx (fun x hx hxx=>?_) 8 (Nat.le_refl _)
   show sgn ds (eG i) x * dG ds fs G (addp (eG i) x) 8=_
   rw [dG_gen hd h8 hI hx hxx i hi G]
   rfl
  rw [dG_one hd h8 hI hq hi h0 ho,w2];have w3:=ih (lG ds (eG i) G)
  have hp1:par (ds.getD i 0+1) = - par (ds.getD i 0):=by
   rw [par_add,show par 1 = -1 from rfl]
   omega
  rw [hp1] at w1;generalize wG (fun r=>sgn ds r q * dG ds fs G (addp r q) 8) (toS (fm fs i))=A at *;generalize wG (fun r=>dG ds fs (lG ds r G) q 8) (toS (fm fs i))=C at *;generalize dG ds fs (fun x=>dG ds fs (lG ds (eG i) G) x 8) q 8=D at *
  rcases par_cases (ds.getD i 0) with h | h <;> rw [h] at w1 ⊢ <;> unfold Mo at * <;> omega
theorem Img.of {fs:List (List Term)} (hD:isDeg ds=true) (hi:imsOk ds fs=true) (hw:Wfss fs):Img ds fs:=fun k x hx=>by
 by_cases hk:k<fs.length
 ·have h1:=imsOk_at hi hk
  unfold imOk at h1
  have h2:=Bool.and_eq_true_iff.1 h1
  have hs:=isForm_sok (hw.fm k) h2.1
  exact ⟨⟨(hs.key x hx).len,fun j=>((hs.key x hx).bd j).1⟩,isForm_kex (isDeg_bd hD) (isDeg_len hD) (hw.fm k) h2.1 x hx,degOk_wt (isDeg_len hD) (isDeg_bd hD) (hw.fm k) h2.2 x hx⟩
 ·rw [show fm fs k=[] by rw [G.fm,List.getD_eq_getElem?_getD,List.getElem?_eq_none (by omega)];rfl] at hx
  simp [toS] at hx
theorem isAlg_sq {fs:List (List Term)} (h:isAlg ds fs=true) (hw:Wfss fs) : ∀i,∀G:Pw→Int,Mo (wG (fun r=>dG ds fs G r 8) (toS (fm fs i))) 0:=fun i G=>by
 by_cases hk:i<fs.length
 ·unfold isAlg at h
  simp only [Bool.and_eq_true] at h
  have h1:=List.all_eq_true.1 h.2 i (by simpa using hk)
  have h2:dS ds fs (toS (fm fs i))=[]:=List.length_eq_zero_iff.1 (by simpa using h1)
  have h3:=wG_dS (ds:=ds) fs G (toS (fm fs i))
  rw [h2] at h3
  exact h3.symm
 ·rw [show fm fs i=[] by rw [G.fm,List.getD_eq_getElem?_getD,List.getElem?_eq_none (by omega)];rfl]
  exact Mo.refl _
theorem isAlg_img {fs:List (List Term)} (h:isAlg ds fs=true) (hw:Wfss fs):Img ds fs:=by
 have hD:=isAlg_deg h;unfold isAlg at h;simp only [Bool.and_eq_true] at h;exact Img.of hD h.1.2 hw
theorem dS_sqG {fs:List (List Term)} (h:isAlg ds fs=true) (hw:Wfss fs) {s:Sm} {M:Int} (hs:Sok M s) (hk:KEx ds s) (G:Pw→Int):Mo (wG G (dS ds fs (dS ds fs s))) 0:=by
 have hD:=isAlg_deg h;refine (wG_dS fs G _).trans ((wG_dS fs _ s).trans ?_);have e:Mo (wG (fun p=>dG ds fs (fun x=>dG ds fs G x 8) p 8) s) (wG (fun _=>0) s):=wG_cong fun x hx=>dG_sq (isDeg_bd hD) (isDeg_len hD) (isAlg_img h hw) (isAlg_sq h hw) ⟨(hs.key x hx).len,fun j=>((hs.key x hx).bd j).1⟩ (hk x hx) G;rw [wG_zeroF] at e;exact e
end
theorem nodup_sub : ∀{A B:List Nat},A.Nodup→(∀x∈A,x∈B)→A.length≤B.length
 | [],_,_,_=>by simp
 | a::A,B,h,hs=>by
  have hn:=List.nodup_cons.1 h
  have h1:=nodup_sub (B:=B.erase a) hn.2 fun x hx=>(List.mem_erase_of_ne fun e=>hn.1 (by rw [← e];exact hx)).2 (hs x (by simp [hx]))
  have h2:=List.length_erase_of_mem (hs a (by simp))
  have h3:=List.length_pos_of_mem (hs a (by simp))
  simp only [List.length_cons]
  omega
theorem insS_length (u:List Int) : ∀R:List (List Int),(insS u R).length=R.length+1
 | []=>rfl
 | r::R=>by
  simp only [insS]
  split
  ·simp
  ·simp only [List.length_cons]
   rw [insS_length u R]
theorem putS_length (R:List (List Int)) (row:List Int):(putS R row).length≤R.length+1:=by
 unfold putS
 split
 ·rw [insS_length]
  omega
 ·omega
theorem foldl_length : ∀(rows R:List (List Int)),(rows.foldl putS R).length≤R.length+rows.length
 | [],R=>by simp
 | r::rows,R=>by
  have h1:=foldl_length rows (putS R r)
  have h2:=putS_length R r
  simp only [List.foldl_cons,List.length_cons]
  omega
theorem redS_length (rows:List (List Int)):(redS rows).length≤rows.length:=by
 have:=foldl_length rows []
 simpa [redS] using this
section
variable {V W N : Nat} {rows R : List (List Int)}
theorem Red.self (h:Red W R):redS R=R:=(redS_eq h.row h fun _=>Iff.rfl).symm
theorem redS_distinct (h : ∀r∈rows,RowOk W r) (hl : ∀r∈rows,ldR r<W) (hn:(rows.map ldR).Nodup):(redS rows).length=rows.length:=by
 have h1:=redS_length rows
 have h2:=nodup_sub (B:=(redS rows).map ldR) hn fun x hx=>by
  obtain ⟨r,hr,rfl⟩:=List.mem_map.1 hx;have hR:=redS_ok h
  obtain ⟨s,hs,e⟩:=hR.1.lead ((hR.2 _).2 (Spn.row hr)) (k:=ldR r) (fun j hj=>by show Mo (r.getD j 0) 0;rw [ldR_lt hj];exact Mo.refl _) (by
   show ¬Mo (r.getD (ldR r) 0) 0
   have a:=ldR_ne (r:=r) (by rw [(h r hr).len];exact hl r hr);have b:=(h r hr).val (ldR r);unfold Mo
   omega)
  exact List.mem_map.2 ⟨s,hs,e⟩
 simp only [List.length_map] at h2
 omega
theorem drop_get {a:List Int} {V j:Nat}:(a.drop V).getD j 0=a.getD (V+j) 0:=by simp [List.getD_eq_getElem?_getD,List.getElem?_drop]
theorem take_get {a:List Int} {V j:Nat}:(a.take V).getD j 0=if j<V then a.getD j 0 else 0:=by
 rw [List.getD_eq_getElem?_getD,List.getElem?_take]
 split
 ·rw [List.getD_eq_getElem?_getD]
 ·rfl
theorem Spn.drop {v:Vc} (h:Spn rows v) (V:Nat):Spn (rows.map fun r=>r.drop V) (fun k=>v (V+k)):=by
 induction h with
 | zero h=>exact .zero fun k=>h _
 | @add u v r c hr _ h ih=>exact .add (r:=r.drop V) (c:=c) (List.mem_map.2 ⟨r,hr,rfl⟩) ih fun k=>by rw [drop_get];exact h _
theorem Spn.take {v:Vc} (h:Spn rows v) (V:Nat):Spn (rows.map fun r=>r.take V) (fun k=>if k<V then v k else 0):=by
 induction h with
 | zero h=>
  refine .zero fun k=>?_
  by_cases hk:k<V
  ·simp only [if_pos hk];exact h k
  ·simp only [if_neg hk];exact Mo.refl _
 | @add u v r c hr _ h ih=>
  refine .add (r:=r.take V) (c:=c) (List.mem_map.2 ⟨r,hr,rfl⟩) ih fun k=>?_;rw [take_get]
  by_cases hk:k<V
  ·simp only [if_pos hk];exact h k
  ·simp only [if_neg hk,Int.mul_zero];exact Mo.refl _
theorem RowOk.take {a:List Int} (h:RowOk (V+W) a):RowOk V (a.take V):=⟨by rw [List.length_take,h.len];omega,fun j=>by
 rw [take_get]
 split
 ·exact h.val j
 ·omega⟩
theorem spn_map (f:List Int→List Int) (hf : ∀{rs:List (List Int)} {r:List Int},Spn rs (vR r)→Spn (rs.map f) (vR (f r))) (h : ∀v,Spn R v↔Spn rows v) (v:Vc):Spn (R.map f) v↔Spn (rows.map f) v:=
 ⟨fun hv=>hv.sub fun x hx=>by
  obtain ⟨r,hr,rfl⟩:=List.mem_map.1 hx
  exact hf ((h _).1 (Spn.row hr)),fun hv=>hv.sub fun x hx=>by
  obtain ⟨r,hr,rfl⟩:=List.mem_map.1 hx
  exact hf ((h _).2 (Spn.row hr))⟩
theorem spn_drop (V:Nat) {rs:List (List Int)} {r:List Int} (h:Spn rs (vR r)):Spn (rs.map fun r=>r.drop V) (vR (r.drop V)):=(h.drop V).congr fun k=>by show Mo ((r.drop V).getD k 0) _;rw [drop_get];exact Mo.refl _
theorem spn_take (V:Nat) {rs:List (List Int)} {r:List Int} (h:Spn rs (vR r)):Spn (rs.map fun r=>r.take V) (vR (r.take V)):=(h.take V).congr fun k=>by show Mo ((r.take V).getD k 0) _;rw [take_get];exact Mo.refl _
def uniL (n:Nat):List (List Int):=(List.range n).map (uniR n)
theorem uniR_ld {n k:Nat} (hk:k<n):ldR (uniR n k)=k:=ldR_of (fun j hj=>by rw [uniR_get,if_neg (by omega)]) (by rw [uniR_get,if_pos ⟨rfl,hk⟩];omega)
theorem uniL_red (n:Nat):Red n (uniL n):=⟨fun r hr=>by
 obtain ⟨k,_,rfl⟩:=List.mem_map.1 hr
 exact uniR_ok,by
 unfold uniL
 rw [List.pairwise_map]
 refine List.pairwise_lt_range.imp_of_mem fun {a b} ha hb hab=>?_
 rw [uniR_ld (List.mem_range.1 ha),uniR_ld (List.mem_range.1 hb)]
 exact hab,fun r hr=>by
 obtain ⟨k,hk,rfl⟩:=List.mem_map.1 hr
 have hk:=List.mem_range.1 hk
 rw [uniR_ld hk,uniR_get,if_pos ⟨rfl,hk⟩]
 exact ⟨hk,rfl⟩,fun r hr s hs hne=>by
 obtain ⟨k,hk,rfl⟩:=List.mem_map.1 hr
 obtain ⟨j,hj,rfl⟩:=List.mem_map.1 hs
 rw [uniR_ld (List.mem_range.1 hk),uniR_ld (List.mem_range.1 hj)] at hne
 rw [uniR_ld (List.mem_range.1 hk),uniR_get,if_neg fun h=>hne h.1.symm]⟩
theorem wdS_drop (h : ∀r∈rows,RowOk W r):(wdS rows rows.length).map (fun r=>r.drop W)=uniL rows.length:=by
 unfold wdS wdK uniL;rw [List.map_map];refine List.map_congr_left fun i hi=>?_;have:=(h _ (rw_mem (List.mem_range.1 hi))).len
 show (rw_ rows i++uniR rows.length i).drop W=_
 rw [← this,List.drop_left]
theorem wdS_take (h : ∀r∈rows,RowOk W r):(wdS rows rows.length).map (fun r=>r.take W)=rows:=by
 unfold wdS wdK;rw [List.map_map];refine List.ext_getElem (by simp) fun i h1 h2=>?_
 have e:rw_ rows i=rows[i]:=by simp [rw_,List.getD_eq_getElem?_getD,h2]
 have hl:rows[i].length=W:=(h _ (List.getElem_mem h2)).len;simp only [List.getElem_map,List.getElem_range,Function.comp];rw [e,← hl,List.take_left]
theorem wdS_count (h : ∀r∈rows,RowOk W r):(redS (wdS rows rows.length)).length=rows.length:=by
 have h1:=redS_length (wdS rows rows.length);have h2:(wdS rows rows.length).length=rows.length:=wdK_len _ _ _;have hR:=redS_ok (wdS_ok (n:=rows.length) h)
 have h3:uniL rows.length=redS ((redS (wdS rows rows.length)).map fun r=>r.drop W):=redS_eq (W:=rows.length) (fun r hr=>by
  obtain ⟨s,hs,rfl⟩:=List.mem_map.1 hr
  exact (hR.1.row s hs).drop) (uniL_red _) fun v=>by
   rw [← wdS_drop h];exact (spn_map _ (spn_drop W) hR.2 v).symm
 have h4:=redS_length ((redS (wdS rows rows.length)).map fun r=>r.drop W);rw [← h3] at h4;simp only [uniL,List.length_map,List.length_range] at h4
 omega
def loR (W:Nat) (R:List (List Int)):List (List Int):=R.filter fun r=>decide (ldR r<W)
def hiR (W:Nat) (R:List (List Int)):List (List Int):=R.filter fun r=>decide (W≤ldR r)
theorem lohi (W:Nat) : ∀R:List (List Int),(loR W R).length+(hiR W R).length=R.length
 | []=>rfl
 | r::R=>by
  have ih:=lohi W R
  unfold loR hiR at *
  by_cases h:ldR r<W
  ·rw [List.filter_cons_of_pos (by simpa using h),List.filter_cons_of_neg (by simp;omega)]
   simp only [List.length_cons]
   omega
  ·rw [List.filter_cons_of_neg (by simpa using h),List.filter_cons_of_pos (by simp;omega)]
   simp only [List.length_cons]
   omega
theorem fzS_hi (h:Red (V+W) R):fzS R V=(hiR V R).map fun r=>r.drop V:=by
 unfold fzS hiR
 congr 1
 refine List.filter_congr fun r hr=>?_;have h1:=(h.row r hr).len;have h2:=(h.one r hr).1;exact zR_take (by omega) (by omega)
theorem drop_ld {r:List Int} (h:ldR r<r.length) (hV:V≤ldR r):ldR (r.drop V)=ldR r - V:=ldR_of (fun j hj=>by rw [drop_get];exact ldR_lt (by omega)) (by rw [drop_get,show V+(ldR r - V)=ldR r by omega];exact ldR_ne h)
theorem take_ld {r:List Int} (h:ldR r<r.length) (hV:ldR r<V):ldR (r.take V)=ldR r:=ldR_of (fun j hj=>by rw [take_get,if_pos (by omega)];exact ldR_lt hj) (by rw [take_get,if_pos hV];exact ldR_ne h)
theorem hi_red (h:Red (V+W) R):Red W (fzS R V):=by
 rw [fzS_hi h]
 have hm : ∀r∈hiR V R,r∈R∧V≤ldR r∧ldR r<r.length:=fun r hr=>by
  have h1:=List.mem_filter.1 hr;exact ⟨h1.1,by simpa using h1.2,by rw [(h.row r h1.1).len];exact (h.one r h1.1).1⟩
 refine ⟨fun r hr=>?_,?_,fun r hr=>?_,fun r hr s hs hne=>?_⟩
 ·obtain ⟨s,hs,rfl⟩:=List.mem_map.1 hr;exact (h.row s (hm s hs).1).drop
 ·rw [List.pairwise_map];refine (h.srt.filter _).imp_of_mem fun {a b} ha hb hab=>?_;obtain ⟨_,a1,a2⟩:=hm a ha;obtain ⟨_,b1,b2⟩:=hm b hb;rw [drop_ld a2 a1,drop_ld b2 b1]
  omega
 ·obtain ⟨s,hs,rfl⟩:=List.mem_map.1 hr;obtain ⟨s0,s1,s2⟩:=hm s hs;have:=h.one s s0;rw [drop_ld s2 s1,drop_get,show V+(ldR s - V)=ldR s by omega];exact ⟨by omega,this.2⟩
 ·obtain ⟨a,ha,rfl⟩:=List.mem_map.1 hr;obtain ⟨b,hb,rfl⟩:=List.mem_map.1 hs;obtain ⟨a0,a1,a2⟩:=hm a ha;obtain ⟨b0,b1,b2⟩:=hm b hb;rw [drop_ld a2 a1,drop_ld b2 b1] at hne;rw [drop_ld a2 a1,drop_get,show V+(ldR a - V)=ldR a by omega];exact h.zer a a0 b b0 (by omega)
theorem lo_red (h:Red (V+W) R):Red V ((loR V R).map fun r=>r.take V):=by
 have hm : ∀r∈loR V R,r∈R∧ldR r<V∧ldR r<r.length:=fun r hr=>by
  have h1:=List.mem_filter.1 hr;exact ⟨h1.1,by simpa using h1.2,by rw [(h.row r h1.1).len];exact (h.one r h1.1).1⟩
 refine ⟨fun r hr=>?_,?_,fun r hr=>?_,fun r hr s hs hne=>?_⟩
 ·obtain ⟨s,hs,rfl⟩:=List.mem_map.1 hr;exact (h.row s (hm s hs).1).take
 ·rw [List.pairwise_map];refine (h.srt.filter _).imp_of_mem fun {a b} ha hb hab=>?_;obtain ⟨_,a1,a2⟩:=hm a ha;obtain ⟨_,b1,b2⟩:=hm b hb;rw [take_ld a2 a1,take_ld b2 b1];exact hab
 ·obtain ⟨s,hs,rfl⟩:=List.mem_map.1 hr;obtain ⟨s0,s1,s2⟩:=hm s hs;have:=h.one s s0;rw [take_ld s2 s1,take_get,if_pos s1];exact ⟨s1,this.2⟩
 ·obtain ⟨a,ha,rfl⟩:=List.mem_map.1 hr;obtain ⟨b,hb,rfl⟩:=List.mem_map.1 hs;obtain ⟨a0,a1,a2⟩:=hm a ha;obtain ⟨b0,b1,b2⟩:=hm b hb;rw [take_ld a2 a1,take_ld b2 b1] at hne;rw [take_ld a2 a1,take_get,if_pos a1];exact h.zer a a0 b b0 hne
theorem ker_count (h : ∀r∈rows,RowOk W r):(redS rows).length+(kerS rows W).length=rows.length:=by
 have hR:=redS_ok (wdS_ok (n:=rows.length) h);have hc:=wdS_count h;have hk:kerS rows W=fzS (redS (wdS rows rows.length)) W:=(hi_red hR.1).self
 have hl:(loR W (redS (wdS rows rows.length))).map (fun r=>r.take W)=redS rows:=redS_eq h (lo_red hR.1) fun v=>by
  have h1:=spn_map _ (spn_take W) hR.2 v;rw [wdS_take h] at h1;refine Iff.trans ⟨fun hv=>hv.sub fun x hx=>?_,fun hv=>hv.sub fun x hx=>?_⟩ h1
  ·obtain ⟨r,hr,rfl⟩:=List.mem_map.1 hx;exact Spn.row (List.mem_map.2 ⟨r,(List.mem_filter.1 hr).1,rfl⟩)
  ·obtain ⟨r,hr,rfl⟩:=List.mem_map.1 hx
   by_cases hlt:ldR r<W
   ·exact Spn.row (List.mem_map.2 ⟨r,List.mem_filter.2 ⟨hr,by simpa using hlt⟩,rfl⟩)
   ·exact .zero fun k=>by
     show Mo ((r.take W).getD k 0) 0
     rw [take_get]
     split
     ·rw [ldR_lt (by omega)];exact Mo.refl _
     ·exact Mo.refl _
 rw [hk,← hl,fzS_hi hR.1,List.length_map,List.length_map,lohi,hc]
theorem Spn.sum {α:Type} (c:α→Int) (f:α→List Int) : ∀{l:List α},(∀x∈l,f x∈rows)→Spn rows (fun k=>(l.map fun x=>c x * (f x).getD k 0).sum)
 | [],_=>.zero fun _=>Mo.refl _
 | a::l,h=>.add (r:=f a) (c:=c a) (h a (by simp)) (Spn.sum c f (l:=l) fun x hx=>h x (List.mem_cons_of_mem _ hx)) fun k=>by simp only [List.map_cons,List.sum_cons];exact Mo.refl _
theorem hi_spn (h:Red (V+W) R) {v:Vc} (hv:Spn R v) (h0 : ∀k,k<V→Mo (v k) 0):Spn (fzS R V) (fun k=>v (V+k)):=by
 rw [fzS_hi h];have h1:=(Spn.sum (rows:=hiR V R) (fun s=>v (ldR s)) (fun s=>s) (l:=hiR V R) fun x hx=>hx).drop V;refine h1.congr fun k=>(h.at hv (V+k)).trans ?_
 have key : ∀l:List (List Int),Mo (l.map fun s=>v (ldR s) * s.getD (V+k) 0).sum ((l.filter fun r=>decide (V≤ldR r)).map fun s=>v (ldR s) * s.getD (V+k) 0).sum:=fun l=>by
  induction l with
  | nil=>exact Mo.refl _
  | cons a l ih=>
   by_cases ha:V≤ldR a
   ·rw [List.filter_cons_of_pos (by simpa using ha)];simp only [List.map_cons,List.sum_cons];exact (Mo.refl _).add ih
   ·rw [List.filter_cons_of_neg (by simpa using ha)];simp only [List.map_cons,List.sum_cons];have:=(h0 (ldR a) (by omega)).mul (a.getD (V+k) 0);rw [Int.zero_mul] at this;have:=this.add ih
    rwa [Int.zero_add] at this
 exact key R
theorem ker_spn (h : ∀r∈rows,RowOk W r) {u:List Int} (hu:u.length=rows.length) (h0 : ∀k,k<W→Mo ((List.range rows.length).map fun i=>u.getD i 0 * (rw_ rows i).getD k 0).sum 0):Spn (kerS rows W) (vR u):=by
 have hR:=redS_ok (wdS_ok (n:=rows.length) h);have hk:kerS rows W=fzS (redS (wdS rows rows.length)) W:=(hi_red hR.1).self;have h1:Spn (wdS rows rows.length) (fun k=>((List.range rows.length).map fun i=>u.getD i 0 * (rw_ rows i++uniR rows.length i).getD k 0).sum):=Spn.sum (fun i=>u.getD i 0) (fun i=>rw_ rows i++uniR rows.length i) fun i hi=>List.mem_map.2 ⟨i,hi,rfl⟩
 have h2:=hi_spn hR.1 ((hR.2 _).2 h1) fun k hk=>by
  have e:((List.range rows.length).map fun i=>u.getD i 0 * (rw_ rows i++uniR rows.length i).getD k 0)=(List.range rows.length).map fun i=>u.getD i 0 * (rw_ rows i).getD k 0:=List.map_congr_left fun i hi=>by
   rw [app_get,if_pos (by rw [(h _ (rw_mem (List.mem_range.1 hi))).len];exact hk)]
  rw [e];exact h0 k hk
 rw [hk];refine h2.congr fun k=>?_
 have e:((List.range rows.length).map fun i=>u.getD i 0 * (rw_ rows i++uniR rows.length i).getD (W+k) 0)=(List.range rows.length).map fun i=>u.getD i 0 * (if i=k∧i<rows.length then 1 else 0):=List.map_congr_left fun i hi=>by
  have:=(h _ (rw_mem (List.mem_range.1 hi))).len;rw [app_get,if_neg (by omega),uniR_get,this,Nat.add_sub_cancel_left]
 show Mo (u.getD k 0) ((List.range rows.length).map fun i=>u.getD i 0 * (rw_ rows i++uniR rows.length i).getD (W+k) 0).sum
 rw [e]
 by_cases hk:k<rows.length
 ·rw [sum_single (f:=fun i=>i) List.pairwise_lt_range (List.mem_range.2 hk) fun s _ hne=>by rw [if_neg fun h=>hne h.1,Int.mul_zero],if_pos ⟨rfl,hk⟩,Int.mul_one];exact Mo.refl _
 ·rw [sum_zero fun i hi=>by
   have:=List.mem_range.1 hi
   rw [if_neg (by omega),Int.mul_zero],getD_ge (by omega)]
  exact Mo.refl _
theorem by_count {cl bd:List (List Int)} (hc:Red W cl) (hb:Red W bd) (hs : ∀r∈bd,Spn cl (vR r)):(redS (cl.map fun r=>byS r bd)).length+bd.length=cl.length:=by
 have hro : ∀r∈cl.map (fun r=>byS r bd),RowOk W r:=fun r hr=>by
  obtain ⟨s,h1,rfl⟩:=List.mem_map.1 hr;exact byS_ok (hc.row s h1) hb.row
 have hR:=redS_ok hro
 have hv : ∀s∈redS (cl.map fun r=>byS r bd),∀b∈bd,s.getD (ldR b) 0=0:=fun s hs2 b hb2=>by
  have h1:=((hR.2 _).1 (Spn.row hs2)).vanish (k:=ldR b) fun r hr=>by
   obtain ⟨t,ht,rfl⟩:=List.mem_map.1 hr;rw [byS_zero hb (A:=[]) (B:=bd) rfl (hc.row t ht) b hb2];exact Mo.refl _
  exact h1.val ((hR.1.row s hs2).val _) (by omega)
 have hF : ∀r∈redS (cl.map fun r=>byS r bd)++bd,RowOk W r:=fun r hr=>by
  rcases List.mem_append.1 hr with h | h
  ·exact hR.1.row r h
  ·exact hb.row r h
 have h1:(redS (redS (cl.map fun r=>byS r bd)++bd)).length=(redS (cl.map fun r=>byS r bd)++bd).length:=by
  refine redS_distinct hF (fun r hr=>?_) ?_
  ·rcases List.mem_append.1 hr with h | h
   ·exact (hR.1.one r h).1
   ·exact (hb.one r h).1
  ·rw [List.map_append,List.nodup_append];refine ⟨List.pairwise_map.2 (hR.1.srt.imp fun h=>by omega),List.pairwise_map.2 (hb.srt.imp fun h=>by omega),fun x hx y hy=>?_⟩;obtain ⟨s,hs2,rfl⟩:=List.mem_map.1 hx;obtain ⟨b,hb2,rfl⟩:=List.mem_map.1 hy;intro e;have h2:=hv s hs2 b hb2;rw [← e,(hR.1.one s hs2).2] at h2
   omega
 have h2:cl=redS (redS (cl.map fun r=>byS r bd)++bd):=redS_eq hF hc fun v=>⟨fun hv=>hv.sub fun r hr=>?_,fun hv=>hv.sub fun r hr=>?_⟩
 ·rw [← h2,List.length_append] at h1;exact h1.symm
 ·exact (byS_spn (hc.row r hr) hb.row fun s hs2=>Spn.row (by simp [hs2])).1 (((hR.2 _).2 (Spn.row (List.mem_map.2 ⟨r,hr,rfl⟩))).sub fun s hs2=>Spn.row (by simp [hs2]))
 ·rcases List.mem_append.1 hr with h | h
  ·refine ((hR.2 _).1 (Spn.row h)).sub fun s hs2=>?_;obtain ⟨t,ht,rfl⟩:=List.mem_map.1 hs2;exact (byS_spn (hc.row t ht) hb.row hs).2 (Spn.row ht)
  ·exact hs r h
end
theorem sum_one {D:Pw→Int} {a:Pw} {c:Int} : ∀{ps:List Pw},ps.Nodup→a∈ps→(ps.map fun q=>(if a=q then c else 0) * D q).sum=c * D a
 | [],_,h=>by simp at h
 | p::ps,hn,h=>by
  have hn':=List.nodup_cons.1 hn
  simp only [List.map_cons,List.sum_cons]
  by_cases e:a=p
  ·rw [if_pos e,sum_zero fun q hq=>by rw [if_neg fun e2=>hn'.1 (by rw [← e,e2];exact hq),Int.zero_mul],e]
   omega
  ·rw [if_neg e,Int.zero_mul,Int.zero_add]
   exact sum_one hn'.2 ((List.mem_cons.1 h).resolve_left e)
theorem sum_cf {D:Pw→Int} {ps:List Pw} (hp:ps.Nodup) : ∀{s:Sm},(s.map (·.1)).Nodup→(∀x∈s,x.1∈ps)→(ps.map fun q=>cf s q * D q).sum=wG D s
 | [],_,_=>sum_zero fun q _=>by simp [cf]
 | x::s,hn,hs=>by
  have hn':=List.nodup_cons.1 (show (x.1::s.map (·.1)).Nodup from hn)
  have ih:=sum_cf (D:=D) hp hn'.2 fun y hy=>hs y (by simp [hy])
  have e:(ps.map fun q=>cf (x::s) q * D q)=ps.map fun q=>1 * ((if x.1=q then x.2 else 0) * D q)+cf s q * D q:=List.map_congr_left fun q _=>by
   simp only [cf]
   by_cases h:x.1=q
   ·rw [if_pos h,if_pos h,cf_none fun y hy h2=>hn'.1 (List.mem_map.2 ⟨y,hy,h2.trans h.symm⟩)]
    omega
   ·rw [if_neg h,if_neg h]
    omega
  rw [e,sum_plus,sum_one hp (hs x (by simp)),ih]
  simp only [wG]
  omega
section
variable {ds : List Int} {fs : List (List Term)} {n : Int}
theorem cf_dS1 (hA:AlgOk ds fs) (h8:ds.length≤8) (hd : ∀j,j<ds.length→1≤ds.getD j 0∧ds.getD j 0≤12) {q:Pw} (hq:q∈monS ds n) (t:Pw):Mo (cf (dS ds fs [(q,1)]) t) (dG ds fs (ind t) q 8):=by
 rw [cf_wG t (dS_one hA h8 hd hq)];have h:=wG_dS (ds:=ds) fs (ind t) [(q,1)];simp only [wG,Int.one_mul,Int.add_zero] at h;exact h
theorem row_ker (hG:isAlg ds fs=true) (hw:Wfss fs) (hn:n+1≤40) (hf1:fit2 ds n) {u:List Int} (hu:u∈matS ds fs n):Spn (clS ds fs (n+1)) (vR u):=by
 have hA:=isAlg_ok hG hw;have h8:=hA.hn;have hd:=alg_112 hG;obtain ⟨p,hp,rfl⟩:=List.mem_map.1 hu;have hpm:=List.mem_of_mem_take hp;have hs:=dS_one hA h8 hd hpm;have hom:=hom_of hG hw h8 hd (show n≤40 by omega) hf1;unfold clS;refine ker_spn (matS_ok (n:=n+1) hA h8 hd) (by rw [List.length_map,matS_len]) fun k hk=>?_
 have e1:Mo ((List.range (matS ds fs (n+1)).length).map fun i=>((monL ds (n+1)).map (cf (dS ds fs [(p,1)]))).getD i 0 * (rw_ (matS ds fs (n+1)) i).getD k 0).sum ((monL ds (n+1)).map fun q=>cf (dS ds fs [(p,1)]) q * dG ds fs (ind (rw_ (monL ds (n+1+1)) k)) q 8).sum:=by
  have e2:((monL ds (n+1)).map fun q=>cf (dS ds fs [(p,1)]) q * dG ds fs (ind (rw_ (monL ds (n+1+1)) k)) q 8)=(List.range (matS ds fs (n+1)).length).map fun i=>cf (dS ds fs [(p,1)]) (rw_ (monL ds (n+1)) i) * dG ds fs (ind (rw_ (monL ds (n+1+1)) k)) (rw_ (monL ds (n+1)) i) 8:=by
   rw [matS_len];refine List.ext_getElem (by simp) fun i h1 h2=>?_
   have h3:i<(monL ds (n+1)).length:=by simpa using h1
   simp [rw_,List.getD_eq_getElem?_getD,h3]
  rw [e2];refine sum_mo fun i hi=>?_;have hi:=List.mem_range.1 hi;rw [matS_len] at hi
  have e3:((monL ds (n+1)).map (cf (dS ds fs [(p,1)]))).getD i 0=cf (dS ds fs [(p,1)]) (rw_ (monL ds (n+1)) i):=by simp [rw_,List.getD_eq_getElem?_getD,hi]
  have e4:(rw_ (matS ds fs (n+1)) i).getD k 0=cf (dS ds fs [(rw_ (monL ds (n+1)) i,1)]) (rw_ (monL ds (n+1+1)) k):=by simp [matS,rw_,List.getD_eq_getElem?_getD,hi,hk]
  rw [e3,e4];exact (cf_dS1 hA h8 hd (monL_mem hi) _).mull _
 refine e1.trans ?_;rw [sum_cf (monL_nodup h8 _) hs.nodup (hom p hp)]
 have hp1:KEx ds [(p,1)]:=fun x hx=>by
  rw [List.mem_singleton.1 hx];exact mon_ex h8 hpm hd
 exact (wG_dS (ds:=ds) fs _ _).symm.trans (dS_sqG hG hw (Sok.one (k:=1) (mon_pok h8 hpm) (by omega)) hp1 _)
theorem bd_cl (hG:isAlg ds fs=true) (hw:Wfss fs) (hn:n≤40) (hf:fit3 ds n) : ∀r∈bdS ds fs n,Spn (clS ds fs n) (vR r):=fun r hr=>by
 have hA:=isAlg_ok hG hw
 have h8:=hA.hn
 have hd:=alg_112 hG
 unfold bdS at hr
 split at hr
 ·rename_i h0
  refine (((redS_ok (matS_ok (n:=n - 1) hA h8 hd)).2 _).1 (Spn.row hr)).sub fun u hu=>?_
  have h1:=row_ker hG hw (n:=n - 1) (by omega) ⟨hf.2 h0,by rw [Int.sub_add_cancel];exact hf.1.1⟩ hu
  rwa [Int.sub_add_cancel] at h1
 ·simp at hr
theorem cs_count (hG:isAlg ds fs=true) (hw:Wfss fs) (h0:0≤n) (hn:n≤40) (hf:fit3 ds n):((csS ds fs n).length:Int)=(monL ds n).length - rkS ds fs n - rkS ds fs (n - 1):=by
 have hA:=isAlg_ok hG hw;have h8:=hA.hn;have hd:=alg_112 hG;have h1:=by_count (clS_red (n:=n) hA h8 hd) (bdS_red (n:=n) hA h8 hd) (bd_cl hG hw hn hf);have h2:=ker_count (matS_ok (n:=n) hA h8 hd);rw [matS_len] at h2;have e1:(csS ds fs n).length=(redS ((clS ds fs n).map fun r=>byS r (bdS ds fs n))).length:=rfl;have e2:(clS ds fs n).length=(kerS (matS ds fs n) (monL ds (n+1)).length).length:=rfl;have e3:rkS ds fs n=(redS (matS ds fs n)).length:=if_neg (by omega)
 have e4:rkS ds fs (n - 1)=(bdS ds fs n).length:=by
  unfold rkS bdS
  by_cases h:0<n
  ·rw [if_neg (by omega),if_pos h]
  ·rw [if_pos (by omega),if_neg h]
   rfl
 omega
end
theorem fn64:Fn Tryz.prog 64:=⟨_,Tryz.func64,by kernel_rfl,rfl⟩
theorem fn65:Fn Tryz.prog 65:=⟨_,Tryz.func65,by kernel_rfl,rfl⟩
theorem fn67:Fn Tryz.prog 67:=⟨_,Tryz.func67,by kernel_rfl,rfl⟩
def btK (ds:List Int) (fs:List (List Term)) (k:Nat):List Int:=(List.range k).map fun j:Nat=>((csS ds fs (j:Int)).length:Int)
def btV (ds:List Int) (fs:List (List Term)) (m:Int):List Int:=if allC ds fs m=0 then btK ds fs (m+1).toNat else []
def al1 (ds:List Int) (fs:List (List Term)) (m:Int):Int:=if isAlg ds fs then if askB m then 0 else 2 else 1
section
variable {ds : List Int} {fs : List (List Term)} {m : Int}
theorem btK_succ (k:Nat):btK ds fs (k+1)=btK ds fs k++[((csS ds fs (k:Int)).length:Int)]:=by
 unfold btK;rw [List.range_succ,List.map_append]
 rfl
theorem btK_len (k:Nat):(btK ds fs k).length=k:=by simp [btK]
theorem btV_n (h:allC ds fs m≠0):btV ds fs m=[]:=if_neg h
theorem btV_y (h:allC ds fs m=0):btV ds fs m=btK ds fs (m+1).toNat:=if_pos h
theorem al_eq:firstOf [codeA ds fs [],if (!askB m)=true then 2 else 0]=al1 ds fs m:=by
 rw [pc_f];unfold al1
 cases askB m <;> rfl
theorem al1_y (h:al1 ds fs m=0):isAlg ds fs=true∧askB m=true:=by
 unfold al1 at h
 cases h1:isAlg ds fs <;> cases h2:askB m <;> simp_all
theorem allC_1 (h:al1 ds fs m≠0):allC ds fs m=al1 ds fs m:=by
 unfold al1 at h ⊢;unfold allC
 cases h1:isAlg ds fs <;> cases h2:askB m <;> simp_all
theorem allC_2 (h:al1 ds fs m=0):allC ds fs m=upC ds m:=by
 obtain ⟨h1,h2⟩:=al1_y h;unfold allC;rw [h1,h2,if_pos rfl,if_pos rfl]
 by_cases h3:upC ds m≠0
 ·obtain ⟨e,hw⟩:=upC_n h3;rw [e,hw]
  rfl
 ·rw [upC_z h3,Decidable.not_not.1 h3]
  rfl
theorem allC_y (h:allC ds fs m=0):isAlg ds fs=true∧(0≤m∧m≤20)∧wiB ds 0 (m+1)=true:=by
 unfold allC at h
 cases h1:isAlg ds fs with
 | false=>rw [h1] at h;cases h
 | true=>
  cases h2:askB m with
  | false=>rw [h1,h2] at h;cases h
  | true=>
   cases h3:wiB ds 0 (m+1) with
   | false=>rw [h1,h2,h3] at h;cases h
   | true=>exact ⟨rfl,askB_y h2,rfl⟩
theorem rk_bd (hA:AlgOk ds fs) (h8:ds.length≤8) (hd : ∀j,j<ds.length→1≤ds.getD j 0∧ds.getD j 0≤12) (n:Int):0≤rkS ds fs n∧rkS ds fs n≤121:=by
 unfold rkS
 split
 ·omega
 ·have h1:=redS_length (matS ds fs n);have h2:=matS_len ds fs n;have h3:=monL_len ds n
  omega
end
theorem sBettiNumbers_c {B:World} {H0 H:HP} {L:List SA} {w:World} {qad qaf:Option Addr} {cad caf:Nat} {ad:List Int} {af:List (List Term)} {m:Int} (had:Ints H qad ad) (haf:Forms H qaf af) (hn8:ad.length≤1048576) (hn9:af.length≤1048576) (hl9 : ∀i,i<af.length→(fm af i).length≤1048576) (hH:Hp B H0 H L w):Calls Tryz.prog 22 [.agg [.slice qad ad.length cad,.slice qaf af.length caf].toArray,.int .i64 m].toArray w fun e w'=>∃q c,e = .returned (.tuple #[.slice q (btV ad af m).length c,.int .i64 (allC ad af m)])∧Hp B H0 H (own 2 1 q (btV ad af m).length c (intsC (btV ad af m))::L) w':=by
 refine Ju Tryz.func22 rfl 40 rfl rfl [(0,.agg [.slice qad ad.length cad,.slice qaf af.length caf].toArray),(1,.int .i64 m)] rfl hH ?_;have hw0:=hH.old;have hw1:=hH.le;clear hH;refine Je fun _ hK1 _=>(Jb (Ef rfl rfl rfl fun g2=>(Jg (Jd rfl) rfl (Jg (Jd rfl) rfl (Jf (Ja (hK1 (Je fun _ hK2 _=>(Je fun _ hK3 _=>(Jb (Jg (JC rfl At.z (by simpa [*] using ag35)) rfl (Jg (Jc rfl) rfl (Jx fn64 rfl rfl fun w hH=>(l03All_c had haf (by omega) (by omega) hl9 hH).mono ?_)))))))))))));rintro _ w ⟨rfl,hH⟩;refine ⟨_,rfl,fun a hF=>JP hF hH ?_⟩;refine Jg (Jd rfl) rfl (Jf (Ja (hK3 (Je fun _ hK4 _=>(Jb (Jg (Jc rfl) rfl (Jg (Ei rfl rfl) rfl (Jf (Ja (hK4 (Jo rfl (fun h15=>?_) (fun h15=>?_))))))))))))
 ·
  refine Je fun _ hK5 _=>(Jb (Jg (Jc rfl) rfl (Jg (Jd rfl) rfl (Jg (Jd rfl) rfl (Jf (Ja (hK5 (Jq (Jm (EF rfl (Res.tmp rfl) (Res.tmp rfl) fun w hH=>?_))))))))));replace hH:=hH.sublist (.cons _ (List.Sublist.refl _));rw [btV_n h15];exact ⟨none,0,rfl,(hH.own0 2 1).weaken (Le.refl _) hw0 hw1⟩
 ·
  have h0:allC ad af m=0:=Decidable.not_not.1 h15;obtain ⟨hG,hm20,hwi⟩:=allC_y h0;have hwf:=haf.wfss;have hw:=hwf;have hA:=isAlg_ok hG hwf;have h8:=hA.hn;have hd:=alg_112 hG;refine Jk (Ja (hK2 (Je fun _ hK6 _=>(Jb (EQ (MK.lit0I u22 sz2) rfl fun qo17 co17=>(Jg (Jd rfl) rfl (Jg (Jd rfl) rfl (Jf (Ja (hK6 (Je fun _ hK7 _=>(Je fun _ hK8 _=>(Jb (Jg (Jd rfl) rfl (Jf (Ja (hK8 ?_)))))))))))))))));refine Jl (JD (σ:=Option Addr × Nat × Nat) (fun ⟨q,c,k⟩=>[(9,.int .i64 (k:Int)),(8,.int .i64 (rkS ad af ((k:Int) - 1))),(7,.slice q (btK ad af k).length c)]) (fun ⟨q,c,k⟩=>H) (fun ⟨q,c,k⟩=>own 2 1 q (btK ad af k).length c (intsC (btK ad af k))::obj g2 (.cells [.slice qad ad.length cad,.slice qaf af.length caf].toArray 35 (0,0))::L) (fun ⟨q,c,k⟩=>(k:Int)≤m+1) (fun ⟨q,c,k⟩=>(m+1 - (k:Int)).toNat) (qo17,co17,0) (by show ((0:Nat):Int)≤m+1;omega) ⟨rfl,⟨rfl,⟨rfl,trivial⟩⟩⟩ rfl rfl ?_);rintro ⟨q,c,k⟩ hk _ hAg0;refine Je fun _ hK9 _=>(Je fun _ hK10 _=>(Jb (Jg (Jc rfl) rfl (Jg (Jc rfl) rfl (Jg (PR.leq rfl rfl) rfl (Jf (Ja (hK10 (Jo rfl (fun h20=>?_) (fun h20=>?_))))))))))
  ·
   have hfk:fit3 ad (k:Int):=wi_f3 hwi (by omega) (by omega);have hmTk:=monT_L hfk.1.1;have hcc:=cs_count hG hwf (n:=(k:Int)) (by omega) (by omega) hfk;have hr1:=rk_bd hA h8 hd (k:Int);have hr0:=rk_bd hA h8 hd ((k:Int) - 1);have hmlk:=monL_len ad (k:Int);have hbl:=btK_len (ds:=ad) (fs:=af) k;refine Jk (Ja (hK9 (Je fun _ hK11 _=>(Jl (Je fun _ hK12 _=>(Jb (Jg (JC rfl (.s .z) (by simpa [*] using ag35)) rfl (Jg (Jc rfl) rfl (Jx fn65 rfl rfl fun w hH=>(l03Rank_c had haf hG (by omega) (fun _=>hfk.1) hH).mono ?_)))))))));rintro _ w ⟨rfl,hH⟩;refine ⟨_,rfl,fun a hF=>JP hF hH ?_⟩;refine Jg (Jd rfl) rfl (Jf (Ja (hK12 (Je fun _ hK13 _=>(Jb (Jg (Jc rfl) rfl (Jg (Js u35 rfl sz22 rfl) rfl (Jg (Jt rfl (.s .z) rfl pl22) rfl (Jg (Jc rfl) rfl (Jx fn66 rfl rfl fun w hH=>(l01Monomials_c had hd h8 (by omega) hH).mono ?_))))))))));rintro _ w ⟨qo30,co30,rfl,hH⟩;refine ⟨_,rfl,fun a hF=>JP hF hH ?_⟩;refine Jg (EK (v':=.int .i64 (((monL ad (k:Int)).length:Nat):Int)) (by rw [hmTk]) (Jn u88 rfl rfl)) rfl (Jg (Jc rfl) rfl (Jg (EH rfl rfl (nw _ (by omega))) rfl (Jg (Jc rfl) rfl (Jg (EH rfl rfl (nw _ (by omega))) rfl (EQ (MK.lit1I u22 ze2 sz2 rfl) rfl fun qo36 co36=>(J.appendOI u22 ze2 sz2 by2 rfl rfl (by simp only [List.length_singleton];omega) .z (.s .z) (fun _ _=>(.s .z)) rfl fun qo37 co37=>(Jg (Jd rfl) rfl (Jf (Ja (hK13 (Jb (Jg (Jc rfl) rfl (Jg (Jd rfl) rfl (Jf (JE ?_)))))))))))))));refine Ja (hK11 (Jb (Jg (Jc rfl) rfl (Jg (Jz rfl rfl (by first | exact nw _ (by omega) | rfl)) rfl (Jg (Jd rfl) rfl (Jf (Ja (JO .z (JO .z ?_)))))))));exact hAg0 (qo37,co37,k+1) (by show ((k+1:Nat):Int)≤m+1;omega) (by show (m+1 - ((k+1:Nat):Int)).toNat<(m+1 - (k:Int)).toNat;omega) 28 rfl rfl ⟨rfl,⟨(by rw [show ((k+1:Nat):Int) - 1=(k:Int) by omega];rfl),⟨(by rw [btK_succ,hcc];rfl),trivial⟩⟩⟩ rfl (by dsimp only;rw [btK_succ,hcc])
  ·
   refine JF (Ji (Ji (JK (Ja (hK7 (Je fun _ hK14 _=>(Jb (Jg (Jc rfl) rfl (Jg (Jd rfl) rfl (Jg (Jd rfl) rfl (Jf (Ja (hK14 (Jq (EF rfl (Res.tmp rfl) (Res.tmp rfl) fun w hH=>?_)))))))))))))));replace hH:=hH.sublist (.cons_cons _ (.cons _ (List.Sublist.refl _)))
   have hke:k=(m+1).toNat:=by omega
   subst hke;rw [btV_y h0,h0];exact ⟨_,_,rfl,hH.weaken (Le.refl _) hw0 hw1⟩
theorem askedUpTo_c {B:World} {H0 H:HP} {L:List SA} {w:World} {ba:Nat} {qad qaf:Option Addr} {cad caf:Nat} {ad:List Int} {af:List (List Term)} {n:Int} (pad:CellAt H ba 0 (.slice qad ad.length cad)) (paf:CellAt H ba 1 (.slice qaf af.length caf)) (had:Ints H qad ad) (haf:Forms H qaf af) (hn8:ad.length≤1048576) (hn9:af.length≤1048576) (hl9 : ∀i,i<af.length→(fm af i).length≤1048576) (hH:Hp B H0 H L w):Calls Tryz.prog 67 [.pointer (some ⟨ba,0,none⟩),.int .i64 n].toArray w fun e w'=>∃H' b lc,Le H H' ∧CellAt H' b 0 (.pointer (some ⟨ba,0,none⟩))∧CellAt H' b 1 (.map (some lc))∧e = .returned (.tuple #[.pointer (some ⟨b,0,none⟩),.int .i64 (allC ad af n)])∧Hp B H0 H' (cpx lc []::L) w':=by
 refine Ju Tryz.func67 rfl 25 rfl rfl [(0,.pointer (some ⟨ba,0,none⟩)),(1,.int .i64 n)] rfl hH ?_;have hw0:=hH.old;have hw1:=hH.le;clear hH;refine Je fun _ hK1 _=>(Jb (Jg (Jd rfl) rfl (Jg (Jd rfl) rfl (Jf (Ja (hK1 (Je fun _ hK2 _=>(Jb (Jg (Jc rfl) rfl (Jx fn83 rfl rfl fun w hH=>(newComplex_c pad paf had haf hH).mono ?_))))))))));rintro _ w ⟨Hf9,bn9,ln9,hlf9,pn90,pn91,rfl,hH⟩;refine ⟨_,rfl,fun a hF=>JP hF hH ?_⟩;replace pad:=pad.le hlf9;replace paf:=paf.le hlf9;replace had:=had.le hlf9;replace haf:=haf.le hlf9;refine Jg (Jc rfl) rfl (Jx fn80 rfl rfl fun w hH=>(algebraCode_c pad paf had haf (forms_nil Hf9) hn8 hn9 hl9 (by simp) (fun i hi=>by simp at hi) hH).mono ?_);rintro _ w ⟨rfl,hH⟩;refine ⟨_,rfl,fun a hF=>JP hF hH ?_⟩;refine Jg (Jc rfl) rfl (Jx fn87 rfl rfl fun w hH=>(isAsked_c hH).mono ?_);rintro _ w ⟨rfl,hH⟩;refine ⟨_,rfl,fun a hF=>JP hF hH ?_⟩;refine Jg (El rfl) rfl (Jx fn81 rfl rfl fun w hH=>(when_c hH).mono ?_);rintro _ w ⟨rfl,hH⟩;refine ⟨_,rfl,fun a hF=>JP hF hH ?_⟩;refine J.litI2 u22 ze2 sz2 rfl rfl rfl fun g16=>(Jx fn79 rfl rfl fun w hH=>hH.lend .z fun Hl1 hle1 hA1 hB1 hH=>(first_c (own_ints hA1) (by simp) hH).mono ?_);rintro _ w ⟨rfl,hH⟩;replace hH:=hB1 _ _ hH;refine ⟨_,rfl,fun a hF=>JP hF hH ?_⟩;refine Jg (Jd rfl) rfl (Jg (Jd rfl) rfl (Jf (Ja (hK2 (Je fun _ hK3 _=>(Je fun _ hK4 _=>(Jb (Jg (Jc rfl) rfl (Jg (EE rfl rfl) rfl (Jf (Ja (hK4 (Jo rfl (fun h19=>?_) (fun h19=>?_))))))))))))))
 ·
  rw [al_eq] at h19;obtain ⟨hG,hak⟩:=al1_y h19;have hask:=askB_y hak;have hA:=isAlg_ok hG haf.wfss;have hd:=alg_112 hG;have h8:=hA.hn;refine Jb (Jg (Jc rfl) rfl (Jg (Jc rfl) rfl (Jx fn84 rfl rfl fun w hH=>(upTo_c pn90 pn91 pad paf had haf hd h8 (by omega) hH).mono ?_)));rintro _ w ⟨rfl,hH⟩;refine ⟨_,rfl,fun a hF=>JP hF hH ?_⟩;refine Jg (Jd rfl) rfl (Jf (Ja (hK3 (Je fun _ hK5 _=>(Jb (Jg (Jc rfl) rfl (Jg (Jc rfl) rfl (Jg (Jd rfl) rfl (Jg (Jd rfl) rfl (Jf (Ja (hK5 (Jq (EF rfl (Res.tmp rfl) (Res.tmp rfl) fun w hH=>?_))))))))))))));replace hH:=hH.sublist (.cons _ (.cons_cons _ (List.Sublist.refl _)));exact ⟨_,_,_,hlf9,pn90,pn91,by rw [allC_2 h19],hH⟩
 ·
  rw [al_eq] at h19;refine Jk (Ja (hK3 (Je fun _ hK6 _=>(Jb (Jg (Jc rfl) rfl (Jg (Jc rfl) rfl (Jg (Jd rfl) rfl (Jg (Jd rfl) rfl (Jf (Ja (hK6 (Jq (EF rfl (Res.tmp rfl) (Res.tmp rfl) fun w hH=>?_)))))))))))));replace hH:=hH.sublist (.cons _ (.cons_cons _ (List.Sublist.refl _)));exact ⟨_,_,_,hlf9,pn90,pn91,by rw [al_eq,allC_1 h19],hH⟩
theorem BettiNumbers_c {B:World} {H0 H:HP} {L:List SA} {w:World} {qad qaf:Option Addr} {cad caf:Nat} {ad:List Int} {af:List (List Term)} {m:Int} (had:Ints H qad ad) (haf:Forms H qaf af) (hn8:ad.length≤1048576) (hn9:af.length≤1048576) (hl9 : ∀i,i<af.length→(fm af i).length≤1048576) (hH:Hp B H0 H L w):Calls Tryz.prog 23 [.agg [.slice qad ad.length cad,.slice qaf af.length caf].toArray,.int .i64 m].toArray w fun e w'=>∃q c,e = .returned (.tuple #[.slice q (btV ad af m).length c,.int .i64 (allC ad af m)])∧Hp B H0 H (own 2 1 q (btV ad af m).length c (intsC (btV ad af m))::L) w':=by
 refine Ju Tryz.func23 rfl 36 rfl rfl [(0,.agg [.slice qad ad.length cad,.slice qaf af.length caf].toArray),(1,.int .i64 m)] rfl hH ?_;have hw0:=hH.old;have hw1:=hH.le;clear hH;refine Je fun _ hK1 _=>(Jb (Ef rfl rfl rfl fun g2=>(J.freezeRow .z fun Hz2 hlez2 hcz2=>?_)));replace had:=had.le hlez2;replace haf:=haf.le hlez2;have pad:CellAt Hz2 g2 0 (.slice qad ad.length cad):=hcz2 0 _ rfl;have paf:CellAt Hz2 g2 1 (.slice qaf af.length caf):=hcz2 1 _ rfl;refine Jg (Jd rfl) rfl (Jg (Jd rfl) rfl (Jf (Ja (hK1 (Je fun _ hK2 _=>(Jb (Jg (Jc rfl) rfl (Jx fn67 rfl rfl fun w hH=>(askedUpTo_c pad paf had haf hn8 hn9 hl9 hH).mono ?_))))))));rintro _ w ⟨Hf12,bn12,ln12,hlf12,pn120,pn121,rfl,hH⟩;refine ⟨_,rfl,fun a hF=>JP hF hH ?_⟩;replace had:=had.le hlf12;replace haf:=haf.le hlf12;replace pad:=pad.le hlf12;replace paf:=paf.le hlf12;refine Jg (Jc rfl) rfl (Jg (JM rfl rfl) rfl (Jg (JM rfl rfl) rfl (Jg (Jd rfl) rfl (Jg (Jd rfl) rfl (Jf (Ja (hK2 (Je fun _ hK3 _=>(Je fun _ hK4 _=>(Jb (Jg (Jc rfl) rfl (Jg (Ei rfl rfl) rfl (Jf (Ja (hK4 (Jo rfl (fun h16=>?_) (fun h16=>?_)))))))))))))))))
 ·
  refine Je fun _ hK5 _=>(Jb (Jg (Jc rfl) rfl (Jg (Jd rfl) rfl (Jg (Jd rfl) rfl (Jf (Ja (hK5 (Jq (Jm (EF rfl (Res.tmp rfl) (Res.tmp rfl) fun w hH=>?_))))))))));replace hH:=hH.sublist (.cons _ (List.Sublist.refl _));rw [btV_n h16];exact ⟨none,0,rfl,(hH.own0 2 1).weaken (hlez2.trans hlf12) hw0 hw1⟩
 ·
  have h0:allC ad af m=0:=Decidable.not_not.1 h16;obtain ⟨hG,hm20,hwi⟩:=allC_y h0;have hwf:=haf.wfss;have hw:=hwf;have hA:=isAlg_ok hG hwf;have h8:=hA.hn;have hd:=alg_112 hG;refine Jk (Ja (hK3 (Je fun _ hK6 _=>(Jb (EQ (MK.lit0I u22 sz2) rfl fun qo18 co18=>(Jg (Jd rfl) rfl (Jf (Ja (hK6 (Je fun _ hK7 _=>(Je fun _ hK8 _=>(Jb (Jg (Jc rfl) rfl (Jg (Jz rfl rfl (nw _ (by omega))) rfl (Jg (Jc rfl) rfl (Jf ?_))))))))))))))));refine Ja (hK8 (Jl (JD (σ:=HP × List (Int × Lv) × Option Addr × Nat × Nat) (fun ⟨Hk,lsk,q,c,k⟩=>[(21,.int .i64 (k:Int)),(8,.slice q (btK ad af k).length c)]) (fun ⟨Hk,lsk,q,c,k⟩=>Hk) (fun ⟨Hk,lsk,q,c,k⟩=>own 2 1 q (btK ad af k).length c (intsC (btK ad af k))::cpx ln12 lsk::L) (fun ⟨Hk,lsk,q,c,k⟩=>Le Hf12 Hk∧(CpxOk Hk ad af (fun _=>False) lsk∧Nxt (fun _=>False) lsk)∧(k:Int)≤m+1) (fun ⟨Hk,lsk,q,c,k⟩=>(m+1 - (k:Int)).toNat) (_, [],qo18,co18,0) ⟨Le.refl _,⟨CpxOk.nil,Nxt.nil _⟩,by show ((0:Nat):Int)≤m+1;omega⟩ ⟨rfl,⟨rfl,trivial⟩⟩ rfl rfl ?_)));rintro ⟨Hk,lsk,q,c,k⟩ ⟨hlk,⟨hCk,hNk⟩,hk⟩ _ hAg0;replace had:=had.le hlk;replace haf:=haf.le hlk;replace pad:=pad.le hlk;replace paf:=paf.le hlk;replace pn120:=pn120.le hlk;replace pn121:=pn121.le hlk;refine Je fun _ hK9 _=>(Jb (Jg (JI rfl rfl) rfl (Jf (Ja (hK9 (Je fun _ hK10 _=>(Jo rfl (fun h22=>?_) (fun h22=>?_))))))))
  ·
   have hfk:fit3 ad (k:Int):=wi_f3 hwi (by omega) (by omega);have hcsl:=csS_len (n:=(k:Int)) hA h8 hd;have hbl:=btK_len (ds:=ad) (fs:=af) k;refine Jk (Ja (hK10 (Je fun _ hK11 _=>(Jl (Je fun _ hK12 _=>(Jb (Jg (Jc rfl) rfl (Jg (Jd rfl) rfl (Jf (Ja (hK12 (Jb (Jg (Jc rfl) rfl (Jg (Jc rfl) rfl (Jg (Jc rfl) rfl (Jx fn68 rfl rfl fun w hH=>(at_c pn120 pn121 pad paf had haf hd h8 (by omega) hA hfk (fun m hm hf=>hom_of hG hw h8 hd (by omega) hf) hCk hNk (hH.front (.s .z))).mono ?_))))))))))))))));rintro _ w ⟨Hf27,ls27,⟨b27,p27,⟨ql27,kl27,cl27⟩,⟨qm27,km27,cm27⟩,⟨qz27,kz27,cz27⟩,⟨qy27,ky27,cy27⟩,⟨qx27,kx27,cx27⟩⟩,hlf27,hC27,hN27,hx27,⟨hL27,hM27,hkp27⟩,rfl,hH⟩;refine ⟨_,rfl,fun a hF=>JP hF hH ?_⟩;replace had:=had.le hlf27;replace haf:=haf.le hlf27;replace pad:=pad.le hlf27;replace paf:=paf.le hlf27;replace pn120:=pn120.le hlf27;replace pn121:=pn121.le hlf27;replace hCk:=hCk.le hlf27;obtain rfl:kl27=(monL ad ((k:Int))).length:=(hC27.ok _ hx27).one.len;have hpw27:Pows Hf27 ql27 (monL ad ((k:Int))):=(hC27.ok _ hx27).one.pw;have hpl27:SumH Hf27 (.map (some p27)) (plM (monL ad ((k:Int)))):=(hC27.ok _ hx27).one.pl;obtain ⟨⟨e1,hz27⟩,⟨e2,hb27⟩,e3,hs27⟩:(kz27=(clS ad af ((k:Int))).length∧RowsR Hf27 qz27 (clS ad af ((k:Int))))∧(ky27=(bdS ad af ((k:Int))).length∧RowsR Hf27 qy27 (bdS ad af ((k:Int))))∧kx27=(csS ad af ((k:Int))).length∧RowsR Hf27 qx27 (csS ad af ((k:Int))):=hL27;subst e1 e2 e3;refine Jg (JH rfl) rfl (Jg (Js u95 rfl sz57 rfl) rfl (Jg (PR.loadCx (b:=b27) (k:=5) (v:=.slice qx27 (csS ad af ((k:Int))).length cx27) rfl At.z hx27 rfl rfl pl57) rfl (Jg (Jn u57 rfl rfl) rfl (EQ (MK.lit1I u22 ze2 sz2 rfl) rfl fun qo32 co32=>(J.appendOI u22 ze2 sz2 by2 rfl rfl (by simp only [List.length_singleton];omega) .z (.s .z) (fun _ _=>(.s .z)) rfl fun qo33 co33=>(Jg (Jd rfl) rfl (Jf (JE (Ja (hK11 (Jb (Jg (Jz rfl rfl (by first | exact nw _ (by omega) | rfl)) rfl (Jg (Jc rfl) rfl (Jf (Ja ?_)))))))))))))));refine JO .z (Jy .z (Jy (.s .z) ?_));exact hAg0 (Hf27,ls27,qo33,co33,k+1) ⟨(hlk.trans hlf27),⟨hC27,hN27⟩,by show ((k+1:Nat):Int)≤m+1;omega⟩ (by show (m+1 - ((k+1:Nat):Int)).toNat<(m+1 - (k:Int)).toNat;omega) 18 rfl rfl ⟨rfl,⟨(by rw [btK_succ];rfl),trivial⟩⟩ rfl (by dsimp only;rw [btK_succ])
  ·
   refine JF (Ji (Ji (JK (Ja (hK7 (Je fun _ hK13 _=>(Jb (Jg (Jc rfl) rfl (Jg (Jd rfl) rfl (Jg (Jd rfl) rfl (Jf (Ja (hK13 (Jq (EF rfl (Res.tmp rfl) (Res.tmp rfl) fun w hH=>?_)))))))))))))));replace hH:=hH.sublist (.cons_cons _ (.cons _ (List.Sublist.refl _)))
   have hke:k=(m+1).toNat:=by omega
   subst hke;rw [btV_y h0,h0];exact ⟨_,_,rfl,hH.weaken ((hlez2.trans hlf12).trans hlk) hw0 hw1⟩
theorem ag25:Agg Tryz.prog 25 2:=⟨_,u25,rfl,by kernel_rfl⟩
theorem fn14:Fn Tryz.prog 14:=⟨_,Tryz.func14,by kernel_rfl,rfl⟩
theorem fn17:Fn Tryz.prog 17:=⟨_,Tryz.func17,by kernel_rfl,rfl⟩
theorem fn20:Fn Tryz.prog 20:=⟨_,Tryz.func20,by kernel_rfl,rfl⟩
theorem fn22:Fn Tryz.prog 22:=⟨_,Tryz.func22,by kernel_rfl,rfl⟩
theorem fn23:Fn Tryz.prog 23:=⟨_,Tryz.func23,by kernel_rfl,rfl⟩
theorem fn25:Fn Tryz.prog 25:=⟨_,Tryz.func25,by kernel_rfl,rfl⟩
theorem btV_len {ds:List Int} {fs:List (List Term)} {m:Int}:(btV ds fs m).length≤1000:=by
 by_cases h:allC ds fs m=0
 ·rw [btV_y h,btK_len];have:=(allC_y h).2.1
  omega
 ·rw [btV_n h]
  simp
theorem lawBettiNumbers_c {B:World} {H0 H:HP} {L:List SA} {w:World} {qad qaf:Option Addr} {cad caf:Nat} {ad:List Int} {af:List (List Term)} {m:Int} (had:Ints H qad ad) (haf:Forms H qaf af) (hn:ad.length≤9223372036854775807∧af.length≤9223372036854775807) (hl : ∀i,i<af.length→(fm af i).length≤9223372036854775807) (hH:Hp B H0 H L w):Calls Tryz.prog 4 [.agg [.slice qad ad.length cad,.slice qaf af.length caf].toArray,.int .i64 m].toArray w fun e w'=>e = .returned (.bool true)∧Below B.heap.size B w':=by
 refine Ju Tryz.func4 rfl 101 rfl rfl [(0,.agg [.slice qad ad.length cad,.slice qaf af.length caf].toArray),(1,.int .i64 m)] rfl hH ?_;clear hH;have f1:=btV_len (m:=m) (ds:=ad) (fs:=af);refine Je fun _ hK1 _=>(Jb (Ef rfl rfl rfl fun g2=>(Jg (Jd rfl) rfl (Jf (Ja (hK1 (Je fun _ hK2 _=>(Jb (Jg (Jd rfl) rfl (Jf (Ja (hK2 (Je fun _ hK3 _=>(Jb (Jg (JC rfl At.z (by simpa [*] using ag25)) rfl (Jg (Jc rfl) rfl ?_))))))))))))))));refine Jx fn14 rfl rfl fun w hH=>(szAlgebra_c had haf (by omega) hl hH).mono ?_;rintro _ w ⟨rfl,hH⟩;refine ⟨_,rfl,fun a hF=>JP hF hH ?_⟩;refine Jg (Jd rfl) rfl (Jf (Ja (hK3 (Je fun _ hK4 _=>(Je fun _ hK5 _=>(Jb (Jg (Jc rfl) rfl (Jg (JI rfl rfl) rfl (Jf (Ja (hK5 (Jo rfl (fun h11=>?_) (fun h11=>?_)))))))))))))
 ·
  refine Je fun _ hK6 _=>(Jb (Jg (Jd rfl) rfl (Jf (Ja (hK6 (Jq (Jm (Jp rfl (Res.tmp rfl) fun w hH=>?_))))))));replace hH:=hH.tail
  first | exact ⟨rfl,hH.below⟩ | exact absurd rfl h11p | exact absurd rfl h11 | (exfalso;omega) | (simp at h11;done)
 ·
  have hsz:ad.length+af.length+tot af≤1048576:=by unfold szv at h11;split at h11 <;> omega
  have hl6 : ∀i,i<af.length→(fm af i).length≤1048576:=fun i hi=>by have:=tot_fm hi;omega
  refine Jk (Ja (hK4 (Je fun _ hK7 _=>(Jb (Jg (JC rfl At.z (by simpa [*] using ag25)) rfl (Jx fn17 rfl rfl fun w hH=>(toAlgebra_c had haf (by omega) hl6 hH).mono ?_))))));rintro _ w ⟨qdo23,cdo23,qfo23,cfo23,vso23,rfl,hH⟩;refine ⟨_,rfl,fun a hF=>JP hF hH ?_⟩;refine Jg (Jc rfl) rfl (Jx fn22 rfl rfl fun w hH=>hH.lend .z fun Hl1 hle1 hA1 hB1 hH=>hH.lend .z fun Hl2 hle2 hA2 hB2 hH=>(sBettiNumbers_c ((own_ints hA1).le hle2) (own_forms haf.wfss hA2) (by omega) (by omega) hl6 hH).mono ?_);rintro _ w ⟨qo25,co25,rfl,hH⟩;replace hH:=hB2 _ _ hH;replace hH:=hB1 _ _ hH;refine ⟨_,rfl,fun a hF=>JP hF hH ?_⟩;refine Jg (Jc rfl) rfl (Jg (JM rfl rfl) rfl (Jg (JM rfl rfl) rfl (Jg (Jd rfl) rfl (Jg (Jd rfl) rfl (Jf (Ja (hK7 (Je fun _ hK8 _=>(Jb (Jg (JC rfl (.s (.s (.s .z))) (by simpa [*] using ag25)) rfl (Jx fn17 rfl rfl fun w hH=>(toAlgebra_c had haf (by omega) hl6 hH).mono ?_)))))))))));rintro _ w ⟨qdo29,cdo29,qfo29,cfo29,vso29,rfl,hH⟩;refine ⟨_,rfl,fun a hF=>JP hF hH ?_⟩;refine JW ze35 rfl fun g8=>(JJ rfl rfl (by first | exact bytesC_one _ | exact intsC_one _ | exact Term.c_one _ | simp [Value.oneCell']) (by simpa [*] using sz35) (by simp [*]) At.z (Jf (Ja (hK8 (Je fun _ hK9 _=>(Jb (Jg (JC rfl At.z (by simpa [*] using ag35)) rfl (Jg (Jc rfl) rfl (Jx fn23 rfl rfl fun w hH=>hH.lend (.s .z) fun Hl1 hle1 hA1 hB1 hH=>hH.lend (.s .z) fun Hl2 hle2 hA2 hB2 hH=>(BettiNumbers_c ((own_ints hA1).le hle2) (own_forms haf.wfss hA2) (by omega) (by omega) hl6 hH).mono ?_)))))))));rintro _ w ⟨qo33,co33,rfl,hH⟩;replace hH:=hB2 _ _ hH;replace hH:=hB1 _ _ hH;refine ⟨_,rfl,fun a hF=>JP hF hH ?_⟩;refine Jg (Jc rfl) rfl (Jg (JM rfl rfl) rfl (Jg (JM rfl rfl) rfl (Jg (Jd rfl) rfl (Jg (Jd rfl) rfl (Jf (Ja (hK9 (Je fun _ hK10 _=>(Je fun _ hK11 _=>(Jb (Jg (Jc rfl) rfl (Jg (Jc rfl) rfl (Jx fn24 rfl rfl fun w hH=>hH.lend (.s (.s .z)) fun Hl1 hle1 hA1 hB1 hH=>hH.lend (.s (.s (.s (.s (.s .z))))) fun Hl2 hle2 hA2 hB2 hH=>(eqInt64S_c ((own_ints hA1).le hle2) (own_ints hA2) (by omega) hH).mono ?_)))))))))))));rintro _ w ⟨rfl,hH⟩;replace hH:=hB2 _ _ hH;replace hH:=hB1 _ _ hH;refine ⟨_,rfl,fun a hF=>JP hF hH ?_⟩;refine Jg (El rfl) rfl (Jg (Jc rfl) rfl (Eg (jd:=40) rfl (fun hg40=>?_) (fun hg40=>?_)))
  ·
   try have hg40p:=of_decide_eq_true hg40
   refine JT rfl rfl rfl hg40 (JT rfl rfl rfl hg40 (JT rfl rfl rfl hg40 (Jg (JZ rfl hg40 rfl) rfl (Jf (Ja (hK11 (Ey rfl (Je fun _ hK12 _=>(Jb (Jg (Jd rfl) rfl (Jf (Ja (hK12 (Jq (Jm (Jp rfl (Res.tmp rfl) fun w hH=>?_))))))))))))))));replace hH:=hH.tail;replace hH:=hH.tail;replace hH:=hH.tail;replace hH:=hH.tail;replace hH:=hH.tail;replace hH:=hH.tail;replace hH:=hH.tail;replace hH:=hH.tail
   first | exact ⟨rfl,hH.below⟩ | exact absurd rfl hg40p | exact absurd rfl hg40 | (exfalso;omega) | (simp at hg40;done)
  ·
   try have hg40p:=of_decide_eq_false hg40
   refine JX (Jc rfl) rfl rfl rfl hg40 (JX (Jc rfl) rfl rfl rfl hg40 (JX (Ei rfl rfl) rfl rfl rfl hg40 (Jg (JY rfl hg40 rfl) rfl (Jf (Ja (hK11 (Jo rfl (fun hc44=>?_) (fun hc44=>?_))))))))
   ·
    refine Je fun _ hK13 _=>(Jb (Jg (Jd rfl) rfl (Jf (Ja (hK13 (Jq (Jm (Jp rfl (Res.tmp rfl) fun w hH=>?_))))))));replace hH:=hH.tail;replace hH:=hH.tail;replace hH:=hH.tail;replace hH:=hH.tail;replace hH:=hH.tail;replace hH:=hH.tail;replace hH:=hH.tail;replace hH:=hH.tail
    first | exact ⟨rfl,hH.below⟩ | exact absurd rfl hc44p | exact absurd rfl hc44 | (exfalso;omega) | (simp at hc44;done)
   ·
    refine Jk (Ja (hK10 (Je fun _ hK14 _=>(Je fun _ hK15 _=>(Eu (Rs:=[_,_,_,_,_,_,_,_]) 5 [[], [], [1], [0,1,2], [0,1,2,3]] [[9], [12], [], [2,7,8], []] [[], [], [], [], []] rfl rfl (by kernel_rfl) ?_)))));apply Jr 1 rfl
    iterate 3 focus (intros;(conv=>lhs;simp only [Jh,Jv,JV,Jw,JL,eq_self,Nat.reduceEqDiff,reduceIte,Nat.reduceSub,Nat.reduceAdd,List.cons_append,List.nil_append]);all_goals rfl)
    ·
     intro gh X K zq zc zq2 zc2 zb zv hK;refine Jg (JC rfl At.z (by simpa [*] using ag35)) rfl (Jj ?_);exact hK zq zc zq2 zc2 zb zv
    ·
     intro gh gh' h
     rfl
    apply Jr 2 rfl
    iterate 3 focus (intros;(conv=>lhs;simp only [Jh,Jv,JV,Jw,JL,eq_self,Nat.reduceEqDiff,reduceIte,Nat.reduceSub,Nat.reduceAdd,List.cons_append,List.nil_append]);all_goals rfl)
    ·
     intro gh X K zq zc zq2 zc2 zb zv hK;refine Jg (JC rfl At.z (by simpa [*] using ag25)) rfl (Jj ?_);exact hK zq zc zq2 zc2 zb zv
    ·
     intro gh gh' h
     rfl
    apply GJ.st2 3 rfl
    iterate 3 focus (intros;(conv=>lhs;simp only [Jh,Jv,JV,Jw,JL,eq_self,Nat.reduceEqDiff,reduceIte,Nat.reduceSub,Nat.reduceAdd,List.cons_append,List.nil_append]);all_goals rfl)
    ·
     intro gh X K zq zc zq2 zc2 zb zv hK;refine Jx fn17 rfl rfl fun w hH=>(toAlgebra_c had haf (by omega) hl6 hH).mono ?_;rintro _ w ⟨qdo47,cdo47,qfo47,cfo47,vso47,rfl,hH⟩;refine ⟨_,rfl,fun a hF=>JP hF hH ?_⟩;refine Jj ?_;exact hK qdo47 cdo47 qfo47 cfo47 zb vso47
    ·
     intro gh gh' h;refine ⟨?_,?_,?_⟩ <;> rfl
    apply Jr 4 rfl
    iterate 3 focus (intros;(conv=>lhs;simp only [Jh,Jv,JV,Jw,JL,eq_self,Nat.reduceEqDiff,reduceIte,Nat.reduceSub,Nat.reduceAdd,List.cons_append,List.nil_append]);all_goals rfl)
    ·
     intro gh X K zq zc zq2 zc2 zb zv hK;refine Jx fn20 rfl rfl fun w hH=>hH.lend (.s (.s .z)) fun Hl1 hle1 hA1 hB1 hH=>hH.lend (.s (.s .z)) fun Hl2 hle2 hA2 hB2 hH=>hH.lend .z fun Hl3 hle3 hA3 hB3 hH=>hH.lend .z fun Hl4 hle4 hA4 hB4 hH=>(eqAlgebra_c ((((own_ints hA1).le hle2).le hle3).le hle4) (((own_forms haf.wfss hA2).le hle3).le hle4) ((own_ints hA3).le hle4) (own_forms haf.wfss hA4) (by omega) (by omega) hl hH).mono ?_;rintro _ w ⟨rfl,hH⟩;replace hH:=hB4 _ _ hH;replace hH:=hB3 _ _ hH;replace hH:=hB2 _ _ hH;replace hH:=hB1 _ _ hH;refine ⟨_,rfl,fun a hF=>JP hF hH ?_⟩;refine Jy (.s .z) (Jy (.s .z) (Jy (.s (.s (.s .z))) (Jy (.s (.s (.s .z))) (Jj ?_))));exact hK zq zc zq2 zc2 zb zv
    ·
     intro gh gh' h
     first | simp only [h 2 rfl] | rfl
    apply Jr 5 rfl
    iterate 3 focus (intros;(conv=>lhs;simp only [Jh,Jv,JV,Jw,JL,eq_self,Nat.reduceEqDiff,reduceIte,Nat.reduceSub,Nat.reduceAdd,List.cons_append,List.nil_append]);all_goals rfl)
    ·
     intro gh X K zq zc zq2 zc2 zb zv hK;refine Jg (El rfl) rfl (Jj ?_);exact hK zq zc zq2 zc2 zb zv
    ·
     intro gh gh' h
     first | simp only [h 2 rfl] | rfl
    apply Et [0,1,2,3,4] [0,1,2,3,4,5,6,7,8,9,10,11,12] foll0 rfl rfl rfl (by rfl)
    iterate 2 focus (intros;(conv=>lhs;simp only [Jh,Jv,JV,Jw,JL,eq_self,Nat.reduceEqDiff,reduceIte,Nat.reduceSub,Nat.reduceAdd,List.cons_append,List.nil_append]);all_goals rfl)
    intro gh;generalize (gh 2).c=cdo47;generalize (gh 2).c2=cfo47;generalize (gh 2).q=qdo47;generalize (gh 2).q2=qfo47;generalize (gh 2).vs=vso47;clear gh;refine Ja (hK15 (Eh rfl (fun hc49=>?_) (fun hc49=>?_)))
    ·
     refine Je fun _ hK16 _=>(Jb (Jg (Jd rfl) rfl (Jf (Ja (hK16 (Jq (Jm (Jp rfl (Res.tmp rfl) fun w hH=>?_))))))));replace hH:=hH.tail;replace hH:=hH.tail;replace hH:=hH.tail;replace hH:=hH.tail;replace hH:=hH.tail;replace hH:=hH.tail;replace hH:=hH.tail;replace hH:=hH.tail;replace hH:=hH.tail;replace hH:=hH.tail
     first | exact ⟨rfl,hH.below⟩ | exact absurd rfl hc49p | exact absurd rfl hc49 | (exfalso;omega) | (simp at hc49;done)
    ·
     refine Jk (Ja (hK14 (Je fun _ hK17 _=>(Jb (Jg (Jd rfl) rfl (Jf (Ja (hK17 (Je fun _ hK18 _=>(Jb (Jg (JC rfl (.s (.s (.s (.s (.s (.s .z)))))) (by simpa [*] using ag35)) rfl (Jg (Jc rfl) rfl (Jx fn25 rfl rfl fun w hH=>(markAlgebra_c (by omega) (by omega) ((hH.front (.s (.s (.s (.s (.s .z)))))).front (.s (.s (.s (.s (.s .z))))))).mono ?_)))))))))))));rintro _ w ⟨rfl,hH⟩;refine ⟨_,rfl,fun a hF=>JP hF hH ?_⟩;refine Jg (Jd rfl) rfl (Jf (Ja (hK18 (Je fun _ hK19 _=>(Je fun _ hK20 _=>(Jb (Jg (Jc rfl) rfl (Jg (JI rfl rfl) rfl (Jg (Jc rfl) rfl (Eg (jd:=55) rfl (fun hg55=>?_) (fun hg55=>?_)))))))))))
     ·
      try have hg55p:=of_decide_eq_true hg55
      refine JT rfl rfl rfl hg55 (JT rfl rfl rfl hg55 (JT rfl rfl rfl hg55 (JT rfl rfl rfl hg55 (Jg (JZ rfl hg55 rfl) rfl (Jg (Jc rfl) rfl (JT rfl rfl rfl rfl (JT rfl rfl rfl rfl (JT rfl rfl rfl rfl (Jg (JZ rfl rfl rfl) rfl (Jf (Ja (hK20 (Ey rfl (Je fun _ hK21 _=>(Jb ?_)))))))))))))));refine Jg (Jd rfl) rfl (Jf (Ja (hK21 (Jq (Jm (Jp rfl (Res.tmp rfl) fun w hH=>?_))))));replace hH:=hH.tail;replace hH:=hH.tail;replace hH:=hH.tail;replace hH:=hH.tail;replace hH:=hH.tail;replace hH:=hH.tail;replace hH:=hH.tail;replace hH:=hH.tail;replace hH:=hH.tail;replace hH:=hH.tail
      first | exact ⟨rfl,hH.below⟩ | exact absurd rfl hg55p | exact absurd rfl hg55 | (exfalso;omega) | (simp at hg55;done)
     ·
      try have hg55p:=of_decide_eq_false hg55
      refine JX (Jc rfl) rfl rfl rfl hg55 (JX (Jc rfl) rfl rfl rfl hg55 (J.gcall fn24 rfl rfl hg55 rfl rfl fun w hH=>hH.lend (.s (.s (.s (.s .z)))) fun Hl1 hle1 hA1 hB1 hH=>hH.lend (.s (.s (.s (.s .z)))) fun Hl2 hle2 hA2 hB2 hH=>(eqInt64S_c ((own_ints hA1).le hle2) (own_ints hA2) (by omega) hH).mono ?_));rintro _ w ⟨rfl,hH⟩;replace hH:=hB2 _ _ hH;replace hH:=hB1 _ _ hH;refine ⟨_,rfl,fun a hF=>JP hF hH ?_⟩;refine JX (El rfl) rfl rfl rfl hg55 (Jg (JY rfl hg55 rfl) rfl (Jg (Jc rfl) rfl (Eg (jd:=61) rfl (fun hg61=>?_) (fun hg61=>?_))))
      ·
       try have hg61p:=of_decide_eq_true hg61
       refine JT rfl rfl rfl hg61 (JT rfl rfl rfl hg61 (JT rfl rfl rfl hg61 (Jg (JZ rfl hg61 rfl) rfl (Jf (Ja (hK20 (Ey rfl (Je fun _ hK22 _=>(Jb (Jg (Jd rfl) rfl (Jf (Ja (hK22 (Jq (Jm (Jp rfl (Res.tmp rfl) fun w hH=>?_))))))))))))))));replace hH:=hH.tail;replace hH:=hH.tail;replace hH:=hH.tail;replace hH:=hH.tail;replace hH:=hH.tail;replace hH:=hH.tail;replace hH:=hH.tail;replace hH:=hH.tail;replace hH:=hH.tail;replace hH:=hH.tail
       first | exact ⟨rfl,hH.below⟩ | exact absurd rfl hg61p | exact absurd rfl hg61 | (exfalso;omega) | (simp at hg61;done)
      ·
       try have hg61p:=of_decide_eq_false hg61
       refine JX (Jc rfl) rfl rfl rfl hg61 (JX (Jc rfl) rfl rfl rfl hg61 (JX (Ei rfl rfl) rfl rfl rfl hg61 (Jg (JY rfl hg61 rfl) rfl (Jf (Ja (hK20 (Jo rfl (fun hc65=>?_) (fun hc65=>?_))))))))
       ·
        refine Je fun _ hK23 _=>(Jb (Jg (Jd rfl) rfl (Jf (Ja (hK23 (Jq (Jm (Jp rfl (Res.tmp rfl) fun w hH=>?_))))))));replace hH:=hH.tail;replace hH:=hH.tail;replace hH:=hH.tail;replace hH:=hH.tail;replace hH:=hH.tail;replace hH:=hH.tail;replace hH:=hH.tail;replace hH:=hH.tail;replace hH:=hH.tail;replace hH:=hH.tail
        first | exact ⟨rfl,hH.below⟩ | exact absurd rfl hc65p | exact absurd rfl hc65 | (exfalso;omega) | (simp at hc65;done)
       ·
        refine Jk (Ja (hK19 (Je fun _ hK24 _=>(Jb (Jg (Jd rfl) rfl (Jf (Ja (hK24 (Je fun _ hK25 _=>(Jb (Jg (Jc rfl) rfl (Jg (Jc rfl) rfl (Jx fn26 rfl rfl fun w hH=>(markInt64S_c (by omega) (hH.front .z)).mono ?_)))))))))))));rintro _ w ⟨rfl,hH⟩;refine ⟨_,rfl,fun a hF=>JP hF hH ?_⟩;refine Jg (Jd rfl) rfl (Jf (Ja (hK25 (Je fun _ hK26 _=>(Jb (Jg (Jd rfl) rfl (Jf (Ja (hK26 (Je fun _ hK27 _=>(Jb (Jg (Jc rfl) rfl (Jg (Jc rfl) rfl (Jx fn27 rfl rfl fun w hH=>hH.lend .z fun Hl1 hle1 hA1 hB1 hH=>(heldInt64S_c (own_mints hA1) (by omega) hH).mono ?_))))))))))))));rintro _ w ⟨rfl,hH⟩;replace hH:=hB1 _ _ hH;refine ⟨_,rfl,fun a hF=>JP hF hH ?_⟩;refine Jg (Jd rfl) rfl (Jf (Ja (hK27 (Je fun _ hK28 _=>(Je fun _ hK29 _=>(Jb (Jg (Jc rfl) rfl (Jg (JI rfl rfl) rfl (Jf (Ja (hK29 (Jo rfl (fun hc73=>?_) (fun hc73=>?_)))))))))))))
        ·
         refine Je fun _ hK30 _=>(Jb (Jg (Jd rfl) rfl (Jf (Ja (hK30 (Jq (Jm (Jp rfl (Res.tmp rfl) fun w hH=>?_))))))));replace hH:=hH.tail;replace hH:=hH.tail;replace hH:=hH.tail;replace hH:=hH.tail;replace hH:=hH.tail;replace hH:=hH.tail;replace hH:=hH.tail;replace hH:=hH.tail;replace hH:=hH.tail;replace hH:=hH.tail
         first | exact ⟨rfl,hH.below⟩ | exact absurd rfl hc73p | exact absurd rfl hc73 | (exfalso;omega) | (simp at hc73;done)
        ·
         refine Jk (Ja (hK28 (Je fun _ hK31 _=>(Je fun _ hK32 _=>(Jb (Jg (Jc rfl) rfl (Jg (Jc rfl) rfl (Jg (Ei rfl rfl) rfl (Jf (Ja (hK32 (Jo rfl (fun hc76=>?_) (fun hc76=>?_)))))))))))))
         ·
          refine Je fun _ hK33 _=>(Jb (Jg (Jd rfl) rfl (Jf (Ja (hK33 (Jq (Jm (Jp rfl (Res.tmp rfl) fun w hH=>?_))))))));replace hH:=hH.tail;replace hH:=hH.tail;replace hH:=hH.tail;replace hH:=hH.tail;replace hH:=hH.tail;replace hH:=hH.tail;replace hH:=hH.tail;replace hH:=hH.tail;replace hH:=hH.tail;replace hH:=hH.tail
          first | exact ⟨rfl,hH.below⟩ | exact absurd rfl hc76p | exact absurd rfl hc76 | (exfalso;omega) | (simp at hc76;done)
         ·
          refine Jk (Ja (hK31 (Je fun _ hK34 _=>(Jb (Jg (JC rfl (.s (.s (.s (.s (.s (.s (.s (.s (.s .z))))))))) (by simpa [*] using ag25)) rfl (Jx fn17 rfl rfl fun w hH=>(toAlgebra_c had haf (by omega) hl6 hH).mono ?_))))));rintro _ w ⟨qdo79,cdo79,qfo79,cfo79,vso79,rfl,hH⟩;refine ⟨_,rfl,fun a hF=>JP hF hH ?_⟩;refine Jg (Jc rfl) rfl (Jx fn23 rfl rfl fun w hH=>hH.lend .z fun Hl1 hle1 hA1 hB1 hH=>hH.lend .z fun Hl2 hle2 hA2 hB2 hH=>(BettiNumbers_c ((own_ints hA1).le hle2) (own_forms haf.wfss hA2) (by omega) (by omega) hl6 hH).mono ?_);rintro _ w ⟨qo81,co81,rfl,hH⟩;replace hH:=hB2 _ _ hH;replace hH:=hB1 _ _ hH;refine ⟨_,rfl,fun a hF=>JP hF hH ?_⟩;refine Jg (Jc rfl) rfl (Jg (JM rfl rfl) rfl (Jg (JM rfl rfl) rfl (Jg (Jd rfl) rfl (Jg (Jd rfl) rfl (Jf (Ja (hK34 (Je fun _ hK35 _=>(Je fun _ hK36 _=>(Jb (Jg (Jc rfl) rfl (Jg (Jc rfl) rfl (Jx fn24 rfl rfl fun w hH=>hH.lend (.s (.s .z)) fun Hl1 hle1 hA1 hB1 hH=>hH.lend (.s (.s (.s .z))) fun Hl2 hle2 hA2 hB2 hH=>(eqInt64S_c ((own_ints hA1).le hle2) (own_ints hA2) (by omega) hH).mono ?_)))))))))))));rintro _ w ⟨rfl,hH⟩;replace hH:=hB2 _ _ hH;replace hH:=hB1 _ _ hH;refine ⟨_,rfl,fun a hF=>JP hF hH ?_⟩;refine Jg (El rfl) rfl (Jg (Jc rfl) rfl (Eg (jd:=88) rfl (fun hg88=>?_) (fun hg88=>?_)))
          ·
           try have hg88p:=of_decide_eq_true hg88
           refine JT rfl rfl rfl hg88 (JT rfl rfl rfl hg88 (JT rfl rfl rfl hg88 (Jg (JZ rfl hg88 rfl) rfl (Jf (Ja (hK36 (Ey rfl (Je fun _ hK37 _=>(Jb (Jg (Jd rfl) rfl (Jf (Ja (hK37 (Jq (Jm (Jp rfl (Res.tmp rfl) fun w hH=>?_))))))))))))))));replace hH:=hH.tail;replace hH:=hH.tail;replace hH:=hH.tail;replace hH:=hH.tail;replace hH:=hH.tail;replace hH:=hH.tail;replace hH:=hH.tail;replace hH:=hH.tail;replace hH:=hH.tail;replace hH:=hH.tail;replace hH:=hH.tail;replace hH:=hH.tail;replace hH:=hH.tail
           first | exact ⟨rfl,hH.below⟩ | exact absurd rfl hg88p | exact absurd rfl hg88 | (exfalso;omega) | (simp at hg88;done)
          ·
           try have hg88p:=of_decide_eq_false hg88
           refine JX (Jc rfl) rfl rfl rfl hg88 (JX (Jc rfl) rfl rfl rfl hg88 (JX (Ei rfl rfl) rfl rfl rfl hg88 (Jg (JY rfl hg88 rfl) rfl (Jf (Ja (hK36 (Jo rfl (fun hc92=>?_) (fun hc92=>?_))))))))
           ·
            refine Je fun _ hK38 _=>(Jb (Jg (Jd rfl) rfl (Jf (Ja (hK38 (Jq (Jm (Jp rfl (Res.tmp rfl) fun w hH=>?_))))))));replace hH:=hH.tail;replace hH:=hH.tail;replace hH:=hH.tail;replace hH:=hH.tail;replace hH:=hH.tail;replace hH:=hH.tail;replace hH:=hH.tail;replace hH:=hH.tail;replace hH:=hH.tail;replace hH:=hH.tail;replace hH:=hH.tail;replace hH:=hH.tail;replace hH:=hH.tail
            first | exact ⟨rfl,hH.below⟩ | exact absurd rfl hc92p | exact absurd rfl hc92 | (exfalso;omega) | (simp at hc92;done)
           ·
            refine Jk (Ja (hK35 (Je fun _ hK39 _=>(Jb (Jg (Jd rfl) rfl (Jf (Ja (hK39 (Je fun _ hK40 _=>(Jb (Jg (Jc rfl) rfl (Jg (Jc rfl) rfl (Jx fn27 rfl rfl fun w hH=>hH.lend (.s (.s (.s (.s .z)))) fun Hl1 hle1 hA1 hB1 hH=>(heldInt64S_c (own_mints hA1) (by omega) hH).mono ?_)))))))))))));rintro _ w ⟨rfl,hH⟩;replace hH:=hB1 _ _ hH;refine ⟨_,rfl,fun a hF=>JP hF hH ?_⟩;refine Jg (Jd rfl) rfl (Jf (Ja (hK40 (Je fun _ hK41 _=>(Je fun _ hK42 _=>(Jb (Jg (Jc rfl) rfl (Jg (JI rfl rfl) rfl (Jf (Ja (hK42 (Jo rfl (fun hc97=>?_) (fun hc97=>?_)))))))))))))
            ·
             refine Je fun _ hK43 _=>(Jb (Jg (Jd rfl) rfl (Jf (Ja (hK43 (Jq (Jm (Jp rfl (Res.tmp rfl) fun w hH=>?_))))))));replace hH:=hH.tail;replace hH:=hH.tail;replace hH:=hH.tail;replace hH:=hH.tail;replace hH:=hH.tail;replace hH:=hH.tail;replace hH:=hH.tail;replace hH:=hH.tail;replace hH:=hH.tail;replace hH:=hH.tail;replace hH:=hH.tail;replace hH:=hH.tail;replace hH:=hH.tail
             first | exact ⟨rfl,hH.below⟩ | exact absurd rfl hc97p | exact absurd rfl hc97 | (exfalso;omega) | (simp at hc97;done)
            ·
             refine Jk (Ja (hK41 (Je fun _ hK44 _=>(Je fun _ hK45 _=>(Jb (Jg (Jc rfl) rfl (Jg (Jc rfl) rfl (Jg (Ei rfl rfl) rfl (Jf (Ja (hK45 (Jo rfl (fun hc100=>?_) (fun hc100=>?_)))))))))))))
             ·
              refine Je fun _ hK46 _=>(Jb (Jg (Jd rfl) rfl (Jf (Ja (hK46 (Jq (Jm (Jp rfl (Res.tmp rfl) fun w hH=>?_))))))));replace hH:=hH.tail;replace hH:=hH.tail;replace hH:=hH.tail;replace hH:=hH.tail;replace hH:=hH.tail;replace hH:=hH.tail;replace hH:=hH.tail;replace hH:=hH.tail;replace hH:=hH.tail;replace hH:=hH.tail;replace hH:=hH.tail;replace hH:=hH.tail;replace hH:=hH.tail
              first | exact ⟨rfl,hH.below⟩ | exact absurd rfl hc100p | exact absurd rfl hc100 | (exfalso;omega) | (simp at hc100;done)
             ·
              refine Jk (Ja (hK44 (Je fun _ hK47 _=>(Jb (Jg (Jd rfl) rfl (Jf (Ja (hK47 (Jq (Jp rfl (Res.tmp rfl) fun w hH=>?_))))))))));replace hH:=hH.tail;replace hH:=hH.tail;replace hH:=hH.tail;replace hH:=hH.tail;replace hH:=hH.tail;replace hH:=hH.tail;replace hH:=hH.tail;replace hH:=hH.tail;replace hH:=hH.tail;replace hH:=hH.tail;replace hH:=hH.tail;replace hH:=hH.tail;replace hH:=hH.tail
              first | exact ⟨rfl,hH.below⟩ | exact absurd rfl hc100p | exact absurd rfl hc100 | (exfalso;omega) | (simp at hc100;done)
end Go.Proofs.YthenedanhcnccaaGreat.G
namespace Go.Proofs.YthenedanhcnccaaGreat.fnExactBettiNumbers
open Go.ChangeShapes Go.WideShapes Go.ChangeAt Go.RowKit
open Go.Proofs.YthenedanhcnccaaGreat.G
theorem u25:Tryz.prog.underlying 25=some (TypeDesc.struct #[{name:="Degrees",type:=22,offset:=0,embedded:=false,tag:="",pkgPath:="",byteOffset:=0},{name:="Images",type:=23,offset:=1,embedded:=false,tag:="",pkgPath:="",byteOffset:=24}]):=by kernel_rfl
theorem u22:Tryz.prog.underlying 22=some (TypeDesc.slice 2):=by kernel_rfl
theorem u2:Tryz.prog.underlying 2=some (TypeDesc.int .i64):=by kernel_rfl
theorem u23:Tryz.prog.underlying 23=some (TypeDesc.slice 28):=by kernel_rfl
theorem u28:Tryz.prog.underlying 28=some (TypeDesc.struct #[{name:="Terms",type:=26,offset:=0,embedded:=false,tag:="",pkgPath:="",byteOffset:=0}]):=by kernel_rfl
theorem u26:Tryz.prog.underlying 26=some (TypeDesc.slice 155):=by kernel_rfl
theorem u155:Tryz.prog.underlying 155=some (TypeDesc.struct #[{name:="Monomial",type:=149,offset:=0,embedded:=false,tag:="",pkgPath:="",byteOffset:=0},{name:="Factor",type:=2,offset:=8,embedded:=false,tag:="",pkgPath:="",byteOffset:=8}]):=by kernel_rfl
theorem u149:Tryz.prog.underlying 149=some (TypeDesc.array 8 5):=by kernel_rfl
theorem u5:Tryz.prog.underlying 5=some (TypeDesc.int .u8):=by kernel_rfl
theorem u4:Tryz.prog.underlying 4=some (TypeDesc.bool):=by kernel_rfl
theorem own:ownKnob Tryz.prog.godebug=none:=by kernel_rfl
theorem lifted (os:Os) (started:os.Started) (H:Type) (enc:TypeId × Value→H):ReturnsInHanded {} Tryz.checked os 4 .any (Rows.fnExactBettiNumbersSpec.pre6 enc Tryz.prog Tryz.f4 Rows.fnExactBettiNumbersRow.domain false) (Rows.fnExactBettiNumbersSpec.post enc Tryz.prog Tryz.f4 false true false false):=by
 refine returnsInHanded_of_change_sized (C:=Tryz.checked) own started (by kernel_rfl) Tryz.func4
  (ChangeSpec.witness6 (enc:=enc) (C:=Tryz.checked) false ⟨#[],#[.agg #[.slice none 0 0,.slice none 0 0],.int .i64 0], []⟩ 12 (by kernel_rfl) (by kernel_rfl) (by kernel_rfl) (by kernel_rfl)) ?_
 intro W base args ds gs before hval0 hW hcnd hsz0 _;have hval : ∀(j:Nat) t v,Tryz.f4.params[j]? = some t→args[j]? = some v→Value.okWide Tryz.prog W .any base t v:=hval0;have hW':=hW;obtain ⟨p,q,hA0,hV,rfl,hfz,hnd⟩:=hW;have hA:DataW.TrodAll enc Tryz.prog W 0 (fun _=>true) true Tryz.f4.params.toList args.toList ds p:=hA0;rw [Tryz.params4] at hA hval;obtain ⟨v0,JV,d0,ds0,p0,q0,hargs,rfl,rfl,h0,r0⟩:=trodAll_cons hA;obtain ⟨v1,vs1,d1,ds1,p1,q1,rfl,rfl,rfl,h1,r1⟩:=trodAll_cons r0;obtain ⟨rfl,rfl,rfl⟩:=trodAll_nil r1
 obtain rfl:args = #[v0,v1]:=by cases args;simp_all
 obtain ⟨rfl,rfl⟩:=trodVars_none hV;obtain ⟨q0d,c0d,ds0,q0f,c0f,fs0,rfl,X0,F0,le0,fl0⟩:=openV_alg u25 rfl rfl rfl rfl (by kernel_rfl) (by kernel_rfl) (by kernel_rfl) u22 u2 (by kernel_rfl) u23 (by kernel_rfl) (fun n l y hy=>tr_form u28 rfl rfl (by kernel_rfl) (by kernel_rfl) u26 (by kernel_rfl) u155 rfl rfl rfl rfl u149 u5 (by kernel_rfl) (by kernel_rfl) u2 (by kernel_rfl) hy) (hval 0 25 v0 rfl rfl) h0;obtain ⟨a1,rfl,lo1,hi1⟩:=openV_int u2 (hval 1 2 v1 rfl rfl) h1;clear hA0 hval0 hsz0;refine ((lawBettiNumbers_c X0 F0 le0 fl0 (Hp.start (H:=hp W) fun _ _ h=>h)).mono fun e W' ⟨he,bel⟩=>?_);subst he;exact ⟨_,rfl,law_post (f:=Tryz.f4) (by kernel_rfl) (by kernel_rfl) rfl rfl u4 rfl hW' bel⟩
theorem joined:joinedFacts Tryz.prog 4 Tryz.f4 Rows.fnExactBettiNumbersSpec Rows.fnExactBettiNumbersRow=true:=by
 unfold joinedFacts;simp only [Bool.and_eq_true]
 repeat' apply And.intro
 all_goals first
  | with_reducible exact Facts.fEnter
  | with_reducible exact Facts.fLaid
  | with_reducible exact Facts.fMaps
  | with_reducible exact Facts.fHeard
  | (rw [Facts.fMake];rfl)
  | (rw [Facts.fLift];rfl)
  | (rw [Facts.fKeys];rfl)
  | (rw [Facts.fStops];rfl)
  | (rw [Facts.fStopK];rfl)
  | as_aux_lemma=>kernel_rfl
theorem over:Rows.fnExactBettiNumbersRow.holds Tryz.pinned (OpenSpec.ofChange Rows.fnExactBettiNumbersSpec):=
 OpenClaim.holds_of_wide 4 Tryz.f4 rfl rfl rfl rfl rfl rfl rfl ⟨rfl,rfl,rfl,rfl,rfl⟩ rfl rfl rfl rfl rfl (by as_aux_lemma=>kernel_rfl) Tryz.func4 joined
  (of_decide_eq_true (by as_aux_lemma=>kernel_rfl)) (by unfold Func.isWrapper;first | (rw [if_pos (by decide +kernel)];kernel_rfl) | (rw [if_neg (by decide +kernel)];exact ⟨rfl,rfl⟩))
  (fun os started H enc _=>lifted os started H enc)
theorem proved:Rows.FnExactBettiNumbersSaid:=over
#print axioms proved
end Go.Proofs.YthenedanhcnccaaGreat.fnExactBettiNumbers
namespace Go.Proofs.YthenedanhcnccaaGreat
theorem fnExactBettiNumbers_holds:Rows.FnExactBettiNumbersSaid:=fnExactBettiNumbers.proved
end Go.Proofs.YthenedanhcnccaaGreat
