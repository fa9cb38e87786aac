/- A part of the walk of one law: what the functions compute. No condition. -/
import Derived.Test.YtffgojlocbafhaaGreatRows
import Derived.Test.YtffgojlocbafhaaGreatProg
import Derived.WalkKit
import Derived.KernelRfl
import Derived.JoinedOf
import Derived.Maps.AppendAt
import Derived.Still
import Derived.ProofKit
import Derived.OpenShut
import Derived.StillTail
import Derived.Deep.Upon
import Derived.WalkSpells
import Derived.Maps.Range
import Derived.Laws.Entries
import Derived.DeepKeys4
import Derived.Laws.Concat
import Derived.Laws.IdiomStrings
import Derived.Laws.Strings
import Derived.Lib.ItoaNum
import Derived.Lib.Join
import Derived.Lib.LaidTab
import Derived.Lib.SplitLaws
import Derived.Lib.AtoiTie
import Derived.Lib.ParseIntBTie
import Derived.Laws.Strings2
import Derived.Laws.Strings3
import Derived.Laws.Slices
import Derived.Laws.StructEq
import Derived.ChangeOld
import Derived.Below
import Derived.SizedLaws
import Derived.Test.YtffgojlocbafhaaGreatPApac
set_option linter.unusedVariables false
set_option linter.unusedSimpArgs false
set_option maxRecDepth 10000
set_option maxHeartbeats 8000000
open Nat (reduceEqDiff reduceSub reduceAdd)
namespace Go.Proofs.YtffgojlocbafhaaGreat.G
open Go Go.RowKit
theorem fn69:Fn Tryz.prog 69:=⟨_,Tryz.func69,by kernel_rfl,rfl⟩
theorem fn74:Fn Tryz.prog 74:=⟨_,Tryz.func74,by kernel_rfl,rfl⟩
def frK (p:Pw) (k j:Nat):Pw:=(List.range 8).map fun t=>if t<j∧k≤t then 0 else p.getD t 0
def bkK (p:Pw) (k j:Nat):Pw:=(List.range 8).map fun t=>if t<j∧t≤k then 0 else p.getD t 0
@[simp] theorem frK_len (p:Pw) (k j:Nat):(frK p k j).length=8:=by simp [frK]
@[simp] theorem bkK_len (p:Pw) (k j:Nat):(bkK p k j).length=8:=by simp [bkK]
theorem frK_get {p:Pw} {k j t:Nat} (h:t<8):(frK p k j).getD t 0=if t<j∧k≤t then 0 else p.getD t 0:=by simp [frK,List.getD_eq_getElem?_getD,h]
theorem bkK_get {p:Pw} {k j t:Nat} (h:t<8):(bkK p k j).getD t 0=if t<j∧t≤k then 0 else p.getD t 0:=by simp [bkK,List.getD_eq_getElem?_getD,h]
theorem frK_zero {p:Pw} (hp:p.length=8) (k:Nat):frK p k 0=p:=list8 (by simp) hp fun t ht=>by rw [frK_get ht,if_neg (by omega)]
theorem bkK_zero {p:Pw} (hp:p.length=8) (k:Nat):bkK p k 0=p:=list8 (by simp) hp fun t ht=>by rw [bkK_get ht,if_neg (by omega)]
theorem frK_end (p:Pw) (k:Nat):frK p k 8=aheadP p k:=list8 (by simp) (by simp) fun t ht=>by
 rw [frK_get ht,aheadP_get ht]
 by_cases h:t<k
 ·rw [if_neg (by omega),if_pos h]
 ·rw [if_pos (by omega),if_neg h]
theorem bkK_end (p:Pw) (k:Nat):bkK p k 8=behP p (k+1):=list8 (by simp) (by simp) fun t ht=>by
 rw [bkK_get ht,behP_get ht]
 by_cases h:t<k+1
 ·rw [if_pos (by omega),if_pos h]
 ·rw [if_neg (by omega),if_neg h]
theorem frK_yes {p:Pw} {k j:Nat} (hj:j<8) (h:k≤j):(frK p k j).set j 0=frK p k (j+1):=list8 (by simp) (by simp) fun t ht=>by
 rw [getD_set8,frK_get ht,frK_get ht]
 by_cases e:j=t
 ·subst e
  rw [if_pos ⟨rfl,by simpa using hj⟩,if_pos (by omega)]
 ·rw [if_neg fun h=>e h.1]
  by_cases h2:t<j∧k≤t
  ·rw [if_pos h2,if_pos (by omega)]
  ·rw [if_neg h2,if_neg (by omega)]
theorem frK_no {p:Pw} {k j:Nat} (h : ¬k≤j):frK p k j=frK p k (j+1):=list8 (by simp) (by simp) fun t ht=>by
 rw [frK_get ht,frK_get ht,if_neg (by omega),if_neg (by omega)]
theorem bkK_yes {p:Pw} {k j:Nat} (hj:j<8) (h:j≤k):(bkK p k j).set j 0=bkK p k (j+1):=list8 (by simp) (by simp) fun t ht=>by
 rw [getD_set8,bkK_get ht,bkK_get ht]
 by_cases e:j=t
 ·subst e
  rw [if_pos ⟨rfl,by simpa using hj⟩,if_pos (by omega)]
 ·rw [if_neg fun h=>e h.1]
  by_cases h2:t<j∧t≤k
  ·rw [if_pos h2,if_pos (by omega)]
  ·rw [if_neg h2,if_neg (by omega)]
theorem bkK_no {p:Pw} {k j:Nat} (h : ¬j≤k):bkK p k j=bkK p k (j+1):=list8 (by simp) (by simp) fun t ht=>by
 rw [bkK_get ht,bkK_get ht]
 by_cases h2:t<j∧t≤k
 ·rw [if_pos h2,if_pos (by omega)]
 ·rw [if_neg h2,if_neg (by omega)]
theorem aheadP_pok {M:Int} {p:Pw} (h:Pok M p) (k:Nat):Pok M (aheadP p k):=⟨by simp,fun j=>by
 have:=h.bd j
 rcases Nat.lt_or_ge j 8 with hj | hj
 ·rw [aheadP_get hj]
  split <;> omega
 ·rw [getD_ge (by simp;omega)]
  omega⟩
theorem Pok.mn {M:Int} {p:Pw} (h:Pok M p) (hM:M≤255):Mono p:=⟨h.len,(h.mono hM).bd⟩
theorem wsum_ahead {ds p:Pw} {k:Nat} : ∀{n:Nat},n≤8→wsum ds (aheadP p k) n=wsum ds p (min n k)
 | 0,_=>by simp [wsum]
 | n+1,h=>by
  simp only [wsum]
  rw [wsum_ahead (by omega),aheadP_get (by omega)]
  by_cases hk:n<k
  ·rw [if_pos hk,Nat.min_eq_left (by omega),Nat.min_eq_left (by omega)]
   rfl
  ·rw [if_neg hk,Nat.min_eq_right (by omega),Nat.min_eq_right (by omega),Int.mul_zero,Int.add_zero]
theorem dsg_wsum {ds p:Pw} (hd : ∀j,0≤ds.getD j 0∧ds.getD j 0≤12) (hp : ∀j,0≤p.getD j 0) : ∀{k:Nat},k≤ds.length→dsg ds p k=if wsum ds p k % 2=1 then -1 else 1
 | 0,_=>by simp [dsg,wsum]
 | k+1,h=>by
  have ih:=dsg_wsum hd hp (k:=k) (by omega)
  have e1:=Int.tmod_eq_emod_of_nonneg (b:=2) (hd k).1
  have e2:=Int.tmod_eq_emod_of_nonneg (b:=2) (hp k)
  have em:=Int.mul_emod (ds.getD k 0) (p.getD k 0) 2
  have e:wsum ds p (k+1)=wsum ds p k+ds.getD k 0 * p.getD k 0:=rfl
  by_cases hc:(ds.getD k 0).tmod 2=1∧(p.getD k 0).tmod 2=1
  ·rw [show ds.getD k 0 % 2=1 by omega,show p.getD k 0 % 2=1 by omega] at em
   rw [← dsg_yes (by omega) hc.1 hc.2,ih]
   by_cases c:wsum ds p k % 2=1
   ·rw [if_pos c,if_neg (by omega)];rfl
   ·rw [if_neg c,if_pos (by omega)];rfl
  ·have em2:(ds.getD k 0 * p.getD k 0) % 2=0:=by
    rcases (show ds.getD k 0 % 2=0∨ds.getD k 0 % 2=1 by omega) with a | a <;> rcases (show p.getD k 0 % 2=0∨p.getD k 0 % 2=1 by omega) with b | b <;> rw [a,b] at em <;> omega
   rw [← dsg_no (fun h=>hc h.2),ih]
   by_cases c:wsum ds p k % 2=1
   ·rw [if_pos c,if_pos (by omega)]
   ·rw [if_neg c,if_neg (by omega)]
theorem wsum_nn {ds p:Pw} (hd : ∀j,0≤ds.getD j 0∧ds.getD j 0≤12) (hp : ∀j,0≤p.getD j 0) : ∀k,0≤wsum ds p k
 | 0=>by simp [wsum]
 | k+1=>by
  have h1:=wsum_nn hd hp k
  have h2:=Int.mul_nonneg (hd k).1 (hp k)
  simp only [wsum]
  omega
theorem sg_neg {ds p:Pw} {k:Nat} (hn:ds.length≤8) (hd : ∀j,0≤ds.getD j 0∧ds.getD j 0≤12) (hp : ∀j,0≤p.getD j 0) (hk:k<ds.length) (h:(wsum ds (aheadP p k) ds.length).tmod 2≠0):dsg ds p k = -1:=by
 rw [wsum_ahead hn,Nat.min_eq_right (by omega)] at h;rw [dsg_wsum hd hp (by omega),if_pos];have:=Int.tmod_eq_emod_of_nonneg (b:=2) (show 0≤wsum ds p k from wsum_nn hd hp k)
 omega
theorem sg_pos {ds p:Pw} {k:Nat} (hn:ds.length≤8) (hd : ∀j,0≤ds.getD j 0∧ds.getD j 0≤12) (hp : ∀j,0≤p.getD j 0) (hk:k<ds.length) (h : ¬(wsum ds (aheadP p k) ds.length).tmod 2≠0):dsg ds p k=1:=by
 rw [wsum_ahead hn,Nat.min_eq_right (by omega)] at h;rw [dsg_wsum hd hp (by omega),if_neg];have:=Int.tmod_eq_emod_of_nonneg (b:=2) (show 0≤wsum ds p k from wsum_nn hd hp k)
 omega
theorem addS_one (p:Pw):addS [] p 1=[(p,1)]:=by
 simp only [addS];rw [fld_id (by omega),if_neg (by omega)]
theorem one_wf {p:Pw} (h:Mono p):Wfs (ofS (addS [] p 1)):=by
 rw [addS_one]
 exact fun t ht=>by
  simp [ofS] at ht
  subst ht;exact ⟨⟨h.len,h.bd⟩,by show -9223372036854775808≤(1:Int)∧(1:Int)≤9223372036854775807;omega⟩
theorem one_g {M:Int} {p:Pw} (h:Pok M p):Gok M (toS (ofS (addS [] p 1))):=by
 rw [toS_ofS,addS_one];exact (Sok.one h (by omega)).g
theorem one_kex {ds p:Pw} (h:Ex ds p):KEx ds (toS (ofS (addS [] p 1))):=by
 rw [toS_ofS,addS_one];intro x hx
 simp at hx
 rw [hx];exact h
theorem one_len (p:Pw):(ofS (addS [] p 1)).length=1:=by rw [addS_one];rfl
theorem Ex.le {ds p q:Pw} (h:Ex ds p) (hq : ∀j,0≤q.getD j 0∧q.getD j 0≤p.getD j 0):Ex ds q:=
 ⟨fun i hi=>by have:=h.out i hi;have:=hq i;omega,fun i hi ho=>by have:=h.odd i hi ho;have:=hq i;omega⟩
theorem leftP_ex {ds p:Pw} {M:Int} (hp:Pok M p) (h:Ex ds p) {k:Nat} (hk:0<p.getD k 0):Ex ds (leftP p k):=h.le fun j=>by
 have b:=hp.bd j
 have c:=hp.bd k
 unfold leftP
 rw [getD_set8]
 split
 ·rename_i e
  rw [← e.1]
  omega
 ·rcases Nat.lt_or_ge j 8 with hj | hj
  ·rw [aheadP_get hj]
   split <;> omega
  ·rw [getD_ge (by simp;omega)]
   omega
theorem behP_ex {ds p:Pw} {M:Int} (hp:Pok M p) (h:Ex ds p) (k:Nat):Ex ds (behP p k):=h.le fun j=>by
 have b:=hp.bd j
 rcases Nat.lt_or_ge j 8 with hj | hj
 ·rw [behP_get hj]
  split <;> omega
 ·rw [getD_ge (by simp;omega)]
  omega
theorem dT_len (ds:Pw) (im:Sm) (p:Pw) (k:Nat):(dT ds im p k).length≤im.length:=by
 unfold dT;have h1:=times_len ds (timesS ds [(leftP p k,1)] im) [(behP p (k+1),1)];have h2:=times_len ds [(leftP p k,1)] im;simp only [List.length_singleton] at h1 h2
 omega
theorem dP_len {ds:Pw} {fs:List (List Term)} {x:Pw × Int} {k:Nat} (hL : ∀i,i<fs.length→(fm fs i).length≤10000) (hk:0<x.1.getD k 0→k<fs.length):(dP ds fs x k).length≤10000:=by
 unfold dP
 split
 ·rename_i h
  have h1:=dT_len ds (toS (fm fs k)) x.1 k;have h2:=hL k (hk h);rw [toS_len] at h1;unfold scl;rw [List.length_map]
  omega
 ·simp
theorem dLk_len {ds:Pw} {fs:List (List Term)} {x:Pw × Int} (hL : ∀i,i<fs.length→(fm fs i).length≤10000) (ho : ∀k,0<x.1.getD k 0→k<fs.length) : ∀k,(dLk ds fs x k).length≤k * 10000
 | 0=>by simp [dLk]
 | k+1=>by
  have h1:=dLk_len (ds:=ds) hL ho k
  have h2:=dP_len (ds:=ds) hL (ho k)
  rw [dLk_succ,List.length_append]
  omega
theorem dAll_len {ds:Pw} {fs:List (List Term)} (hL : ∀i,i<fs.length→(fm fs i).length≤10000) : ∀{s:Sm},Occ fs.length s→(dAll ds fs s).length≤s.length * 80000
 | [],_=>by simp [dAll]
 | x::s,ho=>by
  have h1:=dAll_len (ds:=ds) hL (s:=s) fun y hy=>ho y (by simp [hy])
  have h2:=dLk_len (ds:=ds) hL (ho x (by simp)) 8
  unfold dAll at h1 ⊢
  rw [List.flatMap_cons,List.length_append,List.length_cons]
  omega
theorem dAll_take {ds:Pw} {fs:List (List Term)} {f:List Term} {i:Nat} (hi:i<f.length):dAll ds fs (toS (f.take (i+1)))=dAll ds fs (toS (f.take i))++dLk ds fs ((tm f i).mono,(tm f i).fac) 8:=by
 rw [toS_take hi];unfold dAll;rw [List.flatMap_append]
 simp
theorem dLk_same {ds:Pw} {fs:List (List Term)} {x:Pw × Int} {n:Nat} (h : ∀k,n≤k→x.1.getD k 0=0) : ∀m,dLk ds fs x (n+m)=dLk ds fs x n
 | 0=>rfl
 | m+1=>by
  rw [← Nat.add_assoc,dLk_succ,dLk_same h m]
  unfold dP
  rw [if_neg (by rw [h _ (by omega)];omega),List.append_nil]
theorem dLk_8 {ds:Pw} {fs:List (List Term)} {x:Pw × Int} (hn:ds.length≤8) (h:Ex ds x.1):dLk ds fs x ds.length=dLk ds fs x 8:=by
 rw [← dLk_same (ds:=ds) (fs:=fs) (x:=x) (n:=ds.length) h.out (8 - ds.length),Nat.add_sub_cancel' hn]
theorem Ex.occ {ds:Pw} {s:Sm} {n:Nat} (h:KEx ds s) (hl:n=ds.length):Occ n s:=fun x hx i hi=>by
 have:=(h x hx).out i
 omega
theorem toS_tk (ts:List Term) (k:Nat):toS (ts.take k)=(toS ts).take k:=by simp [toS,List.map_take]
theorem Sok.tk {M:Int} {ts:List Term} (h:Sok M (toS ts)) (k:Nat):Sok M (toS (ts.take k)):=by
 rw [toS_tk];exact ⟨h.srt.sublist (List.take_sublist _ _),fun x hx=>h.key x (List.mem_of_mem_take hx),fun x hx=>h.val x (List.mem_of_mem_take hx)⟩
theorem Occ.tk {n:Nat} {ts:List Term} (h:Occ n (toS ts)) (k:Nat):Occ n (toS (ts.take k)):=by
 rw [toS_tk];exact fun x hx=>h x (List.mem_of_mem_take hx)
theorem d1_sok {ad:Pw} {af:List (List Term)} {f:List Term} {Mi Ms:Int} (hf:Fok Mi af) (hs:Sok Ms (toS f)) (ho:Occ af.length (toS f)) (i:Nat):Sok (Ms+Mi+Ms) (acc [] (dAll ad af (toS (f.take i)))):=Sok.nil.acc (dAll_pok (hs.tk i) hf (ho.tk i))
theorem d2_sok {ad:Pw} {af:List (List Term)} {f:List Term} {Mi Ms:Int} (hf:Fok Mi af) (hs:Sok Ms (toS f)) (ho:Occ af.length (toS f)) {i:Nat} (hi:i<f.length) (k:Nat):Sok (Ms+Mi+Ms) (acc [] (dAll ad af (toS (f.take i))++dLk ad af ((tm f i).mono,(tm f i).fac) k)):=Sok.nil.acc fun z hz=>by
 rcases List.mem_append.1 hz with h | h
 ·exact dAll_pok (hs.tk i) hf (ho.tk i) z h
 ·exact dLk_pok (hs.key _ (toS_at hi)) hf (ho _ (toS_at hi)) z h
theorem d2_len {ad:Pw} {af:List (List Term)} {f:List Term} (hL : ∀i,i<af.length→(fm af i).length≤10000) (ho:Occ af.length (toS f)) (hlf:f.length≤10000) {i k:Nat} (hi:i<f.length) (hk:k≤8):(acc [] (dAll ad af (toS (f.take i))++dLk ad af ((tm f i).mono,(tm f i).fac) k)).length≤900000000:=by
 have h1:=acc_len (dAll ad af (toS (f.take i))++dLk ad af ((tm f i).mono,(tm f i).fac) k) [];have h2:=dAll_len (ds:=ad) hL (ho.tk i);have h3:=dLk_len (ds:=ad) hL (ho _ (toS_at hi)) k;rw [toS_len,List.length_take_of_le (by omega)] at h2;rw [List.length_append,List.length_nil] at h1
 omega
theorem fac_neg {ds p:Pw} {k:Nat} {x:Int} (h:dsg ds p k = -1):fld (dsg ds p k * x * p.getD k 0)=fld (0 - x * p.getD k 0):=by rw [h];simp only [Int.neg_mul,Int.one_mul,Int.zero_sub]
theorem fac_pos {ds p:Pw} {k:Nat} {x:Int} (h:dsg ds p k=1):fld (dsg ds p k * x * p.getD k 0)=fld (x * p.getD k 0):=by rw [h,Int.one_mul]
theorem l02D_c {B:World} {H0 H:HP} {L:List SA} {w:World} {qad qaf:Option Addr} {cad caf:Nat} {ad:List Int} {af:List (List Term)} {qf:Option Addr} {cf:Nat} {f:List Term} {Mi Ms:Int} (had:Ints H qad ad) (haf:Forms H qaf af) (hf:Terms H qf f) (hn:ad.length≤8) (hd : ∀j,0≤ad.getD j 0∧ad.getD j 0≤12) (hf9:Fok Mi af) (hl:af.length=ad.length) (hk9 : ∀i,i<af.length→KEx ad (toS (fm af i))) (hs:Sok Ms (toS f)) (hfk:KEx ad (toS f)) (hM:0≤Mi∧0≤Ms∧Ms+Mi+Ms≤255) (hL : ∀i,i<af.length→(fm af i).length≤10000) (hlf:f.length≤10000) (hH:Hp B H0 H L w):Calls Tryz.prog 54 [.agg [.slice qad ad.length cad,.slice qaf af.length caf].toArray,.agg [.slice qf f.length cf].toArray].toArray w fun e w'=>∃q c,e = .returned (.agg [.slice q (ofS (dS ad af (toS f))).length c].toArray)∧Hp B H0 H (own 52 9 q (ofS (dS ad af (toS f))).length c (tsC (ofS (dS ad af (toS f))))::L) w':=by
 refine JB Tryz.func54 rfl 103 rfl rfl [(0,.agg [.slice qad ad.length cad,.slice qaf af.length caf].toArray),(1,.agg [.slice qf f.length cf].toArray)] rfl hH ?_;clear hH;have hoc:=Ex.occ hfk hl;refine Je fun _ hK1 _=>(Jb (Eg rfl rfl rfl fun g2=>(Eg rfl rfl rfl fun g3=>(JM ze43 rfl fun g4=>(Jf (Ja (hK1 (Je fun _ hK2 _=>(Jb (ED 52 9 (Jg (Ea bz43) rfl (JM ze43 rfl fun g5=>(Jr rfl rfl (by first | exact bytesC_one _ | exact intsC_one _ | exact Term.c_one _ | simp [Value.oneCell']) (by simpa [*] using sz43) (by simp [*]) At.z (Jf (Ja (hK2 ?_))))))))))))))));refine Je fun _ hK3 _=>(Je fun _ hK4 _=>(Jb (Jg (Jd rfl) rfl (Jf (Ja (hK4 (Jp (JH (σ:=Option Addr × Nat × Nat) (fun ⟨q,c,i⟩=>[(6,.int .i64 (i:Int))]) (fun ⟨q,c,i⟩=>H) (fun ⟨q,c,i⟩=>obj g5 (.cells [.slice q (ofS (acc [] (dAll ad af (toS (f.take i))))).length c].toArray 43 (0,0))::own 52 9 q (ofS (acc [] (dAll ad af (toS (f.take i))))).length c (tsC (ofS (acc [] (dAll ad af (toS (f.take i))))))::obj g4 (.cells [.slice none 0 0].toArray 43 (0,0))::obj g3 (.cells [.slice qf f.length cf].toArray 43 (0,0))::obj g2 (.cells [.slice qad ad.length cad,.slice qaf af.length caf].toArray 27 (0,0))::L) (fun ⟨q,c,i⟩=>i≤f.length) (fun ⟨q,c,i⟩=>f.length - i) (none,0,0) (by show 0≤f.length;omega) ⟨rfl,trivial⟩ rfl rfl ?_))))))));rintro ⟨q,c,i⟩ hI _ hAg0;have hi:=hI;have wfO:=(d1_sok (ad:=ad) hf9 hs hoc i).wf (by omega);refine Je fun _ hK5 _=>(Je fun _ hK6 _=>(Jb (Jg (Jc rfl) rfl (Jg (Jt u43 rfl sz41 rfl) rfl (Jg (Jv rfl (.s (.s (.s .z))) rfl pl41) rfl (Jg (Jq u41 rfl rfl) rfl (Jg (JV rfl rfl) rfl (Jf (Ja (hK6 (Jm rfl (fun h20=>?_) (fun h20=>?_))))))))))))
 ·
  have hxi:=toS_at (ts:=f) (k:=i) (by omega);have hxp:=hs.key _ hxi;have hxv:=hs.val _ hxi;have hxe:=hfk _ hxi;simp only at hxp hxv hxe;have hx8:=hxp.len;have hxn : ∀j,0≤(tm f i).mono.getD j 0:=fun j=>(hxp.bd j).1;refine Jk (Ja (hK5 (Je fun _ hK7 _=>(Jp (Je fun _ hK8 _=>(Jb (Jg (Jt u43 rfl sz41 rfl) rfl (Jg (Jv rfl (.s (.s (.s .z))) rfl pl41) rfl (Jg (Jc rfl) rfl (Jg (Eo u41 sz52 rfl rfl rfl (by omega) hf.sm) rfl (Jg (Ep u52 rfl sz50 rfl (hf.sm (i:=i) (by omega))) rfl (Jg (JO rfl (hf.mono (by omega)) (hf.sm (i:=i) (by omega)) (by rw [bytesC_length,(hf.wf _ (by omega)).mono.len];exact ag50)) rfl (JM ze50 rfl fun g7=>(Jr rfl rfl (by first | exact bytesC_one _ | exact intsC_one _ | exact Term.c_one _ | simp [Value.oneCell']) (by simpa [*] using sz50) (by simp [*]) At.z (Jf ?_)))))))))))))));refine Ja (hK8 (Je fun _ hK9 _=>(Jb (Jg (Jd rfl) rfl (Jf (Ja (hK9 (Jp (JH (σ:=Option Addr × Nat × Nat) (fun ⟨q1,c1,k⟩=>[(8,.int .i64 (k:Int))]) (fun ⟨q1,c1,k⟩=>H) (fun ⟨q1,c1,k⟩=>obj g7 (.cells (bytesC ((tm f i).mono)).toArray 50 (0,0))::obj g5 (.cells [.slice q1 (ofS (acc [] (dAll ad af (toS (f.take i))++dLk ad af ((tm f i).mono,(tm f i).fac) k))).length c1].toArray 43 (0,0))::own 52 9 q1 (ofS (acc [] (dAll ad af (toS (f.take i))++dLk ad af ((tm f i).mono,(tm f i).fac) k))).length c1 (tsC (ofS (acc [] (dAll ad af (toS (f.take i))++dLk ad af ((tm f i).mono,(tm f i).fac) k))))::obj g4 (.cells [.slice none 0 0].toArray 43 (0,0))::obj g3 (.cells [.slice qf f.length cf].toArray 43 (0,0))::obj g2 (.cells [.slice qad ad.length cad,.slice qaf af.length caf].toArray 27 (0,0))::L) (fun ⟨q1,c1,k⟩=>k≤ad.length) (fun ⟨q1,c1,k⟩=>ad.length - k) (q,c,0) (by show 0≤ad.length;omega) ⟨rfl,trivial⟩ rfl (by simp only [dLk,List.range_zero,List.flatMap_nil,List.append_nil]) ?_)))))))));rintro ⟨q1,c1,k⟩ hkI _ hAg1;have hk:=hkI;have wfO:=(d2_sok (ad:=ad) hf9 hs hoc (i:=i) (by omega) k).wf (by omega);refine Je fun _ hK10 _=>(Je fun _ hK11 _=>(Jb (Jg (Jc rfl) rfl (Jg (Jt u27 rfl sz24 rfl) rfl (Jg (Jv rfl (.s (.s (.s (.s (.s .z))))) rfl pl24) rfl (Jg (Jq u24 rfl rfl) rfl (Jg (JV rfl rfl) rfl (Jf (Ja (hK11 (Jm rfl (fun h33=>?_) (fun h33=>?_))))))))))))
  ·
   have hkl:k<af.length:=by omega
   have hpk:=hxp.bd k;refine Jk (Ja (hK10 (Je fun _ hK12 _=>(Jp (Je fun _ hK13 _=>(Je fun _ hK14 _=>(Jb (Jg (Jc rfl) rfl (Jg (JW u50 sz5 rfl rfl rfl (by omega)) rfl (Jg (Jv rfl At.z (bytesC_get (by omega)) pl5) rfl (Jg (Ef rfl rfl) rfl (Jf (Ja (hK14 (Jm rfl (fun h39=>?_) (fun h39=>?_))))))))))))))))
   ·
    refine JI (Jl (JT (Ja (hK12 (Jb (Jg (Jc rfl) rfl (Jg (Jy rfl rfl (by first | exact nw _ (by omega) | rfl)) rfl (Jg (Jd rfl) rfl (Jf (Ja ?_))))))))));exact hAg1 (q1,c1,k+1) (by show k+1≤ad.length;omega) (by show ad.length - (k+1)<ad.length - k;omega) 13 rfl rfl ⟨rfl,trivial⟩ rfl (by simp only [acc_dN (ds:=ad) (fs:=af) (x:=((tm f i).mono,(tm f i).fac)) (k:=k) (show ¬0<(tm f i).mono.getD k 0 by omega)])
   ·
    have hpos:0<(tm f i).mono.getD k 0:=by omega
    have hlp:=leftP_pok hxp hpos;have hfp:=aheadP_pok hxp k;have hbp:=behP_pok hxp (k+1);have hlm:=hlp.mn (by omega);have hfm:=hfp.mn (by omega);have hbm:=hbp.mn (by omega);have hle:=leftP_ex hxp hxe hpos;have hbe:=behP_ex hxp hxe (k+1);have mb:=mul_sb (b:=(tm f i).mono.getD k 0) (B:=255) (show -10006≤(tm f i).fac∧(tm f i).fac≤10006 by omega) (by omega);have gt1:=gtimes (ds:=ad) (Sok.one hlp (k:=1) (by omega)).g (hf9 k hkl).1.g;have gt2:=gtimes (ds:=ad) (gt1.g) (Sok.one hbp (k:=1) (by omega)).g;have l9:=hL k hkl;have l8:=d2_len (ad:=ad) hL hoc hlf (i:=i) (k:=k) (by omega) (by omega);refine Jk (Ja (hK13 (Je fun _ hK15 _=>(Ev (Rs:=[_,_,_,_,_,_]) 6 [[], [], [], [], [0,2,3], [0,1,2,3,4]] [[6], [6], [], [], [], []] [[], [], [], [], [2], [3]] rfl rfl (by kernel_rfl) ?_))));apply Jw 1 rfl
    iterate 3 focus (intros;(conv=>lhs;simp only [Jj,JA,JX,JC,JU,eq_self,reduceEqDiff,reduceIte,reduceSub,reduceAdd,JxA,JxB]);all_goals rfl)
    ·
     intro gh X K zq zc zq2 zc2 zb zv hK;refine Jg (Jn rfl At.z (by simpa [*] using ag50)) rfl (Jo ?_);exact hK zq zc zq2 zc2 zb zv
    ·
     intro gh gh' h
     rfl
    apply Jw 2 rfl
    iterate 3 focus (intros;(conv=>lhs;simp only [Jj,JA,JX,JC,JU,eq_self,reduceEqDiff,reduceIte,reduceSub,reduceAdd,JxA,JxB]);all_goals rfl)
    ·
     intro gh X K zq zc zq2 zc2 zb zv hK;refine Jg (Jn rfl At.z (by simpa [*] using ag50)) rfl (Jo ?_);exact hK zq zc zq2 zc2 zb zv
    ·
     intro gh gh' h
     rfl
    apply Eq 3 rfl
    iterate 3 focus (intros;(conv=>lhs;simp only [Jj,JA,JX,JC,JU,eq_self,reduceEqDiff,reduceIte,reduceSub,reduceAdd,JxA,JxB]);all_goals rfl)
    ·
     intro gh X K zq zc zq2 zc2 zb zv hK;refine JM ze50 rfl fun g9=>(Jo ?_);exact hK zq zc zq2 zc2 g9 zv
    ·
     intro gh gh' h;refine ⟨?_,?_⟩ <;> rfl
    apply Eq 4 rfl
    iterate 3 focus (intros;(conv=>lhs;simp only [Jj,JA,JX,JC,JU,eq_self,reduceEqDiff,reduceIte,reduceSub,reduceAdd,JxA,JxB]);all_goals rfl)
    ·
     intro gh X K zq zc zq2 zc2 zb zv hK;refine JM ze50 rfl fun g10=>(Jo ?_);exact hK zq zc zq2 zc2 g10 zv
    ·
     intro gh gh' h;refine ⟨?_,?_⟩ <;> rfl
    apply EB 5 rfl
    iterate 3 focus (intros;(conv=>lhs;simp only [Jj,JA,JX,JC,JU,eq_self,reduceEqDiff,reduceIte,reduceSub,reduceAdd,JxA,JxB]);all_goals rfl)
    ·
     intro gh X K hK;refine Jr rfl rfl (by first | exact bytesC_one _ | exact intsC_one _ | exact Term.c_one _ | simp [Value.oneCell']) (by simpa [*] using sz50) (by simp [*]) At.z (Jo ?_);exact hK
    ·
     intro gh gh' h
     first | simp only [h 2 rfl,h 3 rfl] | rfl
    apply EB 6 rfl
    iterate 3 focus (intros;(conv=>lhs;simp only [Jj,JA,JX,JC,JU,eq_self,reduceEqDiff,reduceIte,reduceSub,reduceAdd,JxA,JxB]);all_goals rfl)
    ·
     intro gh X K hK;refine Jr rfl rfl (by first | exact bytesC_one _ | exact intsC_one _ | exact Term.c_one _ | simp [Value.oneCell']) (by simpa [*] using sz50) (by simp [*]) At.z (Jo ?_);exact hK
    ·
     intro gh gh' h
     first | simp only [h 2 rfl,h 3 rfl] | rfl
    apply Eu [0,1,2,3,4,5] [0,1,4,5,6,7,8,9,10,11] foll0 rfl rfl rfl (by rfl)
    iterate 2 focus (intros;(conv=>lhs;simp only [Jj,JA,JX,JC,JU,eq_self,reduceEqDiff,reduceIte,reduceSub,reduceAdd,JxA,JxB]);all_goals rfl)
    intro gh;generalize (gh 2).b=g9;generalize (gh 3).b=g10;clear gh;refine Ja (hK15 (Je fun _ hK16 _=>(Je fun _ hK17 _=>(Jb (Jg (Jd rfl) rfl (Jf (Ja (hK17 (Jp (JH (σ:=Nat) (fun (j:Nat)=>[(11,.int .i64 (j:Int))]) (fun (j:Nat)=>H) (fun (j:Nat)=>obj g9 (.cells (bytesC (frK (tm f i).mono k j)).toArray 50 (0,0))::obj g10 (.cells (bytesC (bkK (tm f i).mono k j)).toArray 50 (0,0))::obj g7 (.cells (bytesC ((tm f i).mono)).toArray 50 (0,0))::obj g5 (.cells [.slice q1 (ofS (acc [] (dAll ad af (toS (f.take i))++dLk ad af ((tm f i).mono,(tm f i).fac) k))).length c1].toArray 43 (0,0))::own 52 9 q1 (ofS (acc [] (dAll ad af (toS (f.take i))++dLk ad af ((tm f i).mono,(tm f i).fac) k))).length c1 (tsC (ofS (acc [] (dAll ad af (toS (f.take i))++dLk ad af ((tm f i).mono,(tm f i).fac) k))))::obj g4 (.cells [.slice none 0 0].toArray 43 (0,0))::obj g3 (.cells [.slice qf f.length cf].toArray 43 (0,0))::obj g2 (.cells [.slice qad ad.length cad,.slice qaf af.length caf].toArray 27 (0,0))::L) (fun (j:Nat)=>j≤8) (fun (j:Nat)=>8 - j) 0 (by omega) ⟨rfl,trivial⟩ rfl (by rw [bkK_zero hx8,frK_zero hx8]) ?_))))))))));rintro j hj _ hAg2;refine Je fun _ hK18 _=>(Je fun _ hK19 _=>(Jb (Jg (Jc rfl) rfl (Jg (JV rfl rfl) rfl (Jf (Ja (hK19 (Jm rfl (fun h43=>?_) (fun h43=>?_)))))))))
    ·
     refine Jk (Ja (hK18 (Je fun _ hK20 _=>(Jp (Je fun _ hK21 _=>(Je fun _ hK22 _=>(Jb (Jg (Jc rfl) rfl (Jg (Jc rfl) rfl (Jg (PR.geq rfl rfl) rfl (Jf (Ja (hK22 (Jm rfl (fun h48=>?_) (fun h48=>?_)))))))))))))))
     ·
      refine Jb (Jg (Jc rfl) rfl (Jg (JW u50 sz5 rfl rfl rfl (by omega)) rfl (ES rfl rfl sz5 (by simp;omega) At.z (Jf (Ja (hK21 (Je fun _ hK23 _=>(Jb (Jg (Jc rfl) rfl (Jg (Jc rfl) rfl (Jg (PR.leq rfl rfl) rfl (Jf (Ja (hK23 (Jm rfl (fun h53=>?_) (fun h53=>?_))))))))))))))))
      ·
       refine Jb (Jg (Jc rfl) rfl (Jg (JW u50 sz5 rfl rfl rfl (by omega)) rfl (ES rfl rfl sz5 (by simp;omega) (.s .z) (Jf (JD (Ja (hK20 (Jb (Jg (Jc rfl) rfl (Jg (Jy rfl rfl (by first | exact nw _ (by omega) | rfl)) rfl (Jg (Jd rfl) rfl (Jf (Ja ?_)))))))))))));exact hAg2 (j+1) (by omega) (by omega) 16 rfl rfl ⟨rfl,trivial⟩ rfl (by simp only [frK_yes (p:=(tm f i).mono) (show j<8 by omega) (show k≤j by omega),bkK_yes (p:=(tm f i).mono) (show j<8 by omega) (show j≤k by omega)])
      ·
       refine Jk (JD (Ja (hK20 (Jb (Jg (Jc rfl) rfl (Jg (Jy rfl rfl (by first | exact nw _ (by omega) | rfl)) rfl (Jg (Jd rfl) rfl (Jf (Ja ?_)))))))));exact hAg2 (j+1) (by omega) (by omega) 14 rfl rfl ⟨rfl,trivial⟩ rfl (by simp only [frK_yes (p:=(tm f i).mono) (show j<8 by omega) (show k≤j by omega),bkK_no (p:=(tm f i).mono) (show ¬j≤k by omega)])
     ·
      refine Jk (Ja (hK21 (Je fun _ hK24 _=>(Jb (Jg (Jc rfl) rfl (Jg (Jc rfl) rfl (Jg (PR.leq rfl rfl) rfl (Jf (Ja (hK24 (Jm rfl (fun h53=>?_) (fun h53=>?_))))))))))))
      ·
       refine Jb (Jg (Jc rfl) rfl (Jg (JW u50 sz5 rfl rfl rfl (by omega)) rfl (ES rfl rfl sz5 (by simp;omega) (.s .z) (Jf (JD (Ja (hK20 (Jb (Jg (Jc rfl) rfl (Jg (Jy rfl rfl (by first | exact nw _ (by omega) | rfl)) rfl (Jg (Jd rfl) rfl (Jf (Ja ?_)))))))))))));exact hAg2 (j+1) (by omega) (by omega) 14 rfl rfl ⟨rfl,trivial⟩ rfl (by simp only [frK_no (p:=(tm f i).mono) (show ¬k≤j by omega),bkK_yes (p:=(tm f i).mono) (show j<8 by omega) (show j≤k by omega)])
      ·
       refine Jk (JD (Ja (hK20 (Jb (Jg (Jc rfl) rfl (Jg (Jy rfl rfl (by first | exact nw _ (by omega) | rfl)) rfl (Jg (Jd rfl) rfl (Jf (Ja ?_)))))))));exact hAg2 (j+1) (by omega) (by omega) 12 rfl rfl ⟨rfl,trivial⟩ rfl (by simp only [frK_no (p:=(tm f i).mono) (show ¬k≤j by omega),bkK_no (p:=(tm f i).mono) (show ¬j≤k by omega)])
    ·
     obtain rfl:j=8:=by omega
     rw [frK_end,bkK_end];refine JI (Jl (Jl (JT (Ja (hK16 (Je fun _ hK25 _=>(Jb (Jg (Jn rfl At.z (by simpa using ag50)) rfl (JM ze50 rfl fun g12=>(Jr rfl rfl (by first | exact bytesC_one _ | exact intsC_one _ | exact Term.c_one _ | simp [Value.oneCell']) (by simpa [*] using sz50) (by simp [*]) At.z (Jf (Ja (hK25 (Je fun _ hK26 _=>(Jb (Jg (Jc rfl) rfl ?_))))))))))))))));refine Jg (Jc rfl) rfl (Jg (JW u50 sz5 rfl rfl rfl (by omega)) rfl (Jg (Jv rfl (.s (.s (.s .z))) (bytesC_get (by omega)) pl5) rfl (Jg (EZ rfl rfl (u8_id (by omega))) rfl (Jg (JW u50 sz5 rfl rfl rfl (by omega)) rfl (ES rfl rfl sz5 (by simp;omega) At.z (Jf (Ja (hK26 (Je fun _ hK27 _=>(Ey foll0 (by kernel_rfl) (JG (Jt u43 rfl sz41 rfl) rfl (JG (Jv rfl (.s (.s (.s (.s (.s (.s (.s .z))))))) rfl pl41) rfl (JG (Jc rfl) rfl (JG (Eo u41 sz52 rfl rfl rfl (by omega) hf.sm) rfl (JG (Ep u52 rfl sz2 rfl (hf.sm (i:=i) (by omega))) rfl ?_)))))))))))))));refine JG (JR rfl (hf.fac (by omega)) pl2) rfl (JG (Jc rfl) rfl (JG (JW u50 sz5 rfl rfl rfl (by omega)) rfl (JG (Jv rfl (.s (.s (.s .z))) (bytesC_get (by omega)) pl5) rfl (JG (EC u5 u2 rfl (by first | exact nw _ (by omega) | rfl)) rfl (JG (EV rfl rfl (by first | exact nw _ (by omega) | rfl)) rfl (JG (Jd rfl) rfl (Ee (Ja (hK27 (ER (σ:=Int) (fun (v:Int)=>[(13,.int .i64 v)]) (fun (v:Int)=>H) (fun (v:Int)=>obj g12 (.cells (bytesC (leftP (tm f i).mono k)).toArray 50 (0,0))::obj g9 (.cells (bytesC (aheadP (tm f i).mono k)).toArray 50 (0,0))::obj g10 (.cells (bytesC (behP (tm f i).mono (k+1))).toArray 50 (0,0))::obj g7 (.cells (bytesC ((tm f i).mono)).toArray 50 (0,0))::obj g5 (.cells [.slice q1 (ofS (acc [] (dAll ad af (toS (f.take i))++dLk ad af ((tm f i).mono,(tm f i).fac) k))).length c1].toArray 43 (0,0))::own 52 9 q1 (ofS (acc [] (dAll ad af (toS (f.take i))++dLk ad af ((tm f i).mono,(tm f i).fac) k))).length c1 (tsC (ofS (acc [] (dAll ad af (toS (f.take i))++dLk ad af ((tm f i).mono,(tm f i).fac) k))))::obj g4 (.cells [.slice none 0 0].toArray 43 (0,0))::obj g3 (.cells [.slice qf f.length cf].toArray 43 (0,0))::obj g2 (.cells [.slice qad ad.length cad,.slice qaf af.length caf].toArray 27 (0,0))::L) (fun (v:Int)=>fld v=fld (dsg ad (tm f i).mono k * (tm f i).fac * (tm f i).mono.getD k 0)∧ -1000000000000≤v∧v≤1000000000000) ?_ ?_))))))))))
     ·
      intro _ hMt1;refine Je fun _ hK28 _=>(Jb (Jg (Jt u27 rfl sz24 rfl) rfl (Jg (Jv rfl (.s (.s (.s (.s (.s (.s (.s (.s .z)))))))) rfl pl24) rfl (Jg (Jn rfl (.s .z) (by simpa using ag50)) rfl (Jx fn88 rfl rfl fun w hH=>(l01Weight_c had hfm hn hd hH).mono ?_)))));rintro _ w ⟨rfl,hH⟩;refine ⟨_,rfl,fun a hF=>JQ hF hH ?_⟩;refine Jg (EG rfl rfl (by decide) rfl) rfl (Jg (En rfl rfl) rfl (Jf (Ja (hK28 (Jm rfl (fun h79=>?_) (fun h79=>?_))))))
      ·
       refine Jb (Jg (Jc rfl) rfl (Jg (PR.neg rfl (by first | exact nw _ (by omega) | rfl)) rfl (Jg (Jd rfl) rfl (Jf (Ja ?_)))));exact hMt1 (0 - (tm f i).fac * (tm f i).mono.getD k 0) ⟨(fac_neg (sg_neg hn hd hxn (by omega) h79)).symm,by omega,by omega⟩ 9 rfl rfl ⟨(vi (by omega)),trivial⟩ rfl rfl
      ·
       refine Jk (Ja ?_);exact hMt1 ((tm f i).fac * (tm f i).mono.getD k 0) ⟨(fac_pos (sg_pos hn hd hxn (by omega) h79)).symm,by omega,by omega⟩ 6 rfl rfl ⟨rfl,trivial⟩ rfl rfl
     ·
      rintro v ⟨hv,hvb⟩;refine Je fun _ hK29 _=>(Ev (Rs:=[_,_,_,_,_,_,_,_,_]) 12 [[], [0], [], [2], [], [4], [], [4,5,6], [4,5,6,7], [0,1,2,3,4,5,6,7,8], [], [0,1,2,3,4,5,6,7,8,9,10]] [[], [20], [12], [], [], [20], [], [], [], [3], [], []] [[], [], [], [], [], [], [], [], [], [], [], [10]] rfl rfl (by kernel_rfl) ?_);apply Jw 1 rfl
      iterate 3 focus (intros;(conv=>lhs;simp only [Jj,JA,JX,JC,JU,eq_self,reduceEqDiff,reduceIte,reduceSub,reduceAdd,JxA,JxB]);all_goals rfl)
      ·
       intro gh X K zq zc zq2 zc2 zb zv hK;refine Jg (Jt u27 rfl sz24 rfl) rfl (Jo ?_);exact hK zq zc zq2 zc2 zb zv
      ·
       intro gh gh' h
       rfl
      apply Jw 2 rfl
      iterate 3 focus (intros;(conv=>lhs;simp only [Jj,JA,JX,JC,JU,eq_self,reduceEqDiff,reduceIte,reduceSub,reduceAdd,JxA,JxB]);all_goals rfl)
      ·
       intro gh X K zq zc zq2 zc2 zb zv hK;refine Jg (Jv rfl At.z rfl pl24) rfl (Jo ?_);exact hK zq zc zq2 zc2 zb zv
      ·
       intro gh gh' h
       rfl
      apply Jw 3 rfl
      iterate 3 focus (intros;(conv=>lhs;simp only [Jj,JA,JX,JC,JU,eq_self,reduceEqDiff,reduceIte,reduceSub,reduceAdd,JxA,JxB]);all_goals rfl)
      ·
       intro gh X K zq zc zq2 zc2 zb zv hK;refine Jg (Jn rfl At.z (by simpa using ag50)) rfl (Jo ?_);exact hK zq zc zq2 zc2 zb zv
      ·
       intro gh gh' h
       rfl
      apply Eq 4 rfl
      iterate 3 focus (intros;(conv=>lhs;simp only [Jj,JA,JX,JC,JU,eq_self,reduceEqDiff,reduceIte,reduceSub,reduceAdd,JxA,JxB]);all_goals rfl)
      ·
       intro gh X K zq zc zq2 zc2 zb zv hK;refine Jx fn74 rfl rfl fun w hH=>(l01Single_c hlm (by omega) hH).mono ?_;rintro _ w ⟨qo85,co85,rfl,hH⟩;refine ⟨_,rfl,fun a hF=>JQ hF hH ?_⟩;refine Jo ?_;exact hK qo85 co85 zq2 zc2 zb zv
      ·
       intro gh gh' h;refine ⟨?_,?_⟩ <;> rfl
      apply Jw 5 rfl
      iterate 3 focus (intros;(conv=>lhs;simp only [Jj,JA,JX,JC,JU,eq_self,reduceEqDiff,reduceIte,reduceSub,reduceAdd,JxA,JxB]);all_goals rfl)
      ·
       intro gh X K zq zc zq2 zc2 zb zv hK;refine Jg (Jt u27 rfl sz25 rfl) rfl (Jo ?_);exact hK zq zc zq2 zc2 zb zv
      ·
       intro gh gh' h
       rfl
      apply Jw 6 rfl
      iterate 3 focus (intros;(conv=>lhs;simp only [Jj,JA,JX,JC,JU,eq_self,reduceEqDiff,reduceIte,reduceSub,reduceAdd,JxA,JxB]);all_goals rfl)
      ·
       intro gh X K zq zc zq2 zc2 zb zv hK;refine Jg (Jv rfl At.z rfl pl25) rfl (Jo ?_);exact hK zq zc zq2 zc2 zb zv
      ·
       intro gh gh' h
       rfl
      apply Jw 7 rfl
      iterate 3 focus (intros;(conv=>lhs;simp only [Jj,JA,JX,JC,JU,eq_self,reduceEqDiff,reduceIte,reduceSub,reduceAdd,JxA,JxB]);all_goals rfl)
      ·
       intro gh X K zq zc zq2 zc2 zb zv hK;refine Jg (Jc rfl) rfl (Jo ?_);exact hK zq zc zq2 zc2 zb zv
      ·
       intro gh gh' h
       rfl
      apply Jw 8 rfl
      iterate 3 focus (intros;(conv=>lhs;simp only [Jj,JA,JX,JC,JU,eq_self,reduceEqDiff,reduceIte,reduceSub,reduceAdd,JxA,JxB]);all_goals rfl)
      ·
       intro gh X K zq zc zq2 zc2 zb zv hK;refine Jg (JY u25 sz43 rfl rfl rfl (by omega) haf.sm) rfl (Jo ?_);exact hK zq zc zq2 zc2 zb zv
      ·
       intro gh gh' h
       rfl
      obtain ⟨qe90,ce90,he90,le90,Fe90⟩:=haf k (by omega);apply Jw 9 rfl
      iterate 3 focus (intros;(conv=>lhs;simp only [Jj,JA,JX,JC,JU,eq_self,reduceEqDiff,reduceIte,reduceSub,reduceAdd,JxA,JxB]);all_goals rfl)
      ·
       intro gh X K zq zc zq2 zc2 zb zv hK;refine Jg (JO (cs:=[_]) rfl (one_cell he90) (haf.sm (i:=k) (by omega)) ag43) rfl (Jo ?_);exact hK zq zc zq2 zc2 zb zv
      ·
       intro gh gh' h
       rfl
      apply Eq 10 rfl
      iterate 3 focus (intros;(conv=>lhs;simp only [Jj,JA,JX,JC,JU,eq_self,reduceEqDiff,reduceIte,reduceSub,reduceAdd,JxA,JxB]);all_goals rfl)
      ·
       intro gh X K zq zc zq2 zc2 zb zv hK;refine Jx fn69 rfl rfl fun w hH=>hH.lend .z fun Hl1 hle1 hA1 hB1 hH=>(l01Times_c (had.le hle1) (own_terms (one_wf hlm) hA1) (Fe90.le hle1) hn hd (one_kex hle) (hk9 k hkl) (one_g hlp) (hf9 k hkl).1.g (by omega) (by rw [one_len];omega) (by rw [one_len];omega) hH).mono ?_;rintro _ w ⟨qo91,co91,rfl,hH⟩;replace hH:=hB1 _ _ hH;refine ⟨_,rfl,fun a hF=>JQ hF hH ?_⟩;refine Jh .z (Jh (.s .z) (Jo ?_));exact hK qo91 co91 zq2 zc2 zb zv
      ·
       intro gh gh' h;refine ⟨?_,?_⟩ <;> (first | simp only [h 3 rfl] | rfl)
      apply Eq 11 rfl
      iterate 3 focus (intros;(conv=>lhs;simp only [Jj,JA,JX,JC,JU,eq_self,reduceEqDiff,reduceIte,reduceSub,reduceAdd,JxA,JxB]);all_goals rfl)
      ·
       intro gh X K zq zc zq2 zc2 zb zv hK;refine JM ze43 rfl fun g14=>(Jo ?_);exact hK zq zc zq2 zc2 g14 zv
      ·
       intro gh gh' h;refine ⟨?_,?_⟩ <;> rfl
      apply EB 12 rfl
      iterate 3 focus (intros;(conv=>lhs;simp only [Jj,JA,JX,JC,JU,eq_self,reduceEqDiff,reduceIte,reduceSub,reduceAdd,JxA,JxB]);all_goals rfl)
      ·
       intro gh X K hK;refine Jr rfl rfl (by first | exact bytesC_one _ | exact intsC_one _ | exact Term.c_one _ | simp [Value.oneCell']) (by simpa [*] using sz43) (by simp [*]) At.z (Jo ?_);exact hK
      ·
       intro gh gh' h
       first | simp only [h 3 rfl,h 9 rfl,h 10 rfl] | rfl
      apply Eu [0,1,2,3,4,5,6,7,8,9,10,11] [0,1,2,3,4,5,6,7,8,9,11,12,13,14,15,16,17,18,19,20] foll0 rfl rfl rfl (by rfl)
      iterate 2 focus (intros;(conv=>lhs;simp only [Jj,JA,JX,JC,JU,eq_self,reduceEqDiff,reduceIte,reduceSub,reduceAdd,JxA,JxB]);all_goals rfl)
      intro gh;generalize (gh 3).c=co85;generalize (gh 3).q=qo85;generalize (gh 9).c=co91;generalize (gh 9).q=qo91;generalize (gh 10).b=g14;clear gh;refine Ja (hK29 (Ev (Rs:=[_,_,_,_,_,_,_,_,_,_,_,_]) 11 [[], [], [1], [], [], [4], [1,2,3,4,5], [], [1,2,3,4,5,6,7], [0,1,2,3,4,5,6,7,8], [0,1,2,3,4,5,6,7,8,9]] [[18], [], [22], [13], [16], [], [5,12], [], [], [6,19], []] [[], [], [], [], [], [], [], [], [], [], [18]] rfl rfl (by kernel_rfl) ?_));apply Jw 1 rfl
      iterate 3 focus (intros;(conv=>lhs;simp only [Jj,JA,JX,JC,JU,eq_self,reduceEqDiff,reduceIte,reduceSub,reduceAdd,JxA,JxB]);all_goals rfl)
      ·
       intro gh X K zq zc zq2 zc2 zb zv hK;refine Jg (Jn rfl At.z (by simpa [*] using ag43)) rfl (Jo ?_);exact hK zq zc zq2 zc2 zb zv
      ·
       intro gh gh' h
       rfl
      apply Jw 2 rfl
      iterate 3 focus (intros;(conv=>lhs;simp only [Jj,JA,JX,JC,JU,eq_self,reduceEqDiff,reduceIte,reduceSub,reduceAdd,JxA,JxB]);all_goals rfl)
      ·
       intro gh X K zq zc zq2 zc2 zb zv hK;refine Jg (Jt u27 rfl sz24 rfl) rfl (Jo ?_);exact hK zq zc zq2 zc2 zb zv
      ·
       intro gh gh' h
       rfl
      apply Jw 3 rfl
      iterate 3 focus (intros;(conv=>lhs;simp only [Jj,JA,JX,JC,JU,eq_self,reduceEqDiff,reduceIte,reduceSub,reduceAdd,JxA,JxB]);all_goals rfl)
      ·
       intro gh X K zq zc zq2 zc2 zb zv hK;refine Jg (Jv rfl At.z rfl pl24) rfl (Jo ?_);exact hK zq zc zq2 zc2 zb zv
      ·
       intro gh gh' h
       rfl
      apply Jw 4 rfl
      iterate 3 focus (intros;(conv=>lhs;simp only [Jj,JA,JX,JC,JU,eq_self,reduceEqDiff,reduceIte,reduceSub,reduceAdd,JxA,JxB]);all_goals rfl)
      ·
       intro gh X K zq zc zq2 zc2 zb zv hK;refine Jg (Jn rfl At.z (by simpa [*] using ag43)) rfl (Jo ?_);exact hK zq zc zq2 zc2 zb zv
      ·
       intro gh gh' h
       rfl
      apply Jw 5 rfl
      iterate 3 focus (intros;(conv=>lhs;simp only [Jj,JA,JX,JC,JU,eq_self,reduceEqDiff,reduceIte,reduceSub,reduceAdd,JxA,JxB]);all_goals rfl)
      ·
       intro gh X K zq zc zq2 zc2 zb zv hK;refine Jg (Jn rfl At.z (by simpa using ag50)) rfl (Jo ?_);exact hK zq zc zq2 zc2 zb zv
      ·
       intro gh gh' h
       rfl
      apply Eq 6 rfl
      iterate 3 focus (intros;(conv=>lhs;simp only [Jj,JA,JX,JC,JU,eq_self,reduceEqDiff,reduceIte,reduceSub,reduceAdd,JxA,JxB]);all_goals rfl)
      ·
       intro gh X K zq zc zq2 zc2 zb zv hK;refine Jx fn74 rfl rfl fun w hH=>(l01Single_c hbm (by omega) hH).mono ?_;rintro _ w ⟨qo97,co97,rfl,hH⟩;refine ⟨_,rfl,fun a hF=>JQ hF hH ?_⟩;refine Jo ?_;exact hK qo97 co97 zq2 zc2 zb zv
      ·
       intro gh gh' h;refine ⟨?_,?_⟩ <;> rfl
      apply Eq 7 rfl
      iterate 3 focus (intros;(conv=>lhs;simp only [Jj,JA,JX,JC,JU,eq_self,reduceEqDiff,reduceIte,reduceSub,reduceAdd,JxA,JxB]);all_goals rfl)
      ·
       intro gh X K zq zc zq2 zc2 zb zv hK;refine Jx fn69 rfl rfl fun w hH=>hH.lend (.s .z) fun Hl1 hle1 hA1 hB1 hH=>hH.lend .z fun Hl2 hle2 hA2 hB2 hH=>(l01Times_c ((had.le hle1).le hle2) ((own_terms (by simp only [toS_ofS,addS_one];exact gt1.wf (by omega)) hA1).le hle2) (own_terms (one_wf hbm) hA2) hn hd (by rw [toS_ofS];exact times_kex (one_g hlp) (hf9 k hkl).1.g (one_kex hle) (hk9 k hkl)) (one_kex hbe) (by simp only [toS_ofS,addS_one];exact gt1.g) (one_g hbp) (by omega) (by have h:=times_len ad (toS (ofS (addS [] (leftP (tm f i).mono k) 1))) (toS (fm af k));rw [toS_len,toS_len,one_len] at h;rw [one_len,ofS_len];omega) (by have h:=times_len ad (toS (ofS (addS [] (leftP (tm f i).mono k) 1))) (toS (fm af k));rw [toS_len,toS_len,one_len] at h;rw [ofS_len];omega) hH).mono ?_;rintro _ w ⟨qo98,co98,rfl,hH⟩;replace hH:=hB2 _ _ hH;replace hH:=hB1 _ _ hH;refine ⟨_,rfl,fun a hF=>JQ hF hH ?_⟩;refine Jh .z (Jh (.s .z) (Jh (.s (.s .z)) (Jo ?_)));exact hK qo98 co98 zq2 zc2 zb zv
      ·
       intro gh gh' h;refine ⟨?_,?_⟩ <;> (first | simp only [h 5 rfl] | rfl)
      apply Jw 8 rfl
      iterate 3 focus (intros;(conv=>lhs;simp only [Jj,JA,JX,JC,JU,eq_self,reduceEqDiff,reduceIte,reduceSub,reduceAdd,JxA,JxB]);all_goals rfl)
      ·
       intro gh X K zq zc zq2 zc2 zb zv hK;refine Jg (Jc rfl) rfl (Jo ?_);exact hK zq zc zq2 zc2 zb zv
      ·
       intro gh gh' h
       rfl
      apply Jw 9 rfl
      iterate 3 focus (intros;(conv=>lhs;simp only [Jj,JA,JX,JC,JU,eq_self,reduceEqDiff,reduceIte,reduceSub,reduceAdd,JxA,JxB]);all_goals rfl)
      ·
       intro gh X K zq zc zq2 zc2 zb zv hK;refine Jx fn89 rfl rfl fun w hH=>(l01Mod_c (by omega) hH).mono ?_;rintro _ w ⟨rfl,hH⟩;refine ⟨_,rfl,fun a hF=>JQ hF hH ?_⟩;refine Jo ?_;exact hK zq zc zq2 zc2 zb zv
      ·
       intro gh gh' h
       first | simp only [h 5 rfl,h 6 rfl] | rfl
      apply Eq 10 rfl
      iterate 3 focus (intros;(conv=>lhs;simp only [Jj,JA,JX,JC,JU,eq_self,reduceEqDiff,reduceIte,reduceSub,reduceAdd,JxA,JxB]);all_goals rfl)
      ·
       intro gh X K zq zc zq2 zc2 zb zv hK;refine Jx fn73 rfl rfl fun w hH=>hH.lend (.s .z) fun Hl1 hle1 hA1 hB1 hH=>hH.lend .z fun Hl2 hle2 hA2 hB2 hH=>(l01Add_c ((own_terms wfO hA1).le hle2) (own_terms (by simp only [toS_ofS,addS_one];exact gt2.wf (by omega)) hA2) (by rw [toS_ofS];exact d2_sok hf9 hs hoc (by omega) k) (by simp only [toS_ofS,addS_one];exact gt2.g) (by omega) (fld_bd _) (by have h1:=dT_len ad (toS (fm af k)) (tm f i).mono k;unfold dT at h1;rw [toS_len] at h1;simp only [toS_ofS,addS_one,ofS_len];omega) hH).mono ?_;rintro _ w ⟨qo101,co101,rfl,hH⟩;replace hH:=hB2 _ _ hH;replace hH:=hB1 _ _ hH;refine ⟨_,rfl,fun a hF=>JQ hF hH ?_⟩;refine Jh .z (Jh (.s .z) (Jh (.s (.s .z)) (Jo ?_)));exact hK qo101 co101 zq2 zc2 zb zv
      ·
       intro gh gh' h;refine ⟨?_,?_⟩ <;> (first | simp only [h 5 rfl,h 6 rfl] | rfl)
      apply EB 11 rfl
      iterate 3 focus (intros;(conv=>lhs;simp only [Jj,JA,JX,JC,JU,eq_self,reduceEqDiff,reduceIte,reduceSub,reduceAdd,JxA,JxB]);all_goals rfl)
      ·
       intro gh X K hK;refine Jr rfl rfl (by first | exact bytesC_one _ | exact intsC_one _ | exact Term.c_one _ | simp [Value.oneCell']) (by simpa [*] using sz43) (by simp [*]) At.z (Jo ?_);exact hK
      ·
       intro gh gh' h
       first | simp only [h 5 rfl,h 6 rfl,h 9 rfl] | rfl
      apply Eu [0,1,2,3,4,5,6,7,8,9,10] [0,1,2,3,4,5,6,7,8,9,10,11,12,13,14,15,16,17,19,20,21,22] foll0 rfl rfl rfl (by rfl)
      iterate 2 focus (intros;(conv=>lhs;simp only [Jj,JA,JX,JC,JU,eq_self,reduceEqDiff,reduceIte,reduceSub,reduceAdd,JxA,JxB]);all_goals rfl)
      intro gh;generalize (gh 5).c=co97;generalize (gh 5).q=qo97;generalize (gh 6).c=co98;generalize (gh 6).q=qo98;generalize (gh 9).c=co101;generalize (gh 9).q=qo101;clear gh;refine JD (Ja (hK12 (Jb (Jg (Jc rfl) rfl (Jg (Jy rfl rfl (by first | exact nw _ (by omega) | rfl)) rfl (Jg (Jd rfl) rfl (Jf (Ja (JF (.s (.s (.s (.s (.s (.s (.s (.s (.s (.s (.s .z))))))))))) (JF .z (JF .z (JF (.s (.s .z)) (JF (.s (.s .z)) (JF (.s (.s .z)) (JF (.s (.s .z)) ?_)))))))))))))));refine JF (.s (.s .z)) (JF (.s (.s .z)) (Jh (.s (.s (.s (.s (.s .z))))) (Jh (.s (.s (.s (.s (.s .z))))) (Jh (.s (.s (.s (.s (.s .z))))) (Jh (.s (.s (.s .z))) (Jh (.s (.s (.s (.s .z)))) (Jh (.s (.s (.s (.s (.s .z))))) ?_)))))));exact hAg1 (qo101,co101,k+1) (by show k+1≤ad.length;omega) (by show ad.length - (k+1)<ad.length - k;omega) 63 rfl rfl ⟨rfl,trivial⟩ rfl (by simp only [toS_ofS,addS_one];rw [← acc_dP (ds:=ad) (fs:=af) (x:=((tm f i).mono,(tm f i).fac)) (k:=k) hpos,← hv];rfl)
  ·
   refine JI (Jl (Jl (JT (JD (Ja (hK7 (Jb (Jg (Jc rfl) rfl (Jg (Jy rfl rfl (by first | exact nw _ (by omega) | rfl)) rfl (Jg (Jd rfl) rfl (Jf (Ja (JF .z ?_)))))))))))));exact hAg0 (q1,c1,i+1) (by show i+1≤f.length;omega) (by show f.length - (i+1)<f.length - i;omega) 23 rfl rfl ⟨rfl,trivial⟩ rfl (by dsimp only;rw [dAll_take (by omega),← dLk_8 hn hxe,show ad.length=k by omega])
 ·
  refine JI (Jl (Jl (JT (Ja (hK3 (Je fun _ hK30 _=>(Jb (Jg (Jn rfl At.z (by simpa [*] using ag43)) rfl (Jr rfl rfl (by first | exact bytesC_one _ | exact intsC_one _ | exact Term.c_one _ | simp [Value.oneCell']) (by simpa [*] using sz43) (by simp [*]) (.s (.s .z)) (Jf (Ja (hK30 (Js (Ju rfl (Res.agg rfl (.s (.s .z)) (by simpa [*] using ag43)) fun w hH=>?_))))))))))))));replace hH:=hH.sublist (.cons _ (.cons_cons _ (.cons _ (.cons _ (.cons _ (List.Sublist.refl _))))))
  obtain rfl:i=f.length:=by omega
  rw [List.take_length] at hH ⊢;exact ⟨_,_,rfl,hH⟩
theorem fn100:Fn Tryz.prog 100:=⟨_,Tryz.func100,by kernel_rfl,rfl⟩
theorem fn81:Fn Tryz.prog 81:=⟨_,Tryz.func81,by kernel_rfl,rfl⟩
def ClF (B:World) (H0 H:HP) (g:Nat) (cap:Array Value) (S:List Term→Prop) (p:List Term→Bool):Prop:=∀(H':HP) (L:List SA) (w:World) (q:Option Addr) (c:Nat) (x:List Term),Le H H' →S x→Terms H' q x→Hp B H0 H' L w→Calls Tryz.prog g (#[]++[.agg [.slice q x.length c].toArray].toArray++cap) w fun e w'=>e = .returned (.bool (p x))∧Hp B H0 H' L w'
def idxF (xs:List (List Term)) (p:List Term→Bool):Int:=if xs.any p then (xs.findIdx p:Int) else -1
theorem fm_eq {xs:List (List Term)} {j:Nat} (hj:j<xs.length):xs[j]=fm xs j:=by simp [fm,List.getD_eq_getElem?_getD,List.getElem?_eq_getElem hj]
theorem fm_mem {xs:List (List Term)} {j:Nat} (hj:j<xs.length):fm xs j∈xs:=by rw [← fm_eq hj];exact List.getElem_mem hj
theorem idxF_hit {xs:List (List Term)} {p:List Term→Bool} {k:Nat} (hk:k<xs.length) (h : ∀j,j<k→p (fm xs j)=false) (hp:p (fm xs k)=true):idxF xs p=k:=by
 unfold idxF;have ha:xs.any p=true:=List.any_eq_true.2 ⟨xs[k],List.getElem_mem hk,by rw [fm_eq];exact hp⟩;rw [if_pos ha]
 have:xs.findIdx p=k:=by
  rw [List.findIdx_eq hk];exact ⟨by rw [fm_eq];exact hp,fun j hj=>by rw [fm_eq];exact h j hj⟩
 rw [this]
theorem idxF_miss {xs:List (List Term)} {p:List Term→Bool} (h : ∀j,j<xs.length→p (fm xs j)=false):idxF xs p = -1:=by
 unfold idxF;rw [if_neg];intro ha;obtain ⟨x,hx,hp⟩:=List.any_eq_true.1 ha;obtain ⟨j,hj,rfl⟩:=List.mem_iff_getElem.1 hx;rw [fm_eq hj,h j hj] at hp
 cases hp
theorem idxF_ge (xs:List (List Term)) (p:List Term→Bool):decide (idxF xs p≥0)=xs.any p:=by
 unfold idxF
 cases h:xs.any p with
 | true=>rw [if_pos rfl];exact decide_eq_true (by omega)
 | false=>rw [if_neg (by simp)];exact decide_eq_false (by omega)
def degOk (ds:List Int) (ts:List Term) (x:Int):Bool:=homog ds ts && (decide (degF ds ts = -1) || decide (degF ds ts=x))
def imOk (ds:List Int) (fs:List (List Term)) (i:Nat):Bool:=isForm ds (fm fs i) && degOk ds (fm fs i) (ds.getD i 0+1)
def imsOk (ds:List Int) (fs:List (List Term)):Bool:=(List.range fs.length).all (imOk ds fs)
def noD (ds:List Int) (fs:List (List Term)):Bool:=(List.range fs.length).all fun i=>decide ((dS ds fs (toS (fm fs i))).length=0)
def isAlg (ds:List Int) (fs:List (List Term)):Bool:=isDeg ds && decide (fs.length=ds.length) && imsOk ds fs && noD ds fs
theorem imsOk_bad {ds:List Int} {fs:List (List Term)} {i:Nat} (hi:i<fs.length) (h:imOk ds fs i=false):imsOk ds fs=false:=List.all_eq_false.2 ⟨i,by simpa using hi,by simp [h]⟩
theorem imsOk_good {ds:List Int} {fs:List (List Term)} (h : ∀j,j<fs.length→imOk ds fs j=true):imsOk ds fs=true:=List.all_eq_true.2 fun j hj=>h j (by simpa using hj)
theorem imsOk_at {ds:List Int} {fs:List (List Term)} (h:imsOk ds fs=true) {i:Nat} (hi:i<fs.length):imOk ds fs i=true:=List.all_eq_true.1 h i (by simpa using hi)
theorem noD_bad {ds:List Int} {fs:List (List Term)} {i:Nat} (hi:i<fs.length) (h : ¬(dS ds fs (toS (fm fs i))).length=0):noD ds fs=false:=List.all_eq_false.2 ⟨i,by simpa using hi,by simpa using h⟩
theorem noD_good {ds:List Int} {fs:List (List Term)} (h : ∀j,j<fs.length→(dS ds fs (toS (fm fs j))).length=0):noD ds fs=true:=List.all_eq_true.2 fun j hj=>by simpa using h j (by simpa using hj)
theorem isMono_le {ds m:List Int} (h:isMono ds m=true) {j:Nat} (hj:j<8):m.getD j 0≤most ds j:=by
 unfold isMono at h
 simpa using List.all_eq_true.1 h j (by simpa using hj)
theorem isMono_pok {ds m:List Int} (h:isMono ds m=true) (hm:Mono m):Pok 20 m:=⟨hm.len,fun j=>by
 have b:=hm.bd j
 rcases Nat.lt_or_ge j 8 with hj | hj
 ·have:=isMono_le h hj
  unfold most at this
  split at this
  ·split at this <;> omega
  ·omega
 ·rw [getD_ge (by rw [hm.len];omega)]
  omega⟩
theorem isMono_ex {ds m:List Int} (hd : ∀j,0≤ds.getD j 0∧ds.getD j 0≤12) (hn:ds.length≤8) (h:isMono ds m=true) (hm:Mono m):Ex ds m:=⟨fun i hi=>by
 rcases Nat.lt_or_ge i 8 with hj | hj
 ·have a:=isMono_le h hj
  have b:=(hm.bd i).1
  rw [most_ge (by omega)] at a
  omega
 ·exact getD_ge (by rw [hm.len];omega),fun i hi ho=>by
 have a:=isMono_le h (j:=i) (by omega)
 rw [most_odd (by omega) ho (hd i).1] at a
 exact a⟩
theorem isForm_at {ds:List Int} {ts:List Term} (h:isForm ds ts=true) {i:Nat} (hi:i<ts.length):goodAt ds ts i=true:=by
 unfold isForm at h;exact List.all_eq_true.1 (Bool.and_eq_true_iff.1 h).2 i (by simpa using hi)
theorem srt_of {s:Sm}:(∀i,0<i→i<s.length→before (s.getD (i - 1) ([],0)).1 (s.getD i ([],0)).1=true)→s.Pairwise fun x y=>before x.1 y.1=true:=by
 induction s with
 | nil=>intro _;exact List.Pairwise.nil
 | cons x s ih=>
  intro h
  have h2:=ih fun i h0 hi=>by
   have:=h (i+1) (by omega) (by simp;omega);simp only [Nat.add_sub_cancel,List.getD_cons_succ] at this;rw [show i=(i - 1)+1 by omega,List.getD_cons_succ] at this
   rwa [show i - 1+1=i by omega] at this
  refine List.pairwise_cons.2 ⟨fun y hy=>?_,h2⟩
  cases s with
  | nil=>simp at hy
  | cons z s=>
   have hz:before x.1 z.1=true:=by simpa using h 1 (by omega) (by simp)
   rcases List.mem_cons.1 hy with rfl | hy
   ·exact hz
   ·exact before_tr hz ((List.pairwise_cons.1 h2).1 y hy)
theorem toS_getD {ts:List Term} {i:Nat} (hi:i<ts.length):(toS ts).getD i ([],0)=((tm ts i).mono,(tm ts i).fac):=by
 simp [toS,tm,List.getD_eq_getElem?_getD,hi]
theorem isForm_sok {ds:List Int} {ts:List Term} (hw:Wfs ts) (h:isForm ds ts=true):Sok 20 (toS ts):=by
 have hg : ∀i,i<ts.length→isMono ds (tm ts i).mono=true∧(1≤(tm ts i).fac∧(tm ts i).fac≤10006)∧(i=0∨before (tm ts (i - 1)).mono (tm ts i).mono=true):=fun i hi=>by
  have:=isForm_at h hi;unfold goodAt at this
  simpa [and_assoc] using this
 refine ⟨srt_of fun i h0 hi=>?_,fun x hx=>?_,fun x hx=>?_⟩
 ·rw [toS_len] at hi;rw [toS_getD hi,toS_getD (by omega)];exact (hg i hi).2.2.resolve_left (by omega)
 ·obtain ⟨t,ht,rfl⟩:=toS_mem hx;obtain ⟨i,hi,rfl⟩:=List.mem_iff_getElem.1 ht;rw [tm_eq hi];exact isMono_pok (hg i hi).1 (hw _ (by rw [← tm_eq hi];exact ht)).mono
 ·obtain ⟨t,ht,rfl⟩:=toS_mem hx;obtain ⟨i,hi,rfl⟩:=List.mem_iff_getElem.1 ht;rw [tm_eq hi];exact (hg i hi).2.1
theorem isForm_kex {ds:List Int} {ts:List Term} (hd : ∀j,0≤ds.getD j 0∧ds.getD j 0≤12) (hn:ds.length≤8) (hw:Wfs ts) (h:isForm ds ts=true):KEx ds (toS ts):=fun x hx=>by
 obtain ⟨t,ht,rfl⟩:=toS_mem hx
 obtain ⟨i,hi,rfl⟩:=List.mem_iff_getElem.1 ht
 have:=isForm_at h hi
 unfold goodAt at this
 rw [tm_eq hi]
 exact isMono_ex hd hn (by simp at this;exact this.1.1) (hw _ (by rw [← tm_eq hi];exact ht)).mono
theorem isForm_len4 {ds:List Int} {ts:List Term} (h:isForm ds ts=true):ts.length≤400:=by
 unfold isForm at h
 simpa using (Bool.and_eq_true_iff.1 h).1
theorem Wfss.fm {fs:List (List Term)} (h:Wfss fs) (i:Nat):Wfs (G.fm fs i):=by
 rcases Nat.lt_or_ge i fs.length with hi | hi
 ·exact h _ (fm_mem hi)
 ·rw [G.fm,List.getD_eq_getElem?_getD,List.getElem?_eq_none hi];exact Wfs.nil
structure AlgOk (ds:List Int) (fs:List (List Term)):Prop where
 hn:ds.length≤8
 hd : ∀j,0≤ds.getD j 0∧ds.getD j 0≤12
 hl:fs.length=ds.length
 ok : ∀i,i<fs.length→isForm ds (fm fs i)=true
 wf:Wfss fs
theorem AlgOk.fok {ds:List Int} {fs:List (List Term)} (h:AlgOk ds fs):Fok 20 fs:=fun i hi=>⟨isForm_sok (h.wf.fm i) (h.ok i hi),by have:=isForm_len4 (h.ok i hi);omega⟩
theorem AlgOk.kex {ds:List Int} {fs:List (List Term)} (h:AlgOk ds fs) : ∀i,i<fs.length→KEx ds (toS (G.fm fs i)):=fun i hi=>isForm_kex h.hd h.hn (h.wf.fm i) (h.ok i hi)
theorem AlgOk.len {ds:List Int} {fs:List (List Term)} (h:AlgOk ds fs) : ∀i,i<fs.length→(G.fm fs i).length≤10000:=fun i hi=>by have:=isForm_len4 (h.ok i hi);omega
theorem AlgOk.of {ds:List Int} {fs:List (List Term)} (hD:isDeg ds=true) (hl:fs.length=ds.length) (hi:imsOk ds fs=true) (hw:Wfss fs):AlgOk ds fs:=⟨isDeg_len hD,isDeg_bd hD,hl,fun i h=>(Bool.and_eq_true_iff.1 (imsOk_at hi h)).1,hw⟩
theorem isAlg_ok {ds:List Int} {fs:List (List Term)} (h:isAlg ds fs=true) (hw:Wfss fs):AlgOk ds fs:=by
 unfold isAlg at h;simp only [Bool.and_eq_true,decide_eq_true_eq] at h;exact AlgOk.of h.1.1.1 h.1.1.2 h.1.2 hw
theorem degF_neg {ds:List Int} {ts:List Term} (hn:ds.length≤8) (hd : ∀j,0≤ds.getD j 0∧ds.getD j 0≤12) (hw:Wfs ts) (hh:homog ds ts=true):degF ds ts = -1↔¬(0<ts.length):=by
 unfold degF outAt;rw [hh,if_pos rfl]
 by_cases e:ts.length=0
 ·rw [if_pos e];omega
 ·rw [if_neg e];have:=wd_bd (i:=0) (ts:=ts) hn hd (hw _ (by rw [← tm_eq (by omega)];exact List.getElem_mem (by omega))).mono
  omega
theorem IndexFuncF_c {B:World} {H0 H:HP} {L:List SA} {w:World} {qxs:Option Addr} {cxs:Nat} {xs:List (List Term)} {gp:Nat} {capp:Array Value} {Sp:List Term→Prop} {p:List Term→Bool} (hxs:Forms H qxs xs) (hgp:Fn Tryz.prog gp) (hp:ClF B H0 H gp capp Sp p) (hn:xs.length≤9223372036854775807) (hS : ∀i,i<xs.length→Sp (fm xs i)) (hH:Hp B H0 H L w):Calls Tryz.prog 81 [.slice qxs xs.length cxs,.func (.func gp) #[] capp].toArray w fun e w'=>e = .returned (.int .i64 (idxF xs p))∧Hp B H0 H L w':=by
 refine JB Tryz.func81 rfl 19 rfl rfl [(0,.slice qxs xs.length cxs),(1,.func (.func gp) #[] capp)] rfl hH ?_;clear hH;refine Je fun _ hK1 _=>(Jb (Jg (Jd rfl) rfl (Jf (Ja (hK1 (Je fun _ hK2 _=>(Je fun _ hK3 _=>(Jb (Jg (Jc rfl) rfl (Jg (Jq u25 rfl rfl) rfl (Jg (Jc rfl) rfl (Jf (Ja (hK3 (Jp (JH (σ:=Nat) (fun (k:Nat)=>[(8,.int .i64 (k:Int))]) (fun (k:Nat)=>H) (fun (k:Nat)=>L) (fun (k:Nat)=>k≤xs.length∧∀j,j<k→p (fm xs j)=false) (fun (k:Nat)=>xs.length - k) 0 ⟨by omega,fun j hj=>by omega⟩ ⟨rfl,trivial⟩ rfl rfl ?_))))))))))))))));rintro k hI _ hAg0;have hk:=hI.1;refine Je fun _ hK4 _=>(Jb (Jg (JV rfl rfl) rfl (Jf (Ja (hK4 (Je fun _ hK5 _=>(Jm rfl (fun hc9=>?_) (fun hc9=>?_))))))))
 ·
  refine Jk (Ja (hK5 (Je fun _ hK6 _=>(Jp (Je fun _ hK7 _=>(Jb (Jg (Jc rfl) rfl (Jg (Jd rfl) rfl (Jf (Ja (hK7 (Je fun _ hK8 _=>(Jb (Jg (Jc rfl) rfl (Jg (Jc rfl) rfl (Jg (Jc rfl) rfl ?_))))))))))))))));refine Jg (JY u25 sz43 rfl rfl rfl (by omega) hxs.sm) rfl ?_;obtain ⟨qe15,ce15,he15,le15,Fe15⟩:=hxs k (by omega);refine Jg (JO (cs:=[_]) rfl (one_cell he15) (hxs.sm (i:=k) (by omega)) ag43) rfl (J.callV hgp rfl rfl rfl fun w hH=>(hp _ _ w _ _ _ (Le.refl _) (hS _ (by omega)) Fe15 hH).mono ?_);rintro _ w ⟨rfl,hH⟩;refine ⟨_,rfl,fun a hF=>JQ hF hH ?_⟩;refine Jf (Ja (hK8 (Ei rfl (fun h16=>?_) (fun h16=>?_))))
  ·
   refine Je fun _ hK9 _=>(Jb (Jg (Jc rfl) rfl (Jg (Jd rfl) rfl (Jf (Ja (hK9 (Js (JL (Ji (Ji (JL (Ji (Ju rfl (Res.tmp rfl) fun w hH=>?_)))))))))))));exact ⟨ri (idxF_hit (by omega) hI.2 h16).symm,hH⟩
  ·
   refine Jk (JD (Ja (hK6 (Jb (Jg (Jy rfl rfl (by first | exact nw _ (by omega) | rfl)) rfl (Jg (Jc rfl) rfl (Jf (Ja ?_))))))));exact hAg0 (k+1) ⟨by omega,upto hI.2 h16⟩ (by omega) 12 rfl rfl ⟨rfl,trivial⟩ rfl rfl
 ·
  refine JI (Jl (Jl (JT (Ja (hK2 (Je fun _ hK10 _=>(Jb (Jg (Jd rfl) rfl (Jf (Ja (hK10 (Js (Ju rfl (Res.tmp rfl) fun w hH=>?_)))))))))))));exact ⟨ri (idxF_miss (fun j hj=>hI.2 j (by omega))).symm,hH⟩
theorem ContainsFuncF_c {B:World} {H0 H:HP} {L:List SA} {w:World} {qxs:Option Addr} {cxs:Nat} {xs:List (List Term)} {gp:Nat} {capp:Array Value} {Sp:List Term→Prop} {p:List Term→Bool} (hxs:Forms H qxs xs) (hgp:Fn Tryz.prog gp) (hp:ClF B H0 H gp capp Sp p) (hn:xs.length≤9223372036854775807) (hS : ∀i,i<xs.length→Sp (fm xs i)) (hH:Hp B H0 H L w):Calls Tryz.prog 46 [.slice qxs xs.length cxs,.func (.func gp) #[] capp].toArray w fun e w'=>e = .returned (.bool (xs.any p))∧Hp B H0 H L w':=by
 refine JB Tryz.func46 rfl 9 rfl rfl [(0,.slice qxs xs.length cxs),(1,.func (.func gp) #[] capp)] rfl hH ?_;clear hH;refine Je fun _ hK1 _=>(Jb (Jg (Jd rfl) rfl (Jf (Ja (hK1 (Je fun _ hK2 _=>(Jb (Jg (Jc rfl) rfl (Jg (Jc rfl) rfl (Jx fn81 rfl rfl fun w hH=>(IndexFuncF_c hxs hgp hp (by omega) hS hH).mono ?_))))))))));rintro _ w ⟨rfl,hH⟩;refine ⟨_,rfl,fun a hF=>JQ hF hH ?_⟩;refine Jg (PR.geq rfl rfl) rfl (Jg (Jd rfl) rfl (Jf (Ja (hK2 (Js (Ju rfl (Res.tmp rfl) fun w hH=>?_))))));exact ⟨rb (idxF_ge xs p),hH⟩
theorem isOfDegree_c {B:World} {H0 H:HP} {L:List SA} {w:World} {qds:Option Addr} {cds:Nat} {ds:List Int} {qts:Option Addr} {cts:Nat} {ts:List Term} {x:Int} (hds:Ints H qds ds) (hts:Terms H qts ts) (hn:ds.length≤8) (hd : ∀j,0≤ds.getD j 0∧ds.getD j 0≤12) (hl:ts.length≤9223372036854775807) (hH:Hp B H0 H L w):Calls Tryz.prog 77 [.slice qds ds.length cds,.agg [.slice qts ts.length cts].toArray,.int .i64 x].toArray w fun e w'=>e = .returned (.bool (degOk ds ts x))∧Hp B H0 H L w':=by
 refine JB Tryz.func77 rfl 25 rfl rfl [(0,.slice qds ds.length cds),(1,.agg [.slice qts ts.length cts].toArray),(2,.int .i64 x)] rfl hH ?_;clear hH;refine Je fun _ hK1 _=>(Jb (Eg rfl rfl rfl fun g4=>(Jg (Jd rfl) rfl (Jf (Ja (hK1 (Je fun _ hK2 _=>(Jb (Jg (Jc rfl) rfl (Jg (Jn rfl At.z (by simpa [*] using ag43)) rfl (Jx fn100 rfl rfl fun w hH=>(degreeOf_c hds hts hn hd (by omega) hH).mono ?_)))))))))));rintro _ w ⟨rfl,hH⟩;refine ⟨_,rfl,fun a hF=>JQ hF hH ?_⟩;refine Jg (Jc rfl) rfl (Jg (JJ rfl rfl) rfl (Jg (JJ rfl rfl) rfl (Jg (Jd rfl) rfl (Jg (Jd rfl) rfl (Jf (Ja (hK2 (Je fun _ hK3 _=>(Jb (Jg (Jc rfl) rfl (Jg (Jc rfl) rfl (JZ (jd:=16) rfl (fun hg16=>?_) (fun hg16=>?_)))))))))))))
 ·
  try have hg16p:=of_decide_eq_true hg16
  refine JK (Jc rfl) rfl rfl rfl hg16 (JK (Ef rfl rfl) rfl rfl rfl hg16 (JK (Jc rfl) rfl rfl rfl hg16 (JZ (jd:=19) rfl (fun hg19=>?_) (fun hg19=>?_))))
  ·
   try have hg19p:=of_decide_eq_true hg19
   refine JE rfl rfl rfl hg19 (JE rfl rfl rfl hg19 (JE rfl rfl rfl hg19 (JK (JP rfl hg19 rfl) rfl rfl rfl hg16 (Jg (JP rfl hg16 rfl) rfl (Jg (Jd rfl) rfl (Jf (Ja (hK3 (Js (Ju rfl (Res.tmp rfl) fun w hH=>?_))))))))));replace hH:=hH.tail;exact ⟨rb (by unfold degOk;rw [hg16,hg19];rfl),hH⟩
  ·
   try have hg19p:=of_decide_eq_false hg19
   refine JK (Jc rfl) rfl rfl rfl hg19 (JK (Jc rfl) rfl rfl rfl hg19 (JK (Ef rfl rfl) rfl rfl rfl hg19 (JK (JN rfl hg19 rfl) rfl rfl rfl hg16 (Jg (JP rfl hg16 rfl) rfl (Jg (Jd rfl) rfl (Jf (Ja (hK3 (Js (Ju rfl (Res.tmp rfl) fun w hH=>?_))))))))));replace hH:=hH.tail;exact ⟨rb (by unfold degOk;rw [hg16,hg19];simp),hH⟩
 ·
  try have hg16p:=of_decide_eq_false hg16
  refine JE rfl rfl rfl hg16 (JE rfl rfl rfl hg16 (JE rfl rfl rfl hg16 (EU rfl rfl rfl (EU rfl rfl rfl (EU rfl rfl rfl (JE rfl rfl rfl hg16 (Jg (JN rfl hg16 rfl) rfl (Jg (Jd rfl) rfl (Jf (Ja (hK3 (Js (Ju rfl (Res.tmp rfl) fun w hH=>?_)))))))))))));replace hH:=hH.tail;exact ⟨rb (by unfold degOk;rw [hg16];rfl),hH⟩
theorem ag27:Agg Tryz.prog 27 2:=⟨_,u27,rfl,by kernel_rfl⟩
theorem fn46:Fn Tryz.prog 46:=⟨_,Tryz.func46,by kernel_rfl,rfl⟩
theorem fn48:Fn Tryz.prog 48:=⟨_,Tryz.func48,by kernel_rfl,rfl⟩
theorem fn51:Fn Tryz.prog 51:=⟨_,Tryz.func51,by kernel_rfl,rfl⟩
theorem fn52:Fn Tryz.prog 52:=⟨_,Tryz.func52,by kernel_rfl,rfl⟩
theorem fn53:Fn Tryz.prog 53:=⟨_,Tryz.func53,by kernel_rfl,rfl⟩
theorem fn54:Fn Tryz.prog 54:=⟨_,Tryz.func54,by kernel_rfl,rfl⟩
theorem fn76:Fn Tryz.prog 76:=⟨_,Tryz.func76,by kernel_rfl,rfl⟩
theorem fn77:Fn Tryz.prog 77:=⟨_,Tryz.func77,by kernel_rfl,rfl⟩
theorem fn78:Fn Tryz.prog 78:=⟨_,Tryz.func78,by kernel_rfl,rfl⟩
theorem fn79:Fn Tryz.prog 79:=⟨_,Tryz.func79,by kernel_rfl,rfl⟩
theorem imOk_yes {ds:List Int} {fs:List (List Term)} {i:Nat} (h1:isForm ds (fm fs i)=true) (h2:homog ds (fm fs i)=true) (h3:degF ds (fm fs i) = -1∨degF ds (fm fs i)=ds.getD i 0+1):imOk ds fs i=true:=by
 unfold imOk degOk;rw [h1,h2]
 rcases h3 with h | h <;> rw [decide_eq_true h] <;> simp
theorem imOk_no1 {ds:List Int} {fs:List (List Term)} {i:Nat} (h1:isForm ds (fm fs i)=false):imOk ds fs i=false:=by unfold imOk;rw [h1];rfl
theorem imOk_no2 {ds:List Int} {fs:List (List Term)} {i:Nat} (h1:homog ds (fm fs i)=false):imOk ds fs i=false:=by unfold imOk degOk;rw [h1];simp
theorem imOk_no3 {ds:List Int} {fs:List (List Term)} {i:Nat} (h1 : ¬degF ds (fm fs i) = -1) (h2 : ¬degF ds (fm fs i)=ds.getD i 0+1):imOk ds fs i=false:=by unfold imOk degOk;rw [decide_eq_false h1,decide_eq_false h2];simp
theorem l02Is_c {B:World} {H0 H:HP} {L:List SA} {w:World} {qad qaf:Option Addr} {cad caf:Nat} {ad:List Int} {af:List (List Term)} (had:Ints H qad ad) (haf:Forms H qaf af) (hn8:ad.length≤1048576) (hn9:af.length≤1048576) (hl9 : ∀i,i<af.length→(fm af i).length≤1048576) (hH:Hp B H0 H L w):Calls Tryz.prog 25 [.agg [.slice qad ad.length cad,.slice qaf af.length caf].toArray].toArray w fun e w'=>e = .returned (.bool (isAlg ad af))∧Hp B H0 H L w':=by
 refine JB Tryz.func25 rfl 86 rfl rfl [(0,.agg [.slice qad ad.length cad,.slice qaf af.length caf].toArray)] rfl hH ?_;clear hH;refine Je fun _ hK1 _=>(Jb (Eg rfl rfl rfl fun g1=>(Jg (Jd rfl) rfl (Jf (Ja (hK1 (Je fun _ hK2 _=>(Je fun _ hK3 _=>(Jb (Jg (Jt u27 rfl sz24 rfl) rfl (Jg (Jv rfl At.z rfl pl24) rfl (Jx fn51 rfl rfl fun w hH=>(l01Degrees_c had (by omega) hH).mono ?_))))))))))));rintro _ w ⟨rfl,hH⟩;refine ⟨_,rfl,fun a hF=>JQ hF hH ?_⟩;refine Jg (Es rfl) rfl (Jg (Jc rfl) rfl (JZ (jd:=11) rfl (fun hg11=>?_) (fun hg11=>?_)))
 ·
  try have hg11p:=of_decide_eq_true hg11
  refine JE rfl rfl rfl hg11 (JE rfl rfl rfl hg11 (JE rfl rfl rfl hg11 (JE rfl rfl rfl hg11 (JE rfl rfl rfl hg11 (JE rfl rfl rfl hg11 (JE rfl rfl rfl hg11 (Jg (JP rfl hg11 rfl) rfl (Jf (Ja (hK3 (Ek rfl (Je fun _ hK4 _=>(Jb (Jg (Jd rfl) rfl (Jf ?_)))))))))))))));refine Ja (hK4 (Js (Ji (Ju rfl (Res.tmp rfl) fun w hH=>?_))));replace hH:=hH.tail;exact ⟨rb (by unfold isAlg;rw [show isDeg ad=false by simpa using hg11];rfl),hH⟩
 ·
  try have hg11p:=of_decide_eq_false hg11
  refine JK (Jt u27 rfl sz25 rfl) rfl rfl rfl hg11 (JK (Jv rfl At.z rfl pl25) rfl rfl rfl hg11 (JK (Jq u25 rfl rfl) rfl rfl rfl hg11 (JK (Jt u27 rfl sz24 rfl) rfl rfl rfl hg11 (JK (Jv rfl At.z rfl pl24) rfl rfl rfl hg11 (JK (Jq u24 rfl rfl) rfl rfl rfl hg11 (JK (En rfl rfl) rfl rfl rfl hg11 (Jg (JN rfl hg11 rfl) rfl (Jf (Ja (hK3 (Jm rfl (fun hc19=>?_) (fun hc19=>?_))))))))))))
  ·
   refine Je fun _ hK5 _=>(Jb (Jg (Jd rfl) rfl (Jf (Ja (hK5 (Js (Ji (Ju rfl (Res.tmp rfl) fun w hH=>?_))))))));replace hH:=hH.tail;exact ⟨rb (by unfold isAlg;rw [decide_eq_false (show ¬af.length=ad.length by omega)];simp),hH⟩
  ·
   have hD:isDeg ad=true:=by simpa using hg11
   have hn:=isDeg_len hD;have hd:=isDeg_bd hD
   have hlen:af.length=ad.length:=by omega
   have hpos9 : ∀j,j<ad.length→0≤ad.getD j 0:=fun j _=>(hd j).1;refine Jk (Ja (hK2 (Je fun _ hK6 _=>(Je fun _ hK7 _=>(Jb (Jg (Jd rfl) rfl (Jf (Ja (hK7 (Jp (JH (σ:=Nat) (fun (i:Nat)=>[(3,.int .i64 (i:Int))]) (fun (i:Nat)=>H) (fun (i:Nat)=>obj g1 (.cells [.slice qad ad.length cad,.slice qaf af.length caf].toArray 27 (0,0))::L) (fun (i:Nat)=>i≤af.length∧∀j,j<i→imOk ad af j=true) (fun (i:Nat)=>af.length - i) 0 ⟨by omega,fun j hj=>by omega⟩ ⟨rfl,trivial⟩ rfl rfl ?_)))))))))));rintro i ⟨hi,hI⟩ _ hAg0;refine Je fun _ hK8 _=>(Je fun _ hK9 _=>(Jb (Jg (Jc rfl) rfl (Jg (Jt u27 rfl sz25 rfl) rfl (Jg (Jv rfl At.z rfl pl25) rfl (Jg (Jq u25 rfl rfl) rfl (Jg (JV rfl rfl) rfl (Jf (Ja (hK9 (Jm rfl (fun hc24=>?_) (fun hc24=>?_))))))))))))
   ·
    have hl0:=hl9 i (by omega);have hdi:=hd i;refine Jk (Ja (hK8 (Je fun _ hK10 _=>(Jp (Je fun _ hK11 _=>(Je fun _ hK12 _=>(Et [[], [0], [], [2], [], [3,4], [5]] (by kernel_rfl) (Jz (fun gh=>Jt u27 rfl sz24 rfl) (Jz (fun gh=>Jv rfl At.z rfl pl24) (Jz (fun gh=>Jt u27 rfl sz25 rfl) (Jz (fun gh=>Jv rfl At.z rfl pl25) (Jz (fun gh=>Jc rfl) (Jz (fun gh=>JY u25 sz43 rfl rfl rfl (by omega) haf.sm) ?_)))))))))))));obtain ⟨qe33,ce33,he33,le33,Fe33⟩:=haf i (by omega);refine Jz (fun gh=>JO (cs:=[_]) rfl (one_cell he33) (haf.sm (i:=i) (by omega)) ag43) (Ec 7 1 foll0 (by kernel_rfl) rfl rfl fun gh=>(Er (us':=(27,_)::(28,_)::(29,_)::(30,_)::(31,_)::(32,_)::(33,_)::_) (L':=_) rfl rfl (Jx fn52 rfl rfl fun w hH=>(l01Is_c had Fe33 (by omega) hpos9 (by omega) hH).mono ?_)));rintro _ w ⟨rfl,hH⟩;refine ⟨_,rfl,fun a hF=>JQ hF hH ?_⟩;refine Jf (Ed (JG (Es rfl) rfl (Ee (Ja (hK12 (Ei rfl (fun h35=>?_) (fun h35=>?_)))))))
    ·
     refine Je fun _ hK13 _=>(Jb (Jg (Jd rfl) rfl (Jf (Ja (hK13 (Js (Ji (JL (Ji (Ji (JL (Ji (Ju rfl (Res.tmp rfl) fun w hH=>?_)))))))))))));replace hH:=hH.tail;exact ⟨rb (by unfold isAlg;rw [imsOk_bad (i:=i) (by omega) (imOk_no1 (by simpa using h35))];simp),hH⟩
    ·
     have hfo:isForm ad (fm af i)=true:=by simpa using h35
     refine Jk (Ja (hK11 (Je fun _ hK14 _=>(Et [[], [0], [], [2], [], [3,4], [5]] (by kernel_rfl) (Jz (fun gh=>Jt u27 rfl sz24 rfl) (Jz (fun gh=>Jv rfl At.z rfl pl24) (Jz (fun gh=>Jt u27 rfl sz25 rfl) (Jz (fun gh=>Jv rfl At.z rfl pl25) (Jz (fun gh=>Jc rfl) (Jz (fun gh=>JY u25 sz43 rfl rfl rfl (by omega) haf.sm) ?_))))))))));obtain ⟨qe43,ce43,he43,le43,Fe43⟩:=haf i (by omega);refine Jz (fun gh=>JO (cs:=[_]) rfl (one_cell he43) (haf.sm (i:=i) (by omega)) ag43) (Ec 7 1 foll0 (by kernel_rfl) rfl rfl fun gh=>(Er (us':=(37,_)::(38,_)::(39,_)::(40,_)::(41,_)::(42,_)::(43,_)::_) (L':=_) rfl rfl (Jx fn53 rfl rfl fun w hH=>(l01Degree_c had Fe43 hn hd (by omega) hH).mono ?_)));rintro _ w ⟨rfl,hH⟩;refine ⟨_,rfl,fun a hF=>JQ hF hH ?_⟩;refine Jf (Ed (JG (Jc rfl) rfl (JG (JJ rfl rfl) rfl (JG (JJ rfl rfl) rfl (JG (Jd rfl) rfl (JG (Jd rfl) rfl (Ee (Ja (hK14 (Je fun _ hK15 _=>(Jb (Jg (Jc rfl) rfl (Jg (Es rfl) rfl (Jg (Jc rfl) rfl (JZ (jd:=49) rfl (fun h49=>?_) (fun h49=>?_))))))))))))))))
     ·
      try have h49p:=of_decide_eq_true h49
      refine JE rfl rfl rfl h49 (JE rfl rfl rfl h49 (JE rfl rfl rfl h49 (JE rfl rfl rfl h49 (JE rfl rfl rfl h49 (JE rfl rfl rfl h49 (JE rfl rfl rfl h49 (JE rfl rfl rfl h49 (JE rfl rfl rfl h49 (EU rfl rfl rfl (EU rfl rfl rfl (EU rfl rfl rfl (EU rfl rfl rfl (EU rfl rfl rfl (EU rfl rfl rfl ?_))))))))))))));refine EU rfl rfl rfl (EU rfl rfl rfl (JE rfl rfl rfl h49 (Jg (JP rfl h49 rfl) rfl (Jf (Ja (hK15 (Ek rfl (Je fun _ hK16 _=>(Jb (Jg (Jd rfl) rfl (Jf (Ja (hK16 (Js (JL (Ji ?_))))))))))))))));refine Ji (JL (Ji (Ju rfl (Res.tmp rfl) fun w hH=>?_)));replace hH:=hH.tail;exact ⟨rb (by unfold isAlg;rw [imsOk_bad (i:=i) (by omega) (imOk_no2 (by simpa using h49))];simp),hH⟩
     ·
      try have h49p:=of_decide_eq_false h49
      refine JK (Jt u27 rfl sz25 rfl) rfl rfl rfl h49 (JK (Jv rfl At.z rfl pl25) rfl rfl rfl h49 (JK (Jc rfl) rfl rfl rfl h49 (JK (JY u25 sz43 rfl rfl rfl (by omega) haf.sm) rfl rfl rfl h49 (JK (Ep u43 rfl sz41 rfl (haf.sm (i:=i) (by omega))) rfl rfl rfl h49 ?_))));obtain ⟨qe55,ce55,he55,le55,Fe55⟩:=haf i (by omega);refine JK (JR rfl he55 pl41) rfl rfl rfl h49 (JK (Jq u41 rfl rfl) rfl rfl rfl h49 (JK (Em rfl rfl) rfl rfl rfl h49 (JK (Jc rfl) rfl rfl rfl h49 (JZ (jd:=58) rfl (fun h58=>?_) (fun h58=>?_)))))
      ·
       try have h58p:=of_decide_eq_true h58
       refine JK (Jc rfl) rfl rfl rfl h58 (JK (Jt u27 rfl sz24 rfl) rfl rfl rfl h58 (JK (Jv rfl At.z rfl pl24) rfl rfl rfl h58 (JK (Jc rfl) rfl rfl rfl h58 (JK (JY u24 sz2 rfl rfl rfl (by omega) had.sm) rfl rfl rfl h58 (JK (JR rfl (had _ (by omega)) pl2) rfl rfl rfl h58 (JK (Jy rfl rfl (by first | exact nw _ (by omega) | rfl)) rfl rfl rfl h58 (JK (En rfl rfl) rfl rfl rfl h58 (JK (JP rfl h58 rfl) rfl rfl rfl h49 (Jg (JN rfl h49 rfl) rfl (Jf (Ja (hK15 (Jm rfl (fun h68=>?_) (fun h68=>?_))))))))))))))
       ·
        refine Je fun _ hK17 _=>(Jb (Jg (Jd rfl) rfl (Jf (Ja (hK17 (Js (JL (Ji (Ji (JL (Ji (Ju rfl (Res.tmp rfl) fun w hH=>?_))))))))))));replace hH:=hH.tail;exact ⟨rb (by unfold isAlg;rw [imsOk_bad (i:=i) (by omega) (imOk_no3 (fun e=>(degF_neg hn hd (haf.wfss.fm i) (by simpa using h49)).1 e (by omega)) h68)];simp),hH⟩
       ·
        refine Jk (JD (Ja (hK10 (Jb (Jg (Jc rfl) rfl (Jg (Jy rfl rfl (by first | exact nw _ (by omega) | rfl)) rfl (Jg (Jd rfl) rfl (Jf (Ja ?_)))))))));exact hAg0 (i+1) ⟨by omega,upto hI (imOk_yes hfo (by simpa using h49) (.inr (Decidable.not_not.1 h68)))⟩ (by omega) 53 rfl rfl ⟨rfl,trivial⟩ rfl rfl
      ·
       try have h58p:=of_decide_eq_false h58
       refine JE rfl rfl rfl h58 (JE rfl rfl rfl h58 (JE rfl rfl rfl h58 (JE rfl rfl rfl h58 (JE rfl rfl rfl h58 (JE rfl rfl rfl h58 (JE rfl rfl rfl h58 (JE rfl rfl rfl h58 (JK (JN rfl h58 rfl) rfl rfl rfl h49 (Jg (JN rfl h49 rfl) rfl (Jf (Ja (hK15 (Ew rfl (Jk (JD ?_)))))))))))))));refine Ja (hK10 (Jb (Jg (Jc rfl) rfl (Jg (Jy rfl rfl (by first | exact nw _ (by omega) | rfl)) rfl (Jg (Jd rfl) rfl (Jf (Ja ?_)))))));exact hAg0 (i+1) ⟨by omega,upto hI (imOk_yes hfo (by simpa using h49) (.inl ((degF_neg hn hd (haf.wfss.fm i) (by simpa using h49)).2 (by omega))))⟩ (by omega) 53 rfl rfl ⟨rfl,trivial⟩ rfl rfl
   ·
    have hM9:=imsOk_good (ds:=ad) (fs:=af) (fun j hj=>hI j (by omega));have hA:=AlgOk.of hD hlen hM9 haf.wfss;refine JI (Jl (Jl (JT (Ja (hK6 (Je fun _ hK18 _=>(Je fun _ hK19 _=>(Jb (Jg (Jd rfl) rfl (Jf (Ja (hK19 (Jp (JH (σ:=Nat) (fun (k:Nat)=>[(6,.int .i64 (k:Int))]) (fun (k:Nat)=>H) (fun (k:Nat)=>obj g1 (.cells [.slice qad ad.length cad,.slice qaf af.length caf].toArray 27 (0,0))::L) (fun (k:Nat)=>k≤af.length∧∀j,j<k→(dS ad af (toS (fm af j))).length=0) (fun (k:Nat)=>af.length - k) 0 ⟨by omega,fun j hj=>by omega⟩ ⟨rfl,trivial⟩ rfl rfl ?_))))))))))))));rintro k ⟨hk,hJ⟩ _ hAg1;refine Je fun _ hK20 _=>(Je fun _ hK21 _=>(Jb (Jg (Jc rfl) rfl (Jg (Jt u27 rfl sz25 rfl) rfl (Jg (Jv rfl At.z rfl pl25) rfl (Jg (Jq u25 rfl rfl) rfl (Jg (JV rfl rfl) rfl (Jf (Ja (hK21 (Jm rfl (fun h73=>?_) (fun h73=>?_))))))))))))
    ·
     have hkl:k<af.length:=by omega
     refine Jk (Ja (hK20 (Je fun _ hK22 _=>(Jp (Je fun _ hK23 _=>(Et [[], [], [1], [], [2,3], [4]] (by kernel_rfl) (Jz (fun gh=>Jn rfl At.z (by simpa [*] using ag27)) (Jz (fun gh=>Jt u27 rfl sz25 rfl) (Jz (fun gh=>Jv rfl At.z rfl pl25) (Jz (fun gh=>Jc rfl) (Jz (fun gh=>JY u25 sz43 rfl rfl rfl (by omega) haf.sm) ?_)))))))))));obtain ⟨qe81,ce81,he81,le81,Fe81⟩:=haf k (by omega);refine Jz (fun gh=>JO (cs:=[_]) rfl (one_cell he81) (haf.sm (i:=k) (by omega)) ag43) (Ec 6 1 foll0 (by kernel_rfl) rfl rfl fun gh=>(Er (us':=(76,_)::(77,_)::(78,_)::(79,_)::(80,_)::(81,_)::_) (L':=_) rfl rfl (Jx fn54 rfl rfl fun w hH=>(l02D_c had haf Fe81 hn hd hA.fok hA.hl hA.kex (hA.fok k hkl).1 (hA.kex k hkl) (by omega) hA.len (hA.len k hkl) hH).mono ?_)));rintro _ w ⟨qo82,co82,rfl,hH⟩;refine ⟨_,rfl,fun a hF=>JQ hF hH ?_⟩;refine Jf (Ed (JG (PR.fieldV u43 rfl pl41 rfl rfl) rfl (JG (Jq u41 rfl rfl) rfl (JG (Em rfl rfl) rfl (Ee (Ja (hK23 (Jm rfl (fun h85=>?_) (fun h85=>?_)))))))))
     ·
      refine Je fun _ hK24 _=>(Jb (Jg (Jd rfl) rfl (Jf (Ja (hK24 (Js (JL (Ji (Ji (JL (Ji (Ju rfl (Res.tmp rfl) fun w hH=>?_))))))))))));replace hH:=hH.tail;replace hH:=hH.tail;exact ⟨rb (by unfold isAlg;rw [noD_bad (i:=k) (by omega) (by rw [ofS_len] at h85;omega)];simp),hH⟩
     ·
      refine Jk (JD (Ja (hK22 (Jb (Jg (Jc rfl) rfl (Jg (Jy rfl rfl (by first | exact nw _ (by omega) | rfl)) rfl (Jg (Jd rfl) rfl (Jf (Ja (JF .z ?_))))))))));exact hAg1 (k+1) ⟨by omega,upto hJ (by rw [ofS_len] at h85;omega)⟩ (by omega) 19 rfl rfl ⟨rfl,trivial⟩ rfl rfl
    ·
     refine JI (Jl (Jl (JT (Ja (hK18 (Je fun _ hK25 _=>(Jb (Jg (Jd rfl) rfl (Jf (Ja (hK25 (Js (Ju rfl (Res.tmp rfl) fun w hH=>?_)))))))))))));replace hH:=hH.tail;exact ⟨rb (by unfold isAlg;rw [hD,decide_eq_true hlen,hM9,noD_good (fun j hj=>hJ j (by omega))];rfl),hH⟩
def noDf (ds:List Int) (fs:List (List Term)) (ts:List Term):Bool:=decide ((dS ds fs (toS ts)).length>0)
theorem noD_any {ds:List Int} {fs:List (List Term)}:noD ds fs = !(fs.any (noDf ds fs)):=by
 cases h:fs.any (noDf ds fs) with
 | true=>
  obtain ⟨x,hx,hp⟩:=List.any_eq_true.1 h;obtain ⟨j,hj,rfl⟩:=List.mem_iff_getElem.1 hx;rw [fm_eq hj] at hp;rw [noD_bad hj (by unfold noDf at hp;have:=of_decide_eq_true hp;omega)]
  rfl
 | false=>
  rw [noD_good fun j hj=>by
   have:=List.any_eq_false.1 h _ (fm_mem hj);unfold noDf at this;rw [decide_eq_true_eq] at this
   omega]
  rfl
theorem IsAlgebra1_c {B:World} {H0 H:HP} {L:List SA} {w:World} {qts:Option Addr} {cts:Nat} {ts:List Term} {ba:Nat} {qad qaf:Option Addr} {cad caf:Nat} {ad:List Int} {af:List (List Term)} {Mi Ms:Int} (hts:Terms H qts ts) (pad:CellAt H ba 0 (.slice qad ad.length cad)) (paf:CellAt H ba 1 (.slice qaf af.length caf)) (had:Ints H qad ad) (haf:Forms H qaf af) (hn:ad.length≤8) (hd : ∀j,0≤ad.getD j 0∧ad.getD j 0≤12) (hf:Fok Mi af) (hl:af.length=ad.length) (hs:Sok Ms (toS ts)) (ho:Occ af.length (toS ts)) (hM:0≤Mi∧Ms+Mi+Ms≤1000000) (hll:ts.length≤1000000000) (hH:Hp B H0 H L w):Calls Tryz.prog 78 [.agg [.slice qts ts.length cts].toArray,.pointer (some ⟨ba,0,none⟩)].toArray w fun e w'=>e = .returned (.bool (noDf ad af ts))∧Hp B H0 H L w':=by
 refine JB Tryz.func78 rfl 9 rfl rfl [(0,.agg [.slice qts ts.length cts].toArray),(1,.pointer (some ⟨ba,0,none⟩))] rfl hH ?_;clear hH;refine Je fun _ hK1 _=>(Jb (Eg rfl rfl rfl fun g2=>(Jg (Jd rfl) rfl (Jf (Ja (hK1 (Je fun _ hK2 _=>(Jb (Jg (Jn rfl At.z (by simpa [*] using ag43)) rfl (Jx fn80 rfl rfl fun w hH=>(sumOf_c hts hs (by omega) hH).mono ?_))))))))));rintro _ w ⟨bo5,rfl,hH⟩;refine ⟨_,rfl,fun a hF=>JQ hF hH ?_⟩;refine Jx fn79 rfl rfl fun w hH=>hH.lend .z fun Hl1 hle1 hA1 hB1 hH=>(d_c (pad.le hle1) (paf.le hle1) (had.le hle1) (haf.le hle1) (omap_H hA1) hs hn hd hf hl ho hM hH).mono ?_;rintro _ w ⟨bo6,rfl,hH⟩;replace hH:=hB1 _ _ hH;refine ⟨_,rfl,fun a hF=>JQ hF hH ?_⟩;refine Jg (PR.lenO u112 rfl (.s .z) rfl) rfl (Jg (Em rfl rfl) rfl (Jg (Jd rfl) rfl (Jf (Ja (hK2 (Js (Ju rfl (Res.tmp rfl) fun w hH=>?_)))))));replace hH:=hH.tail;replace hH:=hH.tail;replace hH:=hH.tail;exact ⟨rb (by unfold noDf;exact decide_eq_decide.2 (by omega)),hH⟩
theorem IsAlgebra_c {B:World} {H0 H:HP} {L:List SA} {w:World} {qad qaf:Option Addr} {cad caf:Nat} {ad:List Int} {af:List (List Term)} (had:Ints H qad ad) (haf:Forms H qaf af) (hn8:ad.length≤1048576) (hn9:af.length≤1048576) (hl9 : ∀i,i<af.length→(fm af i).length≤1048576) (hH:Hp B H0 H L w):Calls Tryz.prog 45 [.agg [.slice qad ad.length cad,.slice qaf af.length caf].toArray].toArray w fun e w'=>e = .returned (.bool (isAlg ad af))∧Hp B H0 H L w':=by
 refine JB Tryz.func45 rfl 50 rfl rfl [(0,.agg [.slice qad ad.length cad,.slice qaf af.length caf].toArray)] rfl hH ?_;have hw0:=hH.old;have hw1:=hH.le;clear hH;refine Je fun _ hK1 _=>(Jb (Eg rfl rfl rfl fun g1=>(Jg (Jd rfl) rfl (Jf (Ja (hK1 (Je fun _ hK2 _=>(Je fun _ hK3 _=>(Jb (Jg (Jt u27 rfl sz24 rfl) rfl (Jg (Jv rfl At.z rfl pl24) rfl (Jx fn76 rfl rfl fun w hH=>(AreDegrees_c had (by omega) hH).mono ?_))))))))))));rintro _ w ⟨rfl,hH⟩;refine ⟨_,rfl,fun a hF=>JQ hF hH ?_⟩;refine Jg (Es rfl) rfl (Jg (Jc rfl) rfl (JZ (jd:=9) rfl (fun hg9=>?_) (fun hg9=>?_)))
 ·
  try have hg9p:=of_decide_eq_true hg9
  refine JE rfl rfl rfl hg9 (JE rfl rfl rfl hg9 (JE rfl rfl rfl hg9 (JE rfl rfl rfl hg9 (JE rfl rfl rfl hg9 (JE rfl rfl rfl hg9 (JE rfl rfl rfl hg9 (Jg (JP rfl hg9 rfl) rfl (Jf (Ja (hK3 (Ek rfl (Je fun _ hK4 _=>(Jb (Jg (Jd rfl) rfl (Jf ?_)))))))))))))));refine Ja (hK4 (Js (Ji (Ju rfl (Res.tmp rfl) fun w hH=>?_))));replace hH:=hH.tail;exact ⟨rb (by unfold isAlg;rw [show isDeg ad=false by simpa using hg9];rfl),hH⟩
 ·
  try have hg9p:=of_decide_eq_false hg9
  refine JK (Jt u27 rfl sz25 rfl) rfl rfl rfl hg9 (JK (Jv rfl At.z rfl pl25) rfl rfl rfl hg9 (JK (Jq u25 rfl rfl) rfl rfl rfl hg9 (JK (Jt u27 rfl sz24 rfl) rfl rfl rfl hg9 (JK (Jv rfl At.z rfl pl24) rfl rfl rfl hg9 (JK (Jq u24 rfl rfl) rfl rfl rfl hg9 (JK (En rfl rfl) rfl rfl rfl hg9 (Jg (JN rfl hg9 rfl) rfl (Jf (Ja (hK3 (Jm rfl (fun hc19=>?_) (fun hc19=>?_))))))))))))
  ·
   refine Je fun _ hK5 _=>(Jb (Jg (Jd rfl) rfl (Jf (Ja (hK5 (Js (Ji (Ju rfl (Res.tmp rfl) fun w hH=>?_))))))));replace hH:=hH.tail;exact ⟨rb (by unfold isAlg;rw [decide_eq_false (show ¬af.length=ad.length by omega)];simp),hH⟩
  ·
   have hD:isDeg ad=true:=by simpa using hg9
   have hn:=isDeg_len hD;have hd:=isDeg_bd hD
   have hlen:af.length=ad.length:=by omega
   have hpos9 : ∀j,j<ad.length→0≤ad.getD j 0:=fun j _=>(hd j).1;refine Jk (Ja (hK2 (Je fun _ hK6 _=>(Je fun _ hK7 _=>(Jb (Jg (Jt u27 rfl sz25 rfl) rfl (Jg (Jv rfl At.z rfl pl25) rfl (Jg (Jq u25 rfl rfl) rfl (Jg (Jc rfl) rfl (Jf (Ja (hK7 (Jp (JH (σ:=Nat) (fun (k:Nat)=>[(21,.int .i64 (k:Int))]) (fun (k:Nat)=>H) (fun (k:Nat)=>obj g1 (.cells [.slice qad ad.length cad,.slice qaf af.length caf].toArray 27 (0,0))::L) (fun (k:Nat)=>k≤af.length∧∀j,j<k→imOk ad af j=true) (fun (k:Nat)=>af.length - k) 0 ⟨by omega,fun j hj=>by omega⟩ ⟨rfl,trivial⟩ rfl rfl ?_))))))))))))));rintro k ⟨hk,hI⟩ _ hAg0;refine Je fun _ hK8 _=>(Jb (Jg (JV rfl rfl) rfl (Jf (Ja (hK8 (Je fun _ hK9 _=>(Jm rfl (fun hc24=>?_) (fun hc24=>?_))))))))
   ·
    have hl0:=hl9 k (by omega);have hdi:=hd k;refine Jk (Ja (hK9 (Je fun _ hK10 _=>(Jp (Je fun _ hK11 _=>(Jb (Jg (Jc rfl) rfl (Jg (JY u25 sz43 rfl rfl rfl (by omega) haf.sm) rfl ?_))))))));obtain ⟨qe25,ce25,he25,le25,Fe25⟩:=haf k (by omega);refine Jg (JO (cs:=[_]) rfl (one_cell he25) (haf.sm (i:=k) (by omega)) ag43) rfl (JM ze43 rfl fun g4=>(Jg (Jd rfl) rfl (Jr rfl rfl (by first | exact bytesC_one _ | exact intsC_one _ | exact Term.c_one _ | simp [Value.oneCell']) (by simpa [*] using sz43) (by simp [*]) At.z (Jf (Ja (hK11 (Je fun _ hK12 _=>(Et [[], [0], [], [1,2], [3], [4], [5], [6,5], [5], [5], [9,5], [5], [10,11,5], [12,5], [13,5]] (by kernel_rfl) (Jz (fun gh=>Jt u27 rfl sz24 rfl) (Jz (fun gh=>Jv rfl (.s .z) rfl pl24) (Jz (fun gh=>Jn rfl At.z (by simpa [*] using ag43)) (EX fn48 (fun gh=>rfl) (fun w X hH=>isForm_c had Fe25 (by omega) (by omega) hH) (Jz (fun gh=>Es rfl) (Jz (fun gh=>Jc rfl) (Kb 5 rfl (fun h31=>?_) (fun h31=>?_))))))))))))))))
    ·
     try have h31p:=of_decide_eq_true h31
     refine Eh rfl (fun gh=>rfl) h31 (Eh rfl (fun gh=>rfl) h31 (Eh rfl (fun gh=>rfl) h31 (Eh rfl (fun gh=>rfl) h31 (Eh rfl (fun gh=>rfl) h31 (Eh rfl (fun gh=>rfl) h31 (Eh rfl (fun gh=>rfl) h31 (Eh rfl (fun gh=>rfl) h31 (Eh rfl (fun gh=>rfl) h31 (Ec 15 1 foll0 (by kernel_rfl) rfl rfl fun gh=>(Er (us':=(26,_)::(27,_)::(28,_)::(29,_)::(30,_)::(31,_)::(32,_)::(33,_)::(34,_)::(35,_)::(36,_)::(37,_)::(38,_)::(39,_)::(40,_)::_) (L':=_) rfl rfl (JE rfl rfl rfl h31 (Jf (Ed (EH rfl rfl rfl h31 ?_))))))))))))));refine JG (JP rfl h31 rfl) rfl (Ee (Ja (hK12 (Ek rfl (Je fun _ hK13 _=>(Jb (Jg (Jd rfl) rfl (Jf (Ja (hK13 (Js (JL (Ji (Ji (JL (Ji ?_))))))))))))))));refine Ju rfl (Res.tmp rfl) fun w hH=>?_;replace hH:=hH.tail;replace hH:=hH.tail;exact ⟨rb (by unfold isAlg;rw [imsOk_bad (i:=k) (by omega) (imOk_no1 (by simpa using h31))];simp),hH⟩
    ·
     try have h31p:=of_decide_eq_false h31
     refine Ej (fun gh=>Jt u27 rfl sz24 rfl) rfl (fun gh=>rfl) h31 (Ej (fun gh=>Jv rfl (.s .z) rfl pl24) rfl (fun gh=>rfl) h31 (Ej (fun gh=>Jn rfl At.z (by simpa [*] using ag43)) rfl (fun gh=>rfl) h31 (Ej (fun gh=>Jt u27 rfl sz24 rfl) rfl (fun gh=>rfl) h31 (Ej (fun gh=>Jv rfl (.s .z) rfl pl24) rfl (fun gh=>rfl) h31 (Ej (fun gh=>Jc rfl) rfl (fun gh=>rfl) h31 (Ej (fun gh=>JY u24 sz2 rfl rfl rfl (by omega) had.sm) rfl (fun gh=>rfl) h31 (Ej (fun gh=>JR rfl (had _ (by omega)) pl2) rfl (fun gh=>rfl) h31 (Ej (fun gh=>Jy rfl rfl (by first | exact nw _ (by omega) | rfl)) rfl (fun gh=>rfl) h31 (Ec 15 1 foll0 (by kernel_rfl) rfl rfl fun gh=>(Er (us':=(26,_)::(27,_)::(28,_)::(29,_)::(30,_)::(31,_)::(32,_)::(33,_)::(34,_)::(35,_)::(36,_)::(37,_)::(38,_)::(39,_)::(40,_)::_) (L':=_) rfl rfl (Ez fn77 rfl rfl h31 rfl rfl fun w hH=>(isOfDegree_c had Fe25 hn hd (by omega) hH).mono ?_)))))))))));rintro _ w ⟨rfl,hH⟩;refine ⟨_,rfl,fun a hF=>JQ hF hH ?_⟩;refine Jf (Ed (EF (Es rfl) rfl rfl rfl h31 (JG (JN rfl h31 rfl) rfl (Ee (Ja (hK12 (Ei rfl (fun h43=>?_) (fun h43=>?_))))))))
     ·
      refine Je fun _ hK14 _=>(Jb (Jg (Jd rfl) rfl (Jf (Ja (hK14 (Js (JL (Ji (Ji (JL (Ji (Ju rfl (Res.tmp rfl) fun w hH=>?_))))))))))));replace hH:=hH.tail;replace hH:=hH.tail;exact ⟨rb (by unfold isAlg;rw [imsOk_bad (i:=k) (by omega) (by unfold imOk;rw [show degOk ad (fm af k) (ad.getD k 0+1)=false by simpa using h43];simp)];simp),hH⟩
     ·
      refine Jk (JD (Ja (hK10 (Jb (Jg (Jy rfl rfl (by first | exact nw _ (by omega) | rfl)) rfl (Jg (Jc rfl) rfl (Jf (Ja (JF .z ?_)))))))));exact hAg0 (k+1) ⟨by omega,upto hI (by unfold imOk;rw [show isForm ad (fm af k)=true by simpa using h31,show degOk ad (fm af k) (ad.getD k 0+1)=true by simpa using h43];rfl)⟩ (by omega) 27 rfl rfl ⟨rfl,trivial⟩ rfl rfl
   ·
    have hM9:=imsOk_good (ds:=ad) (fs:=af) (fun j hj=>hI j (by omega));have hA:=AlgOk.of hD hlen hM9 haf.wfss;refine JI (Jl (Jl (JT (Ja (hK6 (Je fun _ hK15 _=>(Jb (Jg (Jt u27 rfl sz25 rfl) rfl (Jg (Jv rfl At.z rfl pl25) rfl (Jg (PR.makeFunc (ys:=[]) (zs:=[_]) rfl rfl) rfl (EK .z fun H3 hle3 hc3=>?_)))))))))));have had3:=had.le hle3;have haf3:=haf.le hle3;have hcl:ClF B H0 H3 78 #[.pointer (some ⟨g1,0,none⟩)] (fun ts=>isForm ad ts=true∧Wfs ts) (noDf ad af):=fun H' L w q c x hle hS hx hH=>IsAlgebra1_c (Mi:=20) (Ms:=20) hx (CellAt.le (hc3 0 _ rfl) hle) (CellAt.le (hc3 1 _ rfl) hle) (had3.le hle) (haf3.le hle) hn hd hA.fok hA.hl (isForm_sok hS.2 hS.1) (Ex.occ (isForm_kex hd hn hS.2 hS.1) hA.hl) (by omega) (by have:=isForm_len4 hS.1;omega) hH;refine Jx fn46 rfl rfl fun w hH=>(ContainsFuncF_c haf3 fn78 hcl (by omega) (fun i hi=>⟨hA.ok i hi,hA.wf.fm i⟩) hH).mono ?_;rintro _ w ⟨rfl,hH⟩;refine ⟨_,rfl,fun a hF=>JQ hF hH ?_⟩;refine Jg (Es rfl) rfl (Jg (Jd rfl) rfl (Jf (Ja (hK15 (Js (Ju rfl (Res.tmp rfl) fun w hH=>?_))))));exact ⟨rb (by unfold isAlg;rw [hD,decide_eq_true hlen,hM9,noD_any];rfl),hH.weaken hle3 hw0 hw1⟩
theorem by43:Bytes Tryz.prog 43 24:=by unfold Bytes;kernel_rfl
theorem take_fm {fs:List (List Term)} {k:Nat} (hk:k<fs.length):fs.take (k+1)=fs.take k++[fm fs k]:=by
 rw [List.take_succ_eq_append_getElem hk,fm_eq hk]
theorem fn25:Fn Tryz.prog 25:=⟨_,Tryz.func25,by kernel_rfl,rfl⟩
theorem fn29:Fn Tryz.prog 29:=⟨_,Tryz.func29,by kernel_rfl,rfl⟩
theorem fn55:Fn Tryz.prog 55:=⟨_,Tryz.func55,by kernel_rfl,rfl⟩
section
variable {P : Program} {n : Nat} {B : World} {H0 H : HP} {us : List (Nat × Value)} {L : List SA} {t : TypeId} {x : Operand}
theorem PR.loadHb {ty:TypeId} {b:Nat} {u v:Value} (hx:opv us x=some (.pointer (some ⟨b,0,none⟩))) (h0:CellAt H b 0 u) (h1:CellAt H b 1 v) (hp:Agg P ty 2):PR P n B H0 us H L (.load ty x) t (.agg [u,v].toArray):=
 JO (q:=some ⟨b,0,none⟩) (k:=0) (cs:=[u,v]) hx (fun j w hj=>by
  match j,hj with
  | 0,hj=>simp at hj;subst hj;exact h0
  | 1,hj=>simp at hj;subst hj;exact h1
  | j+2,hj=>simp at hj) rfl hp
end
def bothC (ds:List Int) (fs:List (List Term)) (ts:List Term):Int:=if isAlg ds fs && isForm ds ts then 0 else 1
theorem isAlg_deg {ds:List Int} {fs:List (List Term)} (h:isAlg ds fs=true):isDeg ds=true:=by
 unfold isAlg at h;simp only [Bool.and_eq_true] at h;exact h.1.1.1
def wrd (m:List Int):Nat→Int
 | 0=>0
 | k+1=>wrd m k+m.getD k 0
theorem wrd_bd {m:List Int} {M:Int} (hm : ∀j,0≤m.getD j 0∧m.getD j 0≤M) : ∀k:Nat,0≤wrd m k∧wrd m k≤k * M
 | 0=>by simp [wrd]
 | k+1=>by
  have h1:=wrd_bd hm k
  have h2:=hm k
  have e:((k+1:Nat):Int) * M=k * M+M:=by rw [Int.natCast_add,Int.add_mul];simp
  rw [e]
  simp only [wrd]
  omega
def wrdAt (ts:List Term) (k:Nat):Int:=wrd (tm ts k).mono 8
def least (ts:List Term):Nat→Int
 | 0=>0
 | k+1=>if k=0∨wrdAt ts k<least ts k then wrdAt ts k else least ts k
theorem least_yes {ts:List Term} {k:Nat} (h:k=0∨wrdAt ts k<least ts k):wrdAt ts k=least ts (k+1):=by simp only [least];rw [if_pos h]
theorem least_no {ts:List Term} {k:Nat} (h : ¬(k=0∨wrdAt ts k<least ts k)):least ts k=least ts (k+1):=by simp only [least];rw [if_neg h]
theorem l02Both_c {B:World} {H0 H:HP} {L:List SA} {w:World} {qad qaf:Option Addr} {cad caf:Nat} {ad:List Int} {af:List (List Term)} {qts:Option Addr} {cts:Nat} {ts:List Term} (had:Ints H qad ad) (haf:Forms H qaf af) (hts:Terms H qts ts) (hn8:ad.length≤1048576) (hn9:af.length≤1048576) (hl9 : ∀i,i<af.length→(fm af i).length≤1048576) (hlt:ts.length≤9223372036854775807) (hH:Hp B H0 H L w):Calls Tryz.prog 38 [.agg [.slice qad ad.length cad,.slice qaf af.length caf].toArray,.agg [.slice qts ts.length cts].toArray].toArray w fun e w'=>e = .returned (.int .i64 (bothC ad af ts))∧Hp B H0 H L w':=by
 refine JB Tryz.func38 rfl 15 rfl rfl [(0,.agg [.slice qad ad.length cad,.slice qaf af.length caf].toArray),(1,.agg [.slice qts ts.length cts].toArray)] rfl hH ?_;clear hH;refine Je fun _ hK1 _=>(Jb (Eg rfl rfl rfl fun g2=>(Eg rfl rfl rfl fun g3=>(Jg (Jd rfl) rfl (Jf (Ja (hK1 (Je fun _ hK2 _=>(Je fun _ hK3 _=>(Jb (Jg (Jn rfl (.s .z) (by simpa [*] using ag27)) rfl (Jx fn25 rfl rfl fun w hH=>(l02Is_c had haf hn8 hn9 hl9 hH).mono ?_))))))))))));rintro _ w ⟨rfl,hH⟩;refine ⟨_,rfl,fun a hF=>JQ hF hH ?_⟩;refine Jg (Es rfl) rfl (Jg (Jc rfl) rfl (JZ (jd:=8) rfl (fun h8=>?_) (fun h8=>?_)))
 ·
  try have h8p:=of_decide_eq_true h8
  refine JE rfl rfl rfl h8 (JE rfl rfl rfl h8 (JE rfl rfl rfl h8 (JE rfl rfl rfl h8 (JE rfl rfl rfl h8 (Jg (JP rfl h8 rfl) rfl (Jf (Ja (hK3 (Ek rfl (Je fun _ hK4 _=>(Jb (Jg (Jd rfl) rfl (Jf (Ja (hK4 (Js ?_))))))))))))))));refine Ji (Ju rfl (Res.tmp rfl) fun w hH=>?_);replace hH:=hH.tail;replace hH:=hH.tail;exact ⟨ri (by unfold bothC;rw [show isAlg ad af=false by simpa using h8];rfl),hH⟩
 ·
  try have h8p:=of_decide_eq_false h8
  refine JK (Jt u27 rfl sz24 rfl) rfl rfl rfl h8 (JK (Jv rfl (.s .z) rfl pl24) rfl rfl rfl h8 (JK (Jn rfl At.z (by simpa [*] using ag43)) rfl rfl rfl h8 (Ez fn52 rfl rfl h8 rfl rfl fun w hH=>(l01Is_c had hts hn8 (fun j _=>(isDeg_bd (isAlg_deg (by simpa using h8)) j).1) hlt hH).mono ?_)));rintro _ w ⟨rfl,hH⟩;refine ⟨_,rfl,fun a hF=>JQ hF hH ?_⟩;refine JK (Es rfl) rfl rfl rfl h8 (Jg (JN rfl h8 rfl) rfl (Jf (Ja (hK3 (Ei rfl (fun h14=>?_) (fun h14=>?_))))))
  ·
   refine Je fun _ hK5 _=>(Jb (Jg (Jd rfl) rfl (Jf (Ja (hK5 (Js (Ji (Ju rfl (Res.tmp rfl) fun w hH=>?_))))))));replace hH:=hH.tail;replace hH:=hH.tail;exact ⟨ri (by unfold bothC;rw [show isForm ad ts=false by simpa using h14];simp),hH⟩
  ·
   refine Jk (Ja (hK2 (Je fun _ hK6 _=>(Jb (Jg (Jd rfl) rfl (Jf (Ja (hK6 (Js (Ju rfl (Res.tmp rfl) fun w hH=>?_))))))))));replace hH:=hH.tail;replace hH:=hH.tail;exact ⟨ri (by unfold bothC;rw [show isAlg ad af=true by simpa using h8,show isForm ad ts=true by simpa using h14];rfl),hH⟩
theorem l02Word_c {B:World} {H0 H:HP} {L:List SA} {w:World} {m:List Int} (hm:Mono m) (hH:Hp B H0 H L w):Calls Tryz.prog 55 [.agg (bytesC m).toArray].toArray w fun e w'=>e = .returned (.int .i64 (wrd m 8))∧Hp B H0 H L w':=by
 refine JB Tryz.func55 rfl 16 rfl rfl [(0,.agg (bytesC m).toArray)] rfl hH ?_;have hml:=hm.len;clear hH;refine Je fun _ hK1 _=>(Jb (Eg rfl rfl rfl fun g1=>(Jg (Jd rfl) rfl (Jf (Ja (hK1 (Je fun _ hK2 _=>(Jb (Jg (Jd rfl) rfl (Jf (Ja (hK2 (Je fun _ hK3 _=>(Je fun _ hK4 _=>(Jb (Jg (Jd rfl) rfl ?_))))))))))))))));refine Jf (Ja (hK4 (Jp (JH (σ:=Nat) (fun (k:Nat)=>[(4,.int .i64 (k:Int)),(3,.int .i64 (wrd m k))]) (fun (k:Nat)=>H) (fun (k:Nat)=>obj g1 (.cells (bytesC m).toArray 50 (0,0))::L) (fun (k:Nat)=>k≤8) (fun (k:Nat)=>8 - k) 0 (by omega) ⟨rfl,⟨rfl,trivial⟩⟩ rfl rfl ?_))));rintro k hI _ hAg0;have hk:=hI;have b1:=wrd_bd hm.bd k;have hb:=hm.bd k;refine Je fun _ hK5 _=>(Je fun _ hK6 _=>(Jb (Jg (Jc rfl) rfl (Jg (JV rfl rfl) rfl (Jf (Ja (hK6 (Jm rfl (fun hc6=>?_) (fun hc6=>?_)))))))))
 ·
  refine Jk (Ja (hK5 (Je fun _ hK7 _=>(Jp (Jb (Jg (Jc rfl) rfl (Jg (Jc rfl) rfl (Jg (JW u50 sz5 rfl rfl rfl (by omega)) rfl (Jg (Jv rfl At.z (by first | exact bytesC_get (by simp [*];omega) | exact intsC_get (by simp [*];omega)) pl5) rfl (Jg (EC u5 u2 rfl (by first | exact nw _ (by omega) | rfl)) rfl (Jg (Jy rfl rfl (by first | exact nw _ (by omega) | rfl)) rfl (Jg (Jd rfl) rfl (Jf (JD (Ja (hK7 ?_))))))))))))))));refine Jb (Jg (Jc rfl) rfl (Jg (Jy rfl rfl (by first | exact nw _ (by omega) | rfl)) rfl (Jg (Jd rfl) rfl (Jf (Ja ?_)))));exact hAg0 (k+1) (by omega) (by omega) 14 rfl rfl ⟨rfl,⟨rfl,trivial⟩⟩ rfl rfl
 ·
  refine JI (Jl (Jl (JT (Ja (hK3 (Je fun _ hK8 _=>(Jb (Jg (Jc rfl) rfl (Jg (Jd rfl) rfl (Jf (Ja (hK8 (Js (Ju rfl (Res.tmp rfl) fun w hH=>?_))))))))))))));replace hH:=hH.tail
  obtain rfl:k=8:=by omega
  exact ⟨rfl,hH⟩
theorem plength_c {B:World} {H0 H:HP} {L:List SA} {w:World} {p:List Int} (hp:p.length=8) (hs:Small p) (hH:Hp B H0 H L w):Calls Tryz.prog 29 [.agg (intsC p).toArray].toArray w fun e w'=>e = .returned (.int .i64 (wrd p 8))∧Hp B H0 H L w':=by
 refine JB Tryz.func29 rfl 15 rfl rfl [(0,.agg (intsC p).toArray)] rfl hH ?_;clear hH;refine Je fun _ hK1 _=>(Jb (Eg rfl rfl rfl fun g1=>(Jg (Jd rfl) rfl (Jf (Ja (hK1 (Je fun _ hK2 _=>(Jb (Jg (Jd rfl) rfl (Jf (Ja (hK2 (Je fun _ hK3 _=>(Je fun _ hK4 _=>(Jb (Jg (Jn rfl At.z (by simpa [*] using ag63)) rfl ?_))))))))))))))));refine Jg (Jc rfl) rfl (Jf (Ja (hK4 (Jp (JH (σ:=Nat) (fun (k:Nat)=>[(7,.int .i64 (k:Int)),(3,.int .i64 (wrd p k))]) (fun (k:Nat)=>H) (fun (k:Nat)=>obj g1 (.cells (intsC p).toArray 63 (0,0))::L) (fun (k:Nat)=>k≤8) (fun (k:Nat)=>8 - k) 0 (by omega) ⟨rfl,⟨rfl,trivial⟩⟩ rfl rfl ?_)))));rintro k hI _ hAg0;have hk:=hI;have b1:=wrd_bd hs k;have hb:=hs k;refine Je fun _ hK5 _=>(Jb (Jg (JV rfl rfl) rfl (Jf (Ja (hK5 (Je fun _ hK6 _=>(Jm rfl (fun hc8=>?_) (fun hc8=>?_))))))))
 ·
  refine Jk (Ja (hK6 (Je fun _ hK7 _=>(Jp (Je fun _ hK8 _=>(Jb (Jg (PR.index u63 sz3 pl3 rfl rfl rfl (by omega) (by first | exact bytesC_get (by simp [*];omega) | exact intsC_get (by simp [*];omega))) rfl (Jg (Jd rfl) rfl (Jf (Ja (hK8 (Jb (Jg (Jc rfl) rfl (Jg (Jc rfl) rfl (Jg (Jy rfl rfl (by first | exact nw _ (by omega) | rfl)) rfl (Jg (Jd rfl) rfl ?_))))))))))))))));refine Jf (JD (Ja (hK7 (Jb (Jg (Jy rfl rfl (by first | exact nw _ (by omega) | rfl)) rfl (Jg (Jc rfl) rfl (Jf (Ja ?_))))))));exact hAg0 (k+1) (by omega) (by omega) 11 rfl rfl ⟨rfl,⟨rfl,trivial⟩⟩ rfl rfl
 ·
  refine JI (Jl (Jl (JT (Ja (hK3 (Je fun _ hK9 _=>(Jb (Jg (Jc rfl) rfl (Jg (Jd rfl) rfl (Jf (Ja (hK9 (Js (Ju rfl (Res.tmp rfl) fun w hH=>?_))))))))))))));replace hH:=hH.tail
  obtain rfl:k=8:=by omega
  exact ⟨rfl,hH⟩
theorem l02Least_c {B:World} {H0 H:HP} {L:List SA} {w:World} {qts:Option Addr} {cts:Nat} {ts:List Term} (hts:Terms H qts ts) (hl:ts.length≤9223372036854775807) (hH:Hp B H0 H L w):Calls Tryz.prog 39 [.agg [.slice qts ts.length cts].toArray].toArray w fun e w'=>e = .returned (.int .i64 (least ts ts.length))∧Hp B H0 H L w':=by
 refine JB Tryz.func39 rfl 29 rfl rfl [(0,.agg [.slice qts ts.length cts].toArray)] rfl hH ?_;clear hH;refine Je fun _ hK1 _=>(Jb (Eg rfl rfl rfl fun g1=>(Jg (Jd rfl) rfl (Jf (Ja (hK1 (Je fun _ hK2 _=>(Jb (Jg (Jd rfl) rfl (Jf (Ja (hK2 (Je fun _ hK3 _=>(Je fun _ hK4 _=>(Jb (Jg (Jd rfl) rfl ?_))))))))))))))));refine Jf (Ja (hK4 (Jp (JH (σ:=Nat) (fun (k:Nat)=>[(4,.int .i64 (k:Int)),(3,.int .i64 (least ts k))]) (fun (k:Nat)=>H) (fun (k:Nat)=>obj g1 (.cells [.slice qts ts.length cts].toArray 43 (0,0))::L) (fun (k:Nat)=>k≤ts.length) (fun (k:Nat)=>ts.length - k) 0 (by omega) ⟨rfl,⟨rfl,trivial⟩⟩ rfl rfl ?_))));rintro k hI _ hAg0;have hk:=hI;refine Je fun _ hK5 _=>(Je fun _ hK6 _=>(Jb (Jg (Jc rfl) rfl (Jg (Jt u43 rfl sz41 rfl) rfl (Jg (Jv rfl At.z rfl pl41) rfl (Jg (Jq u41 rfl rfl) rfl (Jg (JV rfl rfl) rfl (Jf (Ja (hK6 (Jm rfl (fun hc10=>?_) (fun hc10=>?_))))))))))))
 ·
  refine Jk (Ja (hK5 (Je fun _ hK7 _=>(Jp (Je fun _ hK8 _=>(Jb (Jg (Jt u43 rfl sz41 rfl) rfl (Jg (Jv rfl At.z rfl pl41) rfl (Jg (Jc rfl) rfl (Jg (Eo u41 sz52 rfl rfl rfl (by omega) hts.sm) rfl (Jg (Ep u52 rfl sz50 rfl (hts.sm (i:=k) (by omega))) rfl (Jg (JO rfl (hts.mono (by omega)) (hts.sm (i:=k) (by omega)) (by rw [bytesC_length,(hts.wf _ (by omega)).mono.len];exact ag50)) rfl (Jx fn55 rfl rfl fun w hH=>(l02Word_c (hts.wf k (by omega)).mono hH).mono ?_)))))))))))));rintro _ w ⟨rfl,hH⟩;refine ⟨_,rfl,fun a hF=>JQ hF hH ?_⟩;refine Jg (Jd rfl) rfl (Jf (Ja (hK8 (Je fun _ hK9 _=>(Jb (Jg (Jc rfl) rfl (Jg (Ef rfl rfl) rfl (Jg (Jc rfl) rfl (JZ (jd:=22) rfl (fun h22=>?_) (fun h22=>?_))))))))))
  ·
   try have h22p:=of_decide_eq_true h22
   refine JE rfl rfl rfl h22 (JE rfl rfl rfl h22 (JE rfl rfl rfl h22 (Jg (JP rfl h22 rfl) rfl (Jf (Ja (hK9 (Ek rfl (Jb (Jg (Jc rfl) rfl (Jg (Jd rfl) rfl (Jf (JD (Ja (hK7 (Jb (Jg (Jc rfl) rfl ?_))))))))))))))));refine Jg (Jy rfl rfl (by first | exact nw _ (by omega) | rfl)) rfl (Jg (Jd rfl) rfl (Jf (Ja ?_)));exact hAg0 (k+1) (by omega) (by omega) 27 rfl rfl ⟨rfl,⟨(vi (least_yes (.inl (by omega)))),trivial⟩⟩ rfl rfl
  ·
   try have h22p:=of_decide_eq_false h22
   refine JK (Jc rfl) rfl rfl rfl h22 (JK (Jc rfl) rfl rfl rfl h22 (JK (JV rfl rfl) rfl rfl rfl h22 (Jg (JN rfl h22 rfl) rfl (Jf (Ja (hK9 (Jm rfl (fun h26=>?_) (fun h26=>?_))))))))
   ·
    refine Jb (Jg (Jc rfl) rfl (Jg (Jd rfl) rfl (Jf (JD (Ja (hK7 (Jb (Jg (Jc rfl) rfl (Jg (Jy rfl rfl (by first | exact nw _ (by omega) | rfl)) rfl (Jg (Jd rfl) rfl (Jf (Ja ?_))))))))))));exact hAg0 (k+1) (by omega) (by omega) 27 rfl rfl ⟨rfl,⟨(vi (least_yes (.inr h26))),trivial⟩⟩ rfl rfl
   ·
    refine Jk (JD (Ja (hK7 (Jb (Jg (Jc rfl) rfl (Jg (Jy rfl rfl (by first | exact nw _ (by omega) | rfl)) rfl (Jg (Jd rfl) rfl (Jf (Ja ?_)))))))));exact hAg0 (k+1) (by omega) (by omega) 25 rfl rfl ⟨rfl,⟨(vi (least_no (fun h=>h.elim (by omega) h26))),trivial⟩⟩ rfl rfl
 ·
  refine JI (Jl (Jl (JT (Ja (hK3 (Je fun _ hK10 _=>(Jb (Jg (Jc rfl) rfl (Jg (Jd rfl) rfl (Jf (Ja (hK10 (Js (Ju rfl (Res.tmp rfl) fun w hH=>?_))))))))))))));replace hH:=hH.tail
  obtain rfl:k=ts.length:=by omega
  exact ⟨rfl,hH⟩
theorem wordLength_c {B:World} {H0 H:HP} {L:List SA} {w:World} {qts:Option Addr} {cts:Nat} {ts:List Term} (hts:Terms H qts ts) (hl:ts.length≤9223372036854775807) (hH:Hp B H0 H L w):Calls Tryz.prog 37 [.agg [.slice qts ts.length cts].toArray].toArray w fun e w'=>e = .returned (.int .i64 (least ts ts.length))∧Hp B H0 H L w':=by
 refine JB Tryz.func37 rfl 29 rfl rfl [(0,.agg [.slice qts ts.length cts].toArray)] rfl hH ?_;clear hH;refine Je fun _ hK1 _=>(Jb (Eg rfl rfl rfl fun g1=>(Jg (Jd rfl) rfl (Jf (Ja (hK1 (Je fun _ hK2 _=>(Jb (Jg (Jd rfl) rfl (Jf (Ja (hK2 (Je fun _ hK3 _=>(Je fun _ hK4 _=>(Jb (Jg (Jt u43 rfl sz41 rfl) rfl ?_))))))))))))))));refine Jg (Jv rfl At.z rfl pl41) rfl (Jg (Jq u41 rfl rfl) rfl (Jg (Jc rfl) rfl (Jf (Ja (hK4 (Jp (JH (σ:=Nat) (fun (k:Nat)=>[(10,.int .i64 (k:Int)),(3,.int .i64 (least ts k))]) (fun (k:Nat)=>H) (fun (k:Nat)=>obj g1 (.cells [.slice qts ts.length cts].toArray 43 (0,0))::L) (fun (k:Nat)=>k≤ts.length) (fun (k:Nat)=>ts.length - k) 0 (by omega) ⟨rfl,⟨rfl,trivial⟩⟩ rfl rfl ?_)))))));rintro k hI _ hAg0;have hk:=hI;refine Je fun _ hK5 _=>(Jb (Jg (JV rfl rfl) rfl (Jf (Ja (hK5 (Je fun _ hK6 _=>(Jm rfl (fun hc11=>?_) (fun hc11=>?_))))))))
 ·
  refine Jk (Ja (hK6 (Je fun _ hK7 _=>(Jp (Je fun _ hK8 _=>(Jb (Jg (Jc rfl) rfl (Jg (Eo u41 sz52 rfl rfl rfl (by omega) hts.sm) rfl (Jg (JO rfl (hts.cell _ (by omega)) (hts.sm (i:=k) (by omega)) (by rw [Term.c_length (hts.wf _ (by omega))];exact ag52)) rfl (JM (cs:=(default:Term).c) ze52 rfl fun g5=>(Jg (Jd rfl) rfl (J.stTerm rfl rfl sz52 zero_wf (hts.wf k (by omega)) At.z (Jf (Ja (hK8 (Je fun _ hK9 _=>?_))))))))))))))));refine Jb (Jg (Jt u52 rfl sz50 rfl) rfl (Jg (EQ rfl At.z (hts.wf k (by omega)) ag50) rfl (Jx fn59 rfl rfl fun w hH=>(powerOf_c (hts.wf k (by omega)).mono hH).mono ?_)));rintro _ w ⟨rfl,hH⟩;refine ⟨_,rfl,fun a hF=>JQ hF hH ?_⟩;refine Jx fn29 rfl rfl fun w hH=>(plength_c (hts.wf k (by omega)).mono.len (hts.wf k (by omega)).mono.small hH).mono ?_;rintro _ w ⟨rfl,hH⟩;refine ⟨_,rfl,fun a hF=>JQ hF hH ?_⟩;refine Jg (Jd rfl) rfl (Jf (Ja (hK9 (Je fun _ hK10 _=>(Jb (Jg (Jc rfl) rfl (Jg (Ef rfl rfl) rfl (Jg (Jc rfl) rfl (JZ (jd:=21) rfl (fun h21=>?_) (fun h21=>?_))))))))))
  ·
   try have h21p:=of_decide_eq_true h21
   refine JE rfl rfl rfl h21 (JE rfl rfl rfl h21 (JE rfl rfl rfl h21 (Jg (JP rfl h21 rfl) rfl (Jf (Ja (hK10 (Ek rfl (Jb (Jg (Jc rfl) rfl (Jg (Jd rfl) rfl (Jf (JD (Ja (hK7 (Jb (Jg (Jy rfl rfl (by first | exact nw _ (by omega) | rfl)) rfl ?_))))))))))))))));refine Jg (Jc rfl) rfl (Jf (Ja (JF .z ?_)));exact hAg0 (k+1) (by omega) (by omega) 24 rfl rfl ⟨rfl,⟨(vi (least_yes (.inl (by omega)))),trivial⟩⟩ rfl rfl
  ·
   try have h21p:=of_decide_eq_false h21
   refine JK (Jc rfl) rfl rfl rfl h21 (JK (Jc rfl) rfl rfl rfl h21 (JK (JV rfl rfl) rfl rfl rfl h21 (Jg (JN rfl h21 rfl) rfl (Jf (Ja (hK10 (Jm rfl (fun h25=>?_) (fun h25=>?_))))))))
   ·
    refine Jb (Jg (Jc rfl) rfl (Jg (Jd rfl) rfl (Jf (JD (Ja (hK7 (Jb (Jg (Jy rfl rfl (by first | exact nw _ (by omega) | rfl)) rfl (Jg (Jc rfl) rfl (Jf (Ja (JF .z ?_))))))))))));exact hAg0 (k+1) (by omega) (by omega) 24 rfl rfl ⟨rfl,⟨(vi (least_yes (.inr h25))),trivial⟩⟩ rfl rfl
   ·
    refine Jk (JD (Ja (hK7 (Jb (Jg (Jy rfl rfl (by first | exact nw _ (by omega) | rfl)) rfl (Jg (Jc rfl) rfl (Jf (Ja (JF .z ?_)))))))));exact hAg0 (k+1) (by omega) (by omega) 22 rfl rfl ⟨rfl,⟨(vi (least_no (fun h=>h.elim (by omega) h25))),trivial⟩⟩ rfl rfl
 ·
  refine JI (Jl (Jl (JT (Ja (hK3 (Je fun _ hK11 _=>(Jb (Jg (Jc rfl) rfl (Jg (Jd rfl) rfl (Jf (Ja (hK11 (Js (Ju rfl (Res.tmp rfl) fun w hH=>?_))))))))))))));replace hH:=hH.tail
  obtain rfl:k=ts.length:=by omega
  exact ⟨rfl,hH⟩
theorem u57:Tryz.prog.underlying 57=some (TypeDesc.pointer 27):=by kernel_rfl
theorem pl57:Plain Tryz.prog 57:=⟨_,u57,rfl⟩
theorem fn23:Fn Tryz.prog 23:=⟨_,Tryz.func23,by kernel_rfl,rfl⟩
theorem fn37:Fn Tryz.prog 37:=⟨_,Tryz.func37,by kernel_rfl,rfl⟩
theorem fn38:Fn Tryz.prog 38:=⟨_,Tryz.func38,by kernel_rfl,rfl⟩
theorem fn39:Fn Tryz.prog 39:=⟨_,Tryz.func39,by kernel_rfl,rfl⟩
theorem fn45:Fn Tryz.prog 45:=⟨_,Tryz.func45,by kernel_rfl,rfl⟩
theorem fn47:Fn Tryz.prog 47:=⟨_,Tryz.func47,by kernel_rfl,rfl⟩
theorem fn49:Fn Tryz.prog 49:=⟨_,Tryz.func49,by kernel_rfl,rfl⟩
def codeA (ds:List Int) (fs:List (List Term)) (gs:List (List Term)):Int:=if isAlg ds fs && gs.all (isForm ds) then 0 else 1
theorem any_no {ds:List Int} : ∀gs:List (List Term),(gs.any fun ts=>!(isForm ds ts)) = !(gs.all (isForm ds))
 | []=>rfl
 | g::gs=>by simp only [List.any_cons,List.all_cons,any_no gs,Bool.not_and]
theorem codeA_one (ds:List Int) (fs:List (List Term)) (ts:List Term):codeA ds fs [ts]=bothC ds fs ts:=by unfold codeA bothC;simp
theorem bothC_ne {ds:List Int} {fs:List (List Term)} {ts:List Term} (h:bothC ds fs ts≠0):(isAlg ds fs && isForm ds ts)=false:=by
 unfold bothC at h
 cases e:(isAlg ds fs && isForm ds ts) with
 | false=>rfl
 | true=>rw [e,if_pos rfl] at h;exact absurd rfl h
theorem bothC_eq {ds:List Int} {fs:List (List Term)} {ts:List Term} (h : ¬bothC ds fs ts≠0):(isAlg ds fs && isForm ds ts)=true:=by
 unfold bothC at h
 cases e:(isAlg ds fs && isForm ds ts) with
 | true=>rfl
 | false=>rw [e] at h;exact absurd (by decide) h
theorem forms_one {H:HP} {g:Nat} {q:Option Addr} {c:Nat} {ts:List Term} (h:cellO H (some ⟨g,0,none⟩) 0=some (.slice q ts.length c)) (hc:ts.length≤c) (ht:Terms H q ts):Forms H (some ⟨g,0,none⟩) [ts]:=fun i hi=>by
 obtain rfl:i=0:=by simp at hi;omega
 exact ⟨q,c,h,hc,ht⟩
theorem len_one {ts:List Term} {M:Nat} (h:ts.length≤M) : ∀i,i<[ts].length→(fm [ts] i).length≤M:=fun i hi=>by
 obtain rfl:i=0:=by simp at hi;omega
 exact h
theorem algebraCode1_c {B:World} {H0 H:HP} {L:List SA} {w:World} {qts:Option Addr} {cts:Nat} {ts:List Term} {bba:Nat} {ba:Nat} {qad qaf:Option Addr} {cad caf:Nat} {ad:List Int} {af:List (List Term)} (hts:Terms H qts ts) (kba:cellO H (some ⟨bba,0,none⟩) 0=some (.pointer (some ⟨ba,0,none⟩))) (pad:CellAt H ba 0 (.slice qad ad.length cad)) (paf:CellAt H ba 1 (.slice qaf af.length caf)) (had:Ints H qad ad) (haf:Forms H qaf af) (hn8:ad.length≤1048576) (hlt:ts.length≤9223372036854775807) (hH:Hp B H0 H L w):Calls Tryz.prog 47 [.agg [.slice qts ts.length cts].toArray,.pointer (some ⟨bba,0,none⟩)].toArray w fun e w'=>e = .returned (.bool (!(isForm ad ts)))∧Hp B H0 H L w':=by
 refine JB Tryz.func47 rfl 11 rfl rfl [(0,.agg [.slice qts ts.length cts].toArray),(1,.pointer (some ⟨bba,0,none⟩))] rfl hH ?_;clear hH;refine Je fun _ hK1 _=>(Jb (Eg rfl rfl rfl fun g2=>(Jg (Jd rfl) rfl (Jf (Ja (hK1 (Je fun _ hK2 _=>(Et [[], [0], [1], [2], []] (by kernel_rfl) (Jz (fun gh=>JR (q:=some ⟨bba,0,none⟩) (k:=0) rfl kba pl57) (Jz (fun gh=>El rfl) (Jz (fun gh=>Jt u27 rfl sz24 rfl) (Jz (fun gh=>JR (q:=some ⟨ba,0,none⟩) (k:=0) rfl pad pl24) (Jz (fun gh=>Jn rfl At.z (by simpa [*] using ag43)) (Ec 5 1 foll0 (by kernel_rfl) rfl rfl fun gh=>(Er (us':=(4,_)::(5,_)::(6,_)::(7,_)::(8,_)::_) (L':=_) rfl rfl ?_)))))))))))))));refine Jx fn48 rfl rfl fun w hH=>(isForm_c had hts hn8 hlt hH).mono ?_;rintro _ w ⟨rfl,hH⟩;refine ⟨_,rfl,fun a hF=>JQ hF hH ?_⟩;refine Jf (Ed (JG (Es rfl) rfl (JG (Jd rfl) rfl (Ee (Ja (hK2 (Js (Ju rfl (Res.tmp rfl) fun w hH=>?_))))))));replace hH:=hH.tail;exact ⟨rfl,hH⟩
theorem algebraCode_c {B:World} {H0 H:HP} {L:List SA} {w:World} {ba:Nat} {qad qaf:Option Addr} {cad caf:Nat} {ad:List Int} {af:List (List Term)} {qfs:Option Addr} {cfs:Nat} {fs:List (List Term)} (pad:CellAt H ba 0 (.slice qad ad.length cad)) (paf:CellAt H ba 1 (.slice qaf af.length caf)) (had:Ints H qad ad) (haf:Forms H qaf af) (hfs:Forms H qfs fs) (hn8:ad.length≤1048576) (hn9:af.length≤1048576) (hl9 : ∀i,i<af.length→(fm af i).length≤1048576) (hnf:fs.length≤9223372036854775807) (hlf : ∀i,i<fs.length→(fm fs i).length≤9223372036854775807) (hH:Hp B H0 H L w):Calls Tryz.prog 23 [.pointer (some ⟨ba,0,none⟩),.slice qfs fs.length cfs].toArray w fun e w'=>e = .returned (.int .i64 (codeA ad af fs))∧Hp B H0 H L w':=by
 refine JB Tryz.func23 rfl 18 rfl rfl [(0,.pointer (some ⟨ba,0,none⟩)),(1,.slice qfs fs.length cfs)] rfl hH ?_;have hw0:=hH.old;have hw1:=hH.le;clear hH;refine Je fun _ hK1 _=>(Jb (Eg rfl rfl rfl fun g2=>(Jg (Jd rfl) rfl (Jf (Ja (hK1 (Je fun _ hK2 _=>(Jb (Jg (Jv rfl At.z rfl pl57) rfl (Jg (El rfl) rfl (Jg (PR.loadHb rfl pad paf ag27) rfl (Jx fn45 rfl rfl fun w hH=>(IsAlgebra_c had haf hn8 hn9 hl9 hH).mono ?_))))))))))));rintro _ w ⟨rfl,hH⟩;refine ⟨_,rfl,fun a hF=>JQ hF hH ?_⟩;refine Jg (Es rfl) rfl (Jg (Jc rfl) rfl (JZ (jd:=11) rfl (fun h11=>?_) (fun h11=>?_)))
 ·
  try have h11p:=of_decide_eq_true h11
  refine JE rfl rfl rfl h11 (JE rfl rfl rfl h11 (JE rfl rfl rfl h11 (Jg (JP rfl h11 rfl) rfl (Jg (Jd rfl) rfl (Jf (Ja (hK2 (Je fun _ hK3 _=>(Jb (Jg (Jc rfl) rfl (Jx fn49 rfl rfl fun w hH=>(when_c hH).mono ?_)))))))))));rintro _ w ⟨rfl,hH⟩;refine ⟨_,rfl,fun a hF=>JQ hF hH ?_⟩;refine Jg (Jd rfl) rfl (Jf (Ja (hK3 (Js (Ju rfl (Res.tmp rfl) fun w hH=>?_)))));replace hH:=hH.tail;exact ⟨ri (by unfold codeA;rw [show isAlg ad af=false by simpa using h11];rfl),hH⟩
 ·
  try have h11p:=of_decide_eq_false h11
  refine JK (Jc rfl) rfl rfl rfl h11 (JK (PR.makeFunc (ys:=[]) (zs:=[_]) rfl rfl) rfl rfl rfl h11 (EK .z fun H3 hle3 hc3=>?_));have hfs3:=hfs.le hle3;have hcl:ClF B H0 H3 47 #[.pointer (some ⟨g2,0,none⟩)] (fun ts=>ts.length≤9223372036854775807) (fun ts=>!(isForm ad ts)):=fun H' L w q c x hle hS hx hH=>algebraCode1_c hx (cellO_le hle (hc3 0 _ rfl)) (pad.le (hle3.trans hle)) (paf.le (hle3.trans hle)) (had.le (hle3.trans hle)) (haf.le (hle3.trans hle)) hn8 hS hH;refine Ez fn46 rfl rfl h11 rfl rfl fun w hH=>(ContainsFuncF_c hfs3 fn47 hcl hnf hlf hH).mono ?_;rintro _ w ⟨rfl,hH⟩;refine ⟨_,rfl,fun a hF=>JQ hF hH ?_⟩;refine Jg (JN rfl h11 rfl) rfl (Jg (Jd rfl) rfl (Jf (Ja (hK2 (Je fun _ hK4 _=>(Jb (Jg (Jc rfl) rfl (Jx fn49 rfl rfl fun w hH=>(when_c hH).mono ?_))))))));rintro _ w ⟨rfl,hH⟩;refine ⟨_,rfl,fun a hF=>JQ hF hH ?_⟩;refine Jg (Jd rfl) rfl (Jf (Ja (hK4 (Js (Ju rfl (Res.tmp rfl) fun w hH=>?_)))));exact ⟨ri (by unfold codeA;rw [show isAlg ad af=true by simpa using h11,any_no];cases fs.all (isForm ad) <;> rfl),hH.weaken hle3 hw0 hw1⟩
def wlen (ds:List Int) (fs:List (List Term)) (ts:List Term):Int:=if isAlg ds fs && isForm ds ts then least ts ts.length else 0
theorem tup_bi {a b:Bool} {x y:Int} (h1:a=b) (h2:x=y):Ending.returned (.tuple #[.bool a,.int .i64 x]) = .returned (.tuple #[.bool b,.int .i64 y]):=by rw [h1,h2]
theorem tup_ii {a b:Int} {x y:Int} (h1:a=b) (h2:x=y):Ending.returned (.tuple #[.int .i64 a,.int .i64 x]) = .returned (.tuple #[.int .i64 b,.int .i64 y]):=by rw [h1,h2]
theorem bothC_z {ds:List Int} {fs:List (List Term)} {ts:List Term} (h : ¬bothC ds fs ts≠0):0=bothC ds fs ts:=by omega
theorem sWordLengthOf_c {B:World} {H0 H:HP} {L:List SA} {w:World} {qad qaf:Option Addr} {cad caf:Nat} {ad:List Int} {af:List (List Term)} {qts:Option Addr} {cts:Nat} {ts:List Term} (had:Ints H qad ad) (haf:Forms H qaf af) (hts:Terms H qts ts) (hn8:ad.length≤1048576) (hn9:af.length≤1048576) (hl9 : ∀i,i<af.length→(fm af i).length≤1048576) (hlt:ts.length≤9223372036854775807) (hcq:ts.length≤cts) (hH:Hp B H0 H L w):Calls Tryz.prog 19 [.agg [.slice qad ad.length cad,.slice qaf af.length caf].toArray,.agg [.slice qts ts.length cts].toArray].toArray w fun e w'=>e = .returned (.tuple #[.int .i64 (wlen ad af ts),.int .i64 (bothC ad af ts)])∧Hp B H0 H L w':=by
 refine JB Tryz.func19 rfl 15 rfl rfl [(0,.agg [.slice qad ad.length cad,.slice qaf af.length caf].toArray),(1,.agg [.slice qts ts.length cts].toArray)] rfl hH ?_;clear hH;refine Je fun _ hK1 _=>(Jb (Eg rfl rfl rfl fun g2=>(Eg rfl rfl rfl fun g3=>(Jg (Jd rfl) rfl (Jg (Jd rfl) rfl (Jf (Ja (hK1 (Je fun _ hK2 _=>(Je fun _ hK3 _=>(Jb (Jg (Jn rfl (.s .z) (by simpa [*] using ag27)) rfl (Jg (Jn rfl At.z (by simpa [*] using ag43)) rfl (Jx fn38 rfl rfl fun w hH=>(l02Both_c had haf hts hn8 hn9 hl9 hlt hH).mono ?_))))))))))))));rintro _ w ⟨rfl,hH⟩;refine ⟨_,rfl,fun a hF=>JQ hF hH ?_⟩;refine Jg (Jd rfl) rfl (Jf (Ja (hK3 (Je fun _ hK4 _=>(Jb (Jg (Jc rfl) rfl (Jg (En rfl rfl) rfl (Jf (Ja (hK4 (Jm rfl (fun h11=>?_) (fun h11=>?_))))))))))))
 ·
  refine Je fun _ hK5 _=>(Jb (Jg (Jc rfl) rfl (Jg (Jd rfl) rfl (Jg (Jd rfl) rfl (Jf (Ja (hK5 (Js (Ji (Eb rfl (Res.tmp rfl) (Res.tmp rfl) fun w hH=>?_))))))))));replace hH:=hH.tail;replace hH:=hH.tail;exact ⟨tup_ii (by unfold wlen;rw [bothC_ne h11];rfl) rfl,hH⟩
 ·
  refine Jk (Ja (hK2 (Je fun _ hK6 _=>(Jb (Jg (Jn rfl At.z (by simpa [*] using ag43)) rfl (Jx fn39 rfl rfl fun w hH=>(l02Least_c hts hlt hH).mono ?_))))));rintro _ w ⟨rfl,hH⟩;refine ⟨_,rfl,fun a hF=>JQ hF hH ?_⟩;refine Jg (Jd rfl) rfl (Jg (Jd rfl) rfl (Jf (Ja (hK6 (Js (Eb rfl (Res.tmp rfl) (Res.tmp rfl) fun w hH=>?_))))));replace hH:=hH.tail;replace hH:=hH.tail;exact ⟨tup_ii (by unfold wlen;rw [bothC_eq h11];rfl) (bothC_z h11),hH⟩
theorem WordLengthOf_c {B:World} {H0 H:HP} {L:List SA} {w:World} {qad qaf:Option Addr} {cad caf:Nat} {ad:List Int} {af:List (List Term)} {qts:Option Addr} {cts:Nat} {ts:List Term} (had:Ints H qad ad) (haf:Forms H qaf af) (hts:Terms H qts ts) (hn8:ad.length≤1048576) (hn9:af.length≤1048576) (hl9 : ∀i,i<af.length→(fm af i).length≤1048576) (hlt:ts.length≤9223372036854775807) (hcq:ts.length≤cts) (hH:Hp B H0 H L w):Calls Tryz.prog 18 [.agg [.slice qad ad.length cad,.slice qaf af.length caf].toArray,.agg [.slice qts ts.length cts].toArray].toArray w fun e w'=>e = .returned (.tuple #[.int .i64 (wlen ad af ts),.int .i64 (bothC ad af ts)])∧Hp B H0 H L w':=by
 refine JB Tryz.func18 rfl 15 rfl rfl [(0,.agg [.slice qad ad.length cad,.slice qaf af.length caf].toArray),(1,.agg [.slice qts ts.length cts].toArray)] rfl hH ?_;have hw0:=hH.old;have hw1:=hH.le;clear hH;refine Je fun _ hK1 _=>(Jb (Eg rfl rfl rfl fun g2=>(Eg rfl rfl rfl fun g3=>(Jg (Jd rfl) rfl (Jg (Jd rfl) rfl (Jf (Ja (hK1 (Je fun _ hK2 _=>(Je fun _ hK3 _=>(Jb (Jg (Jn rfl At.z (by simpa [*] using ag43)) rfl (J.lit1 u25 ze43 sz43 rfl rfl rfl rfl rfl rfl fun g8=>(EK .z fun H8 hle8 hc8=>?_))))))))))))));replace had:=had.le hle8;replace haf:=haf.le hle8;replace hts:=hts.le hle8;refine EK (.s .z) fun H2 hle2 hc2=>?_;replace had:=had.le hle2;replace haf:=haf.le hle2;replace hts:=hts.le hle2;have hFs:=forms_one (cellO_le hle2 (hc8 0 _ rfl)) hcq hts;have pad:CellAt H2 g2 0 (.slice qad ad.length cad):=hc2 0 _ rfl;have paf:CellAt H2 g2 1 (.slice qaf af.length caf):=hc2 1 _ rfl;refine Jx fn23 rfl rfl fun w hH=>(algebraCode_c pad paf had haf hFs hn8 hn9 hl9 (by simp) (len_one hlt) hH).mono ?_;rintro _ w ⟨rfl,hH⟩;refine ⟨_,rfl,fun a hF=>JQ hF hH ?_⟩;refine Jg (Jd rfl) rfl (Jf (Ja (hK3 (Je fun _ hK4 _=>(Jb (Jg (Jc rfl) rfl (Jg (En rfl rfl) rfl (Jf (Ja (hK4 (Jm rfl (fun h11=>?_) (fun h11=>?_))))))))))))
 ·
  rw [codeA_one] at h11 ⊢;refine Je fun _ hK5 _=>(Jb (Jg (Jc rfl) rfl (Jg (Jd rfl) rfl (Jg (Jd rfl) rfl (Jf (Ja (hK5 (Js (Ji (Eb rfl (Res.tmp rfl) (Res.tmp rfl) fun w hH=>?_))))))))));replace hH:=hH.tail;exact ⟨tup_ii (by unfold wlen;rw [bothC_ne h11];rfl) rfl,hH.weaken (hle8.trans hle2) hw0 hw1⟩
 ·
  rw [codeA_one] at h11;refine Jk (Ja (hK2 (Je fun _ hK6 _=>(Jb (Jg (Jn rfl At.z (by simpa [*] using ag43)) rfl (Jx fn37 rfl rfl fun w hH=>(wordLength_c hts hlt hH).mono ?_))))));rintro _ w ⟨rfl,hH⟩;refine ⟨_,rfl,fun a hF=>JQ hF hH ?_⟩;refine Jg (Jd rfl) rfl (Jg (Jd rfl) rfl (Jf (Ja (hK6 (Js (Eb rfl (Res.tmp rfl) (Res.tmp rfl) fun w hH=>?_))))));replace hH:=hH.tail;exact ⟨tup_ii (by unfold wlen;rw [bothC_eq h11];rfl) (bothC_z h11),hH.weaken (hle8.trans hle2) hw0 hw1⟩
theorem rows_eq_of {xs ys:List (List Int)} (hl:(xs.length:Int)=ys.length) (h : ∀j,j<xs.length→rw_ xs j=rw_ ys j):xs=ys:=by
 apply List.ext_getElem (by omega);intro j h1 h2;have:=h j h1
 rwa [rw_,rw_,List.getD_eq_getElem?_getD,List.getD_eq_getElem?_getD,List.getElem?_eq_getElem h1,List.getElem?_eq_getElem h2] at this
theorem fn85:Fn Tryz.prog 85:=⟨_,Tryz.func85,by kernel_rfl,rfl⟩
def genP (i:Nat):Pw:=(List.replicate 8 (0:Int)).set i 1
@[simp] theorem genP_len (i:Nat):(genP i).length=8:=by simp [genP]
theorem genP_get {i j:Nat} (hi:i<8):(genP i).getD j 0=if i=j then 1 else 0:=by
 unfold genP;rw [getD_set8]
 by_cases e:i=j
 ·rw [if_pos ⟨e,by simpa using hi⟩,if_pos e]
 ·rw [if_neg fun h=>e h.1,if_neg e,List.getD_eq_getElem?_getD,List.getElem?_replicate]
  split <;> rfl
theorem genP_pok {i:Nat} (hi:i<8):Pok 1 (genP i):=⟨by simp,fun j=>by
 rw [genP_get hi]
 split <;> omega⟩
theorem generator_c {B:World} {H0 H:HP} {L:List SA} {w:World} {i:Nat} (hi:i<8) (hH:Hp B H0 H L w):Calls Tryz.prog 85 [.int .i64 (i:Int)].toArray w fun e w'=>e = .returned (.agg (intsC (genP i)).toArray)∧Hp B H0 H L w':=by
 refine JB Tryz.func85 rfl 8 rfl rfl [(0,.int .i64 (i:Int))] rfl hH ?_;clear hH;refine Je fun _ hK1 _=>(Jb (JM ze63 rfl fun g2=>(Jf (Ja (hK1 (Je fun _ hK2 _=>(Jb (Jg (Ea bz63) rfl (JM ze63 rfl fun g3=>(Jr rfl rfl (by first | exact bytesC_one _ | exact intsC_one _ | exact Term.c_one _ | simp [Value.oneCell']) (by simpa [*] using sz63) (by simp [*]) At.z (Jf (Ja (hK2 (Je fun _ hK3 _=>(Jb (Jg (Jc rfl) rfl ?_))))))))))))))));refine Jg (JW (i':=i) u63 sz3 rfl rfl rfl (by omega)) rfl (J.storeI (m:=List.replicate 8 0) rfl rfl sz3 (by rw [List.length_replicate];exact hi) .z (Jf (Ja (hK3 (Je fun _ hK4 _=>(Jb (Jg (Jn rfl At.z (by simpa using ag63)) rfl (Jr rfl rfl (by first | exact bytesC_one _ | exact intsC_one _ | exact Term.c_one _ | simp [Value.oneCell']) (by simpa [*] using sz63) (by simp [*]) (.s .z) (Jf (Ja (hK4 (Js (Ju rfl (Res.agg rfl (.s .z) (by simpa [*] using ag63)) fun w hH=>?_)))))))))))));replace hH:=hH.tail;replace hH:=hH.tail;exact ⟨rfl,hH⟩
def linR (ds:Pw) (s:Sm):List Int:=(List.range ds.length).map fun k=>cf s (genP k)
@[simp] theorem linR_len (ds:Pw) (s:Sm):(linR ds s).length=ds.length:=by simp [linR]
def linK (s:Sm) (k:Nat):List Int:=(List.range k).map fun k=>cf s (genP k)
@[simp] theorem linK_len (s:Sm) (k:Nat):(linK s k).length=k:=by simp [linK]
theorem linK_succ (s:Sm) (k:Nat):linK s (k+1)=linK s k++[cf s (genP k)]:=by simp [linK,List.range_succ]
theorem linearRow_c {B:World} {H0 H:HP} {L:List SA} {w:World} {qds:Option Addr} {cds:Nat} {ds:List Int} {qts:Option Addr} {cts:Nat} {ts:List Term} {M:Int} (hds:Ints H qds ds) (hts:Terms H qts ts) (hn:ds.length≤8) (hs:Sok M (toS ts)) (hl:ts.length≤9223372036854775807) (hH:Hp B H0 H L w):Calls Tryz.prog 50 [.slice qds ds.length cds,.agg [.slice qts ts.length cts].toArray].toArray w fun e w'=>∃q c,e = .returned (.slice q ds.length c)∧Hp B H0 H (own 2 1 q ds.length c (intsC (linR ds (toS ts)))::L) w':=by
 refine JB Tryz.func50 rfl 25 rfl rfl [(0,.slice qds ds.length cds),(1,.agg [.slice qts ts.length cts].toArray)] rfl hH ?_;clear hH;refine Je fun _ hK1 _=>(Jb (Eg rfl rfl rfl fun g3=>(Jg (Jd rfl) rfl (Jf (Ja (hK1 (Je fun _ hK2 _=>(Jb (Jg (Jn rfl At.z (by simpa [*] using ag43)) rfl (Jx fn80 rfl rfl fun w hH=>(sumOf_c hts hs (by omega) hH).mono ?_))))))))));rintro _ w ⟨bo9,rfl,hH⟩;refine ⟨_,rfl,fun a hF=>JQ hF hH ?_⟩;refine EY (MK.lit0I u24 sz2) rfl fun qo10 co10=>(Jg (Jd rfl) rfl (Jg (Jd rfl) rfl (Jf (Ja (hK2 (Je fun _ hK3 _=>(Je fun _ hK4 _=>(Jb (Jg (Jc rfl) rfl (Jg (Jq u24 rfl rfl) rfl (Jg (Jc rfl) rfl (Jf (Ja (hK4 (Jp (JH (σ:=Option Addr × Nat × Nat) (fun ⟨q,c,k⟩=>[(13,.int .i64 (k:Int)),(6,.slice q (linK (toS ts) k).length c)]) (fun ⟨q,c,k⟩=>H) (fun ⟨q,c,k⟩=>own 2 1 q (linK (toS ts) k).length c (intsC (linK (toS ts) k))::osum bo9 (toS ts)::obj g3 (.cells [.slice qts ts.length cts].toArray 43 (0,0))::L) (fun ⟨q,c,k⟩=>k≤ds.length) (fun ⟨q,c,k⟩=>ds.length - k) (qo10,co10,0) (by show 0≤ds.length;omega) ⟨rfl,⟨rfl,trivial⟩⟩ rfl rfl ?_))))))))))))))));rintro ⟨q,c,k⟩ hI _ hAg0;have hk:=hI;have hol:=linK_len (toS ts) k;refine Je fun _ hK5 _=>(Jb (Jg (JV rfl rfl) rfl (Jf (Ja (hK5 (Je fun _ hK6 _=>(Jm rfl (fun hc14=>?_) (fun hc14=>?_))))))))
 ·
  refine Jk (Ja (hK6 (Je fun _ hK7 _=>(Jp (Je fun _ hK8 _=>(Jb (Jg (Jc rfl) rfl (Jg (Jd rfl) rfl (Jf (Ja (hK8 (Jb (Jg (Jc rfl) rfl (Jg (Jc rfl) rfl (Jg (Jc rfl) rfl (Jx fn85 rfl rfl fun w hH=>(generator_c (by omega) hH).mono ?_))))))))))))))));rintro _ w ⟨rfl,hH⟩;refine ⟨_,rfl,fun a hF=>JQ hF hH ?_⟩;refine Jg (PR.sumO pwK u112 zv2 rfl (.s .z) rfl (pwOk_of (genP_pok (by omega)) (by omega))) rfl (EY (MK.lit1I u24 ze2 sz2 rfl) rfl fun qo21 co21=>(J.appendOI u24 ze2 sz2 by2 rfl rfl (by simp only [List.length_cons,List.length_nil];omega) .z At.z (fun _ _=>At.z) rfl fun qo22 co22=>(Jg (Jd rfl) rfl (Jf (JD (Ja (hK7 (Jb (Jg (Jy rfl rfl (by first | exact nw _ (by omega) | rfl)) rfl (Jg (Jc rfl) rfl (Jf (Ja (JF .z ?_)))))))))))));exact hAg0 (qo22,co22,k+1) (by show k+1≤ds.length;omega) (by show ds.length - (k+1)<ds.length - k;omega) 15 rfl rfl ⟨rfl,⟨(by dsimp only;rw [linK_succ];rfl),trivial⟩⟩ rfl (by dsimp only;rw [linK_succ])
 ·
  refine JI (Jl (Jl (JT (Ja (hK3 (Je fun _ hK9 _=>(Jb (Jg (Jc rfl) rfl (Jg (Jd rfl) rfl (Jf (Ja (hK9 (Js (Ju rfl (Res.tmp rfl) fun w hH=>?_))))))))))))));replace hH:=hH.sublist (.cons_cons _ (.cons _ (.cons _ (List.Sublist.refl _))))
  obtain rfl:k=ds.length:=by omega
  rw [linK_len] at hH ⊢;exact ⟨_,_,rfl,hH⟩
theorem u29:Tryz.prog.underlying 29=some (TypeDesc.slice 24):=by kernel_rfl
theorem fn63:Fn Tryz.prog 63:=⟨_,Tryz.func63,by kernel_rfl,rfl⟩
theorem fn91:Fn Tryz.prog 91:=⟨_,Tryz.func91,by kernel_rfl,rfl⟩
def ClR (B:World) (H0 H:HP) (g:Nat) (cap:Array Value) (S:List Int→Prop) (p:List Int→Bool):Prop:=∀(H':HP) (L:List SA) (w:World) (q:Option Addr) (c:Nat) (x:List Int),Le H H' →S x→Ints H' q x→Hp B H0 H' L w→Calls Tryz.prog g (#[]++[.slice q x.length c].toArray++cap) w fun e w'=>e = .returned (.bool (p x))∧Hp B H0 H' L w'
theorem isMinimal11_c {B:World} {H0 H:HP} {L:List SA} {w:World} {x:Int} (hH:Hp B H0 H L w):Calls Tryz.prog 63 [.int .i64 x].toArray w fun e w'=>e = .returned (.bool (decide (x≠0)))∧Hp B H0 H L w':=by
 refine JB Tryz.func63 rfl 5 rfl rfl [(0,.int .i64 x)] rfl hH ?_;clear hH;refine Je fun _ hK1 _=>(Jb (Jg (Jd rfl) rfl (Jf (Ja (hK1 (Je fun _ hK2 _=>(Jb (Jg (Jc rfl) rfl (Jg (En rfl rfl) rfl (Jg (Jd rfl) rfl (Jf (Ja (hK2 (Js (Ju rfl (Res.tmp rfl) fun w hH=>?_)))))))))))))));exact ⟨rfl,hH⟩
theorem isMinimal1_c {B:World} {H0 H:HP} {L:List SA} {w:World} {qxs:Option Addr} {cxs:Nat} {xs:List Int} (hxs:Ints H qxs xs) (hn:xs.length≤1048576) (hH:Hp B H0 H L w):Calls Tryz.prog 61 [.slice qxs xs.length cxs].toArray w fun e w'=>e = .returned (.bool (xs.any fun x=>decide (x≠0)))∧Hp B H0 H L w':=by
 refine JB Tryz.func61 rfl 5 rfl rfl [(0,.slice qxs xs.length cxs)] rfl hH ?_;clear hH;refine Je fun _ hK1 _=>(Jb (Jg (Jd rfl) rfl (Jf (Ja (hK1 (Je fun _ hK2 _=>(Jb (Jg (Jc rfl) rfl (Jx fn62 rfl rfl fun w hH=>(ContainsFuncI_c hxs fn63 (fun x w hH=>by simpa only [Array.append_empty,Array.empty_append] using isMinimal11_c hH) hn hH).mono ?_)))))))));rintro _ w ⟨rfl,hH⟩;refine ⟨_,rfl,fun a hF=>JQ hF hH ?_⟩;refine Jg (Jd rfl) rfl (Jf (Ja (hK2 (Js (Ju rfl (Res.tmp rfl) fun w hH=>?_)))));exact ⟨rfl,hH⟩
def idxR (xs:List (List Int)) (p:List Int→Bool):Int:=if xs.any p then (xs.findIdx p:Int) else -1
theorem rw_eq {xs:List (List Int)} {j:Nat} (hj:j<xs.length):xs[j]=rw_ xs j:=by simp [rw_,List.getD_eq_getElem?_getD,List.getElem?_eq_getElem hj]
theorem idxR_hit {xs:List (List Int)} {p:List Int→Bool} {k:Nat} (hk:k<xs.length) (h : ∀j,j<k→p (rw_ xs j)=false) (hp:p (rw_ xs k)=true):idxR xs p=k:=by
 unfold idxR;have ha:xs.any p=true:=List.any_eq_true.2 ⟨xs[k],List.getElem_mem hk,by rw [rw_eq];exact hp⟩;rw [if_pos ha]
 have:xs.findIdx p=k:=by
  rw [List.findIdx_eq hk];exact ⟨by rw [rw_eq];exact hp,fun j hj=>by rw [rw_eq];exact h j hj⟩
 rw [this]
theorem idxR_miss {xs:List (List Int)} {p:List Int→Bool} (h : ∀j,j<xs.length→p (rw_ xs j)=false):idxR xs p = -1:=by
 unfold idxR;rw [if_neg];intro ha;obtain ⟨x,hx,hp⟩:=List.any_eq_true.1 ha;obtain ⟨j,hj,rfl⟩:=List.mem_iff_getElem.1 hx;rw [rw_eq hj,h j hj] at hp
 cases hp
theorem idxR_ge (xs:List (List Int)) (p:List Int→Bool):decide (idxR xs p≥0)=xs.any p:=by
 unfold idxR
 cases h:xs.any p with
 | true=>rw [if_pos rfl];exact decide_eq_true (by omega)
 | false=>rw [if_neg (by simp)];exact decide_eq_false (by omega)
theorem IndexFuncR_c {B:World} {H0 H:HP} {L:List SA} {w:World} {qxs:Option Addr} {cxs:Nat} {xs:List (List Int)} {gp:Nat} {capp:Array Value} {Sp:List Int→Prop} {p:List Int→Bool} (hxs:RowsR H qxs xs) (hgp:Fn Tryz.prog gp) (hp:ClR B H0 H gp capp Sp p) (hn:xs.length≤9223372036854775807) (hS : ∀i,i<xs.length→Sp (rw_ xs i)) (hH:Hp B H0 H L w):Calls Tryz.prog 91 [.slice qxs xs.length cxs,.func (.func gp) #[] capp].toArray w fun e w'=>e = .returned (.int .i64 (idxR xs p))∧Hp B H0 H L w':=by
 refine JB Tryz.func91 rfl 19 rfl rfl [(0,.slice qxs xs.length cxs),(1,.func (.func gp) #[] capp)] rfl hH ?_;clear hH;refine Je fun _ hK1 _=>(Jb (Jg (Jd rfl) rfl (Jf (Ja (hK1 (Je fun _ hK2 _=>(Je fun _ hK3 _=>(Jb (Jg (Jc rfl) rfl (Jg (Jq u29 rfl rfl) rfl (Jg (Jc rfl) rfl (Jf (Ja (hK3 (Jp (JH (σ:=Nat) (fun (k:Nat)=>[(8,.int .i64 (k:Int))]) (fun (k:Nat)=>H) (fun (k:Nat)=>L) (fun (k:Nat)=>k≤xs.length∧∀j,j<k→p (rw_ xs j)=false) (fun (k:Nat)=>xs.length - k) 0 ⟨by omega,fun j hj=>by omega⟩ ⟨rfl,trivial⟩ rfl rfl ?_))))))))))))))));rintro k hI _ hAg0;have hk:=hI.1;refine Je fun _ hK4 _=>(Jb (Jg (JV rfl rfl) rfl (Jf (Ja (hK4 (Je fun _ hK5 _=>(Jm rfl (fun hc9=>?_) (fun hc9=>?_))))))))
 ·
  refine Jk (Ja (hK5 (Je fun _ hK6 _=>(Jp (Je fun _ hK7 _=>(Jb (Jg (Jc rfl) rfl (Jg (Jd rfl) rfl (Jf (Ja (hK7 (Je fun _ hK8 _=>(Jb (Jg (Jc rfl) rfl (Jg (Jc rfl) rfl (Jg (Jc rfl) rfl ?_))))))))))))))));refine Jg (JY u29 sz24 rfl rfl rfl (by omega) hxs.sm) rfl ?_;obtain ⟨qe15,ce15,he15,le15,Fe15⟩:=hxs k (by omega);refine Jg (JR rfl he15 pl24) rfl (J.callV hgp rfl rfl rfl fun w hH=>(hp _ _ w _ _ _ (Le.refl _) (hS _ (by omega)) Fe15 hH).mono ?_);rintro _ w ⟨rfl,hH⟩;refine ⟨_,rfl,fun a hF=>JQ hF hH ?_⟩;refine Jf (Ja (hK8 (Ei rfl (fun h16=>?_) (fun h16=>?_))))
  ·
   refine Je fun _ hK9 _=>(Jb (Jg (Jc rfl) rfl (Jg (Jd rfl) rfl (Jf (Ja (hK9 (Js (JL (Ji (Ji (JL (Ji (Ju rfl (Res.tmp rfl) fun w hH=>?_)))))))))))));exact ⟨ri (idxR_hit (by omega) hI.2 h16).symm,hH⟩
  ·
   refine Jk (JD (Ja (hK6 (Jb (Jg (Jy rfl rfl (by first | exact nw _ (by omega) | rfl)) rfl (Jg (Jc rfl) rfl (Jf (Ja ?_))))))));exact hAg0 (k+1) ⟨by omega,upto hI.2 h16⟩ (by omega) 12 rfl rfl ⟨rfl,trivial⟩ rfl rfl
 ·
  refine JI (Jl (Jl (JT (Ja (hK2 (Je fun _ hK10 _=>(Jb (Jg (Jd rfl) rfl (Jf (Ja (hK10 (Js (Ju rfl (Res.tmp rfl) fun w hH=>?_)))))))))))));exact ⟨ri (idxR_miss (fun j hj=>hI.2 j (by omega))).symm,hH⟩
theorem ContainsFuncR_c {B:World} {H0 H:HP} {L:List SA} {w:World} {qxs:Option Addr} {cxs:Nat} {xs:List (List Int)} {gp:Nat} {capp:Array Value} {Sp:List Int→Prop} {p:List Int→Bool} (hxs:RowsR H qxs xs) (hgp:Fn Tryz.prog gp) (hp:ClR B H0 H gp capp Sp p) (hn:xs.length≤9223372036854775807) (hS : ∀i,i<xs.length→Sp (rw_ xs i)) (hH:Hp B H0 H L w):Calls Tryz.prog 60 [.slice qxs xs.length cxs,.func (.func gp) #[] capp].toArray w fun e w'=>e = .returned (.bool (xs.any p))∧Hp B H0 H L w':=by
 refine JB Tryz.func60 rfl 9 rfl rfl [(0,.slice qxs xs.length cxs),(1,.func (.func gp) #[] capp)] rfl hH ?_;clear hH;refine Je fun _ hK1 _=>(Jb (Jg (Jd rfl) rfl (Jf (Ja (hK1 (Je fun _ hK2 _=>(Jb (Jg (Jc rfl) rfl (Jg (Jc rfl) rfl (Jx fn91 rfl rfl fun w hH=>(IndexFuncR_c hxs hgp hp (by omega) hS hH).mono ?_))))))))));rintro _ w ⟨rfl,hH⟩;refine ⟨_,rfl,fun a hF=>JQ hF hH ?_⟩;refine Jg (PR.geq rfl rfl) rfl (Jg (Jd rfl) rfl (Jf (Ja (hK2 (Js (Ju rfl (Res.tmp rfl) fun w hH=>?_))))));exact ⟨rb (idxR_ge xs p),hH⟩
theorem wsum_zero {ds m:List Int} (h : ∀j,m.getD j 0=0) : ∀n:Nat,wsum ds m n=0
 | 0=>rfl
 | n+1=>by simp only [wsum];rw [wsum_zero h n,h n];simp
theorem isDeg_pos1 {ds:List Int} (h:isDeg ds=true) : ∀j,j<ds.length→1≤ds.getD j 0:=by
 intro j hj;unfold isDeg at h;rw [Bool.and_eq_true] at h;have:=List.all_eq_true.1 h.2 (ds.getD j 0) (by rw [List.getD_eq_getElem?_getD,List.getElem?_eq_getElem hj];exact List.getElem_mem hj);rw [Bool.and_eq_true,decide_eq_true_eq] at this
 omega
theorem ext8 {p q:List Int} (hp:p.length=8) (hq:q.length=8) (h : ∀j,j<8→p.getD j 0=q.getD j 0):p=q:=by
 apply List.ext_getElem (by omega);intro j h1 h2;have:=h j (by omega)
 rwa [List.getD_eq_getElem?_getD,List.getD_eq_getElem?_getD,List.getElem?_eq_getElem h1,List.getElem?_eq_getElem h2] at this
theorem wrd_nn {m:List Int} (hm : ∀j,0≤m.getD j 0) : ∀n:Nat,0≤wrd m n
 | 0=>by simp [wrd]
 | n+1=>by have h1:=wrd_nn hm n;have h2:=hm n;simp only [wrd];omega
theorem wrd_zero {m:List Int} (hm : ∀j,0≤m.getD j 0) : ∀n:Nat,wrd m n=0→∀j,j<n→m.getD j 0=0
 | 0,_,j,hj=>by omega
 | n+1,h,j,hj=>by
  have h1:=wrd_nn hm n
  have h2:=hm n
  simp only [wrd] at h
  by_cases e:j=n
  ·subst e;omega
  ·exact wrd_zero hm n (by omega) j (by omega)
theorem wrd_ones {m:List Int} (hm : ∀j,0≤m.getD j 0) : ∀n:Nat,wrd m n=1→∃k,k<n∧m.getD k 0=1∧∀j,j<n→j≠k→m.getD j 0=0
 | 0,h=>by simp [wrd] at h
 | n+1,h=>by
  have h1:=wrd_nn hm n
  have h2:=hm n
  simp only [wrd] at h
  by_cases e:m.getD n 0=0
  ·obtain ⟨k,hk,hk1,hk2⟩:=wrd_ones hm n (by omega)
   exact ⟨k,by omega,hk1,fun j hj hne=>by
    by_cases e2:j=n
    ·subst e2;exact e
    ·exact hk2 j (by omega) hne⟩
  ·exact ⟨n,by omega,by omega,fun j hj hne=>wrd_zero hm n (by omega) j (by omega)⟩
theorem wrd_gen {m:List Int} (hl:m.length=8) (hm : ∀j,0≤m.getD j 0) (h:wrd m 8=1) : ∃k,k<8∧m=genP k:=by
 obtain ⟨k,hk,h1,h2⟩:=wrd_ones hm 8 h;refine ⟨k,hk,ext8 hl (by simp) fun j hj=>?_⟩;rw [genP_get hk]
 by_cases e:k=j
 ·subst e;rw [if_pos rfl,h1]
 ·rw [if_neg e,h2 j hj fun h=>e h.symm]
theorem wrd_genP {k:Nat} (hk:k<8):wrd (genP k) 8=1:=by
 simp only [wrd,genP_get hk]
 rcases (by omega:k=0∨k=1∨k=2∨k=3∨k=4∨k=5∨k=6∨k=7) with h | h | h | h | h | h | h | h <;> subst h <;> rfl
theorem genP_inj {i j:Nat} (hi:i<8) (hj:j<8) (h:genP i=genP j):i=j:=by
 have h1:=genP_get (j:=j) hi;rw [h,genP_get hj,if_pos rfl] at h1
 by_cases e:i=j
 ·exact e
 ·rw [if_neg e] at h1;omega
theorem least_le {ts:List Term} : ∀n k:Nat,k<n→least ts n≤wrdAt ts k
 | 0,k,h=>by omega
 | n+1,k,h=>by
  simp only [least]
  by_cases e:k=n
  ·subst e
   split <;> omega
  ·have ih:=least_le (ts:=ts) n k (by omega)
   split
   ·rename_i h0;rcases h0 with h0 | h0 <;> omega
   ·omega
theorem least_hit {ts:List Term} : ∀n:Nat,0<n→∃k,k<n∧least ts n=wrdAt ts k
 | 0,h=>by omega
 | n+1,_=>by
  simp only [least]
  split
  ·exact ⟨n,by omega,rfl⟩
  ·rename_i h0
   obtain ⟨k,hk,e⟩:=least_hit (ts:=ts) n (by omega)
   exact ⟨k,by omega,e⟩
theorem tm_mem {ts:List Term} {i:Nat} (hi:i<ts.length):tm ts i∈ts:=by rw [← tm_eq hi];exact List.getElem_mem hi
theorem toS_in {ts:List Term} {i:Nat} (hi:i<ts.length):((tm ts i).mono,(tm ts i).fac)∈toS ts:=List.mem_map.2 ⟨tm ts i,tm_mem hi,rfl⟩
theorem toS_ix {ts:List Term} {x:Pw × Int} (h:x∈toS ts) : ∃i,i<ts.length∧x=((tm ts i).mono,(tm ts i).fac):=by
 obtain ⟨t,ht,rfl⟩:=toS_mem h;obtain ⟨i,hi,rfl⟩:=List.mem_iff_getElem.1 ht;exact ⟨i,hi,by rw [tm_eq hi]⟩
theorem cf_hit {s:Sm} {p:Pw} (h:cf s p≠0) : ∃x∈s,x.1=p:=by
 rcases Classical.em (∃x∈s,x.1=p) with h1 | h1
 ·exact h1
 ·exact absurd (cf_none fun x hx e=>h1 ⟨x,hx,e⟩) h
theorem good_facs {ds:List Int} {ts:List Term} {i:Nat} (h:goodAt ds ts i=true):isMono ds (tm ts i).mono=true∧1≤(tm ts i).fac:=by
 unfold goodAt at h;simp only [Bool.and_eq_true,decide_eq_true_eq] at h;exact ⟨h.1.1,h.1.2.1⟩
theorem linR_any {ds:Pw} {s:Sm}:((linR ds s).any fun x=>decide (x≠0))=true↔∃k,k<ds.length∧cf s (genP k)≠0:=by
 unfold linR;rw [List.any_map,List.any_eq_true]
 constructor
 ·rintro ⟨k,hk,h⟩;exact ⟨k,by simpa using hk,by simpa using h⟩
 ·rintro ⟨k,hk,h⟩;exact ⟨k,by simpa using hk,by simpa using h⟩
theorem lin_least {ds:List Int} {ts:List Term} (hn:ds.length≤8) (hw:Wfs ts) (hf:isForm ds ts=true) (hp : ∀k,k<ts.length→1≤wrdAt ts k):((linR ds (toS ts)).any fun x=>decide (x≠0))=decide (least ts ts.length=1):=by
 have hmono : ∀i,i<ts.length→Mono (tm ts i).mono:=fun i hi=>(hw _ (tm_mem hi)).mono;rw [Bool.eq_iff_iff,linR_any,decide_eq_true_eq]
 constructor
 ·rintro ⟨k,hk,h⟩;obtain ⟨x,hx,e⟩:=cf_hit h;obtain ⟨i,hi,rfl⟩:=toS_ix hx
  have h1:wrdAt ts i=1:=by unfold wrdAt;rw [show (tm ts i).mono=genP k from e,wrd_genP (by omega)]
  have h2:=least_le (ts:=ts) ts.length i hi;obtain ⟨k',hk',e'⟩:=least_hit (ts:=ts) ts.length (by omega);have:=hp k' hk'
  omega
 ·intro h
  have hl:0<ts.length:=by
   rcases Nat.eq_zero_or_pos ts.length with e | e
   ·rw [e] at h;simp [least] at h
   ·exact e
  obtain ⟨i,hi,e⟩:=least_hit (ts:=ts) ts.length hl;rw [h] at e;have hm:=hmono i hi;obtain ⟨k,hk,e2⟩:=wrd_gen hm.len (fun j=>(hm.bd j).1) e.symm;have hg:=good_facs (isForm_at hf hi);refine ⟨k,?_,?_⟩
  ·rcases Nat.lt_or_ge k ds.length with hlt | hge
   ·exact hlt
   ·have h3:=isMono_le hg.1 hk;rw [most_ge (by omega),e2,genP_get hk,if_pos rfl] at h3
    omega
  ·have hs:=isForm_sok hw hf;have:=cf_mem hs.nodup (toS_in hi)
   dsimp only at this
   rw [← e2,this]
   omega
theorem alg_wrd {ds:List Int} {fs:List (List Term)} (h:isAlg ds fs=true) (hw:Wfss fs) {i:Nat} (hi:i<fs.length) : ∀k,k<(fm fs i).length→1≤wrdAt (fm fs i) k:=fun k hk=>by
 have hA:=isAlg_ok h hw
 have h2:=h
 unfold isAlg at h2
 simp only [Bool.and_eq_true] at h2
 have hd1:=isDeg_pos1 h2.1.1.1
 have h3:=imsOk_at h2.1.2 hi
 unfold imOk degOk at h3
 simp only [Bool.and_eq_true,Bool.or_eq_true,decide_eq_true_eq] at h3
 have hm:Mono (tm (fm fs i) k).mono:=((hA.wf.fm i) _ (tm_mem hk)).mono
 have hz:=wrd_nn (fun j=>(hm.bd j).1) 8
 rcases (by omega:0<wrdAt (fm fs i) k∨wrdAt (fm fs i) k≤0) with h4 | h4
 ·omega
 ·exfalso
  have h5:wrd (tm (fm fs i) k).mono 8=0:=by unfold wrdAt at h4;omega
  have h6:=wrd_zero (fun j=>(hm.bd j).1) 8 h5
  have h7:wd ds (fm fs i) k=0:=by
   unfold wd
   exact wsum_zero (fun j=>by
    rcases Nat.lt_or_ge j 8 with hj | hj
    ·exact h6 j hj
    ·exact getD_ge (by rw [hm.len];omega)) _
  have h8:degF ds (fm fs i)=0:=by
   have hh:=h3.2.1
   unfold degF outAt
   rw [hh,if_pos rfl,if_neg (by omega)]
   unfold homog at hh
   have:=List.all_eq_true.1 hh k (by simpa using hk)
   simp only [decide_eq_true_eq] at this
   omega
  have h9:=hd1 i (by have:=hA.hl;omega)
  rcases h3.2.2 with h10 | h10 <;> omega
def linT (ds:List Int) (fs:List (List Term)):List (List Int):=fs.map fun ts=>linR ds (toS ts)
@[simp] theorem linT_len (ds:List Int) (fs:List (List Term)):(linT ds fs).length=fs.length:=by simp [linT]
def anyN (r:List Int):Bool:=r.any fun x=>decide (x≠0)
def minB (ds:List Int) (fs:List (List Term)):Bool:=!((linT ds fs).any anyN)
def minL (fs:List (List Term)):Bool:=(List.range fs.length).all fun i=>decide (least (fm fs i) (fm fs i).length≠1)
theorem minB_eq {ds:List Int} {fs:List (List Term)} (h:isAlg ds fs=true) (hw:Wfss fs):minB ds fs=minL fs:=by
 have hA:=isAlg_ok h hw;unfold minB minL linT;rw [List.any_map]
 have e:fs=(List.range fs.length).map (fm fs):=by
  apply List.ext_getElem (by simp);intro j h1 h2
  simp [fm_eq h1]
 conv=>lhs;rw [e]
 rw [List.any_map,Bool.eq_iff_iff,Bool.not_eq_true',List.any_eq_false,List.all_eq_true];have hk : ∀i,i<fs.length→anyN (linR ds (toS (fm fs i)))=decide (least (fm fs i) (fm fs i).length=1):=fun i hi=>lin_least hA.hn (hA.wf.fm i) (hA.ok i hi) (alg_wrd h hw hi)
 constructor
 ·intro h1 i hi;have h2:=h1 i hi;simp only [Function.comp] at h2;rw [hk i (by simpa using hi)] at h2
  simpa using h2
 ·intro h1 i hi;have h2:=h1 i hi;simp only [Function.comp];rw [hk i (by simpa using hi)]
  simpa using h2
theorem minL_bad {fs:List (List Term)} {i:Nat} (hi:i<fs.length) (h:least (fm fs i) (fm fs i).length=1):minL fs=false:=List.all_eq_false.2 ⟨i,by simpa using hi,by simp [h]⟩
theorem minL_good {fs:List (List Term)} (h : ∀j,j<fs.length→decide (least (fm fs j) (fm fs j).length≠1)=true):minL fs=true:=List.all_eq_true.2 fun j hj=>h j (by simpa using hj)
def mxT (m r:List Int) (x:Int):Nat→Int
 | 0=>x
 | j+1=>if m.getD j 0=0 then mxT m r x j else max (mxT m r x j) (r.getD j 0+1)
def mxF (ts:List Term) (r:List Int):Nat→Int
 | 0=>1
 | k+1=>mxT (tm ts k).mono r (mxF ts r k) 8
def okT (m r:List Int) (n:Nat):Prop:=∀j,j<n→m.getD j 0≠0→r.getD j 0≠0
def okF (ts:List Term) (r:List Int) (k:Nat):Prop:=∀i,i<k→okT (tm ts i).mono r 8
instance (m r:List Int) (n:Nat):Decidable (okT m r n):=Nat.decidableBallLT n _
instance (ts:List Term) (r:List Int) (k:Nat):Decidable (okF ts r k):=Nat.decidableBallLT k _
def rkF (ts:List Term) (r:List Int):Int:=if okF ts r ts.length then mxF ts r ts.length else 0
def stepR (fs:List (List Term)) (r:List Int) (i:Nat):List Int:=if r.getD i 0=0 then r.set i (rkF (fm fs i) r) else r
def inR (fs:List (List Term)) (r:List Int):Nat→List Int
 | 0=>r
 | i+1=>stepR fs (inR fs r i) i
def rndR (fs:List (List Term)) (n:Nat):Nat→List Int
 | 0=>List.replicate n 0
 | t+1=>inR fs (rndR fs n t) n
theorem mxT_congr {m r r':List Int} {x:Int} : ∀n:Nat,(∀j,j<n→m.getD j 0≠0→r.getD j 0=r'.getD j 0)→mxT m r x n=mxT m r' x n
 | 0,_=>rfl
 | n+1,h=>by
  simp only [mxT]
  rw [mxT_congr n fun j hj=>h j (by omega)]
  by_cases e:m.getD n 0=0
  ·rw [if_pos e,if_pos e]
  ·rw [if_neg e,if_neg e,h n (by omega) e]
theorem mxF_congr {ts:List Term} {r r':List Int} : ∀k:Nat,(∀i,i<k→∀j,j<8→(tm ts i).mono.getD j 0≠0→r.getD j 0=r'.getD j 0)→mxF ts r k=mxF ts r' k
 | 0,_=>rfl
 | k+1,h=>by
  simp only [mxF]
  rw [mxF_congr k fun i hi=>h i (by omega),mxT_congr 8 (h k (by omega))]
theorem mxT_bd {m r:List Int} {x M:Int} (hr : ∀j,0≤r.getD j 0∧r.getD j 0≤M) (hx:1≤x∧x≤M+1) : ∀n:Nat,1≤mxT m r x n∧mxT m r x n≤M+1
 | 0=>hx
 | n+1=>by
  have h1:=mxT_bd hr hx n (m:=m)
  have h2:=hr n
  simp only [mxT]
  split <;> omega
theorem mxF_bd {ts:List Term} {r:List Int} {M:Int} (hr : ∀j,0≤r.getD j 0∧r.getD j 0≤M) (hM:0≤M) : ∀k:Nat,1≤mxF ts r k∧mxF ts r k≤M+1
 | 0=>by simp only [mxF];omega
 | k+1=>mxT_bd hr (mxF_bd hr hM k) 8
theorem rkF_bd {ts:List Term} {r:List Int} {M:Int} (hr : ∀j,0≤r.getD j 0∧r.getD j 0≤M) (hM:0≤M):0≤rkF ts r∧rkF ts r≤M+1:=by
 have:=mxF_bd (ts:=ts) hr hM ts.length;unfold rkF
 split <;> omega
theorem getD_set {r:List Int} {i j:Nat} {v:Int}:(r.set i v).getD j 0=if i=j∧i<r.length then v else r.getD j 0:=by
 rw [List.getD_eq_getElem?_getD,List.getD_eq_getElem?_getD,List.getElem?_set]
 by_cases e:i=j
 ·subst e
  by_cases h:i<r.length
  ·rw [if_pos rfl,if_pos h,if_pos ⟨rfl,h⟩];rfl
  ·rw [if_pos rfl,if_neg h,if_neg fun x=>h x.2,List.getElem?_eq_none (by omega)]
 ·rw [if_neg e,if_neg fun x=>e x.1]
theorem okF_iff {ts:List Term} {r:List Int}:rkF ts r≠0→okF ts r ts.length:=fun h=>by
 unfold rkF at h
 by_cases e:okF ts r ts.length
 ·exact e
 ·rw [if_neg e] at h;exact absurd rfl h
theorem rkF_ok {ts:List Term} {r:List Int} (h:okF ts r ts.length):rkF ts r=mxF ts r ts.length:=if_pos h
theorem rkF_no {ts:List Term} {r:List Int} {i j:Nat} (hi:i<ts.length) (hj:j<8) (h1:(tm ts i).mono.getD j 0≠0) (h2:r.getD j 0=0):rkF ts r=0:=if_neg fun h=>h i hi j hj h1 h2
theorem rkF_set {ts:List Term} {r:List Int} {i:Nat} {v:Int} (h0:r.getD i 0=0) (h:rkF ts r≠0):rkF ts (r.set i v)=rkF ts r:=by
 have ho:=okF_iff h
 have hc : ∀k,k<ts.length→∀j,j<8→(tm ts k).mono.getD j 0≠0→(r.set i v).getD j 0=r.getD j 0:=fun k hk j hj hm=>by
  rw [getD_set,if_neg];rintro ⟨rfl,_⟩;exact ho k hk i hj hm h0
 have ho':okF ts (r.set i v) ts.length:=fun k hk j hj hm=>by rw [hc k hk j hj hm];exact ho k hk j hj hm
 rw [rkF_ok ho,rkF_ok ho',mxF_congr _ hc]
structure RkOk (fs:List (List Term)) (n:Nat) (M:Int) (r:List Int):Prop where
 len:r.length=n
 bd : ∀j,0≤r.getD j 0∧r.getD j 0≤M
 is : ∀i,r.getD i 0≠0→rkF (fm fs i) r=r.getD i 0
theorem RkOk.nn {fs:List (List Term)} {n:Nat} {M:Int} {r:List Int} (h:RkOk fs n M r):0≤M:=by have:=h.bd 0;omega
theorem RkOk.start (fs:List (List Term)) (n:Nat):RkOk fs n 0 (List.replicate n 0):=by
 have h0 : ∀j,(List.replicate n (0:Int)).getD j 0=0:=fun j=>by
  rw [List.getD_eq_getElem?_getD,List.getElem?_replicate]
  split <;> rfl
 exact ⟨by simp,fun j=>by rw [h0];omega,fun i h=>absurd (h0 i) h⟩
theorem RkOk.step {fs:List (List Term)} {n:Nat} {M:Int} {r:List Int} (h:RkOk fs n M r) (i:Nat):RkOk fs n (M+1) (stepR fs r i):=by
 unfold stepR
 split
 ·rename_i h0
  have hb:=rkF_bd (ts:=fm fs i) h.bd h.nn;refine ⟨by rw [List.length_set];exact h.len,fun j=>?_,fun k hk=>?_⟩
  ·rw [getD_set];have:=h.bd j;split <;> omega
  ·rw [getD_set] at hk ⊢
   by_cases e:i=k∧i<r.length
   ·obtain ⟨rfl,hl⟩:=e;rw [if_pos ⟨rfl,hl⟩] at hk ⊢;exact rkF_set h0 hk
   ·rw [if_neg e] at hk ⊢;have:=h.is k hk;rw [rkF_set h0 (by rw [this];exact hk),this]
 ·exact ⟨h.len,fun j=>by have:=h.bd j;omega,h.is⟩
theorem RkOk.mono {fs:List (List Term)} {n:Nat} {M M':Int} {r:List Int} (h:RkOk fs n M r) (hM:M≤M'):RkOk fs n M' r:=⟨h.len,fun j=>by have:=h.bd j;omega,h.is⟩
theorem RkOk.inR {fs:List (List Term)} {n:Nat} {M:Int} {r:List Int} (h:RkOk fs n M r) : ∀i:Nat,RkOk fs n (M+i) (G.inR fs r i)
 | 0=>h.mono (by omega)
 | i+1=>((RkOk.inR h i).step i).mono (by omega)
theorem RkOk.rnd (fs:List (List Term)) (n:Nat) : ∀t:Nat,RkOk fs n ((t * n:Nat):Int) (rndR fs n t)
 | 0=>(RkOk.start fs n).mono (by omega)
 | t+1=>((RkOk.rnd fs n t).inR n).mono (by rw [Nat.succ_mul];omega)
theorem stepR_again {fs:List (List Term)} {n:Nat} {M:Int} {r:List Int} (h:RkOk fs n M r) {i:Nat} (hi:i<n) (ho:okF (fm fs i) r (fm fs i).length):r.set i (mxF (fm fs i) r (fm fs i).length)=stepR fs r i:=by
 unfold stepR;rw [← rkF_ok ho]
 split
 ·rfl
 ·rename_i h0
  rw [h.is i h0];apply List.ext_getElem (by simp);intro j h1 h2;rw [List.getElem_set]
  split
  ·rename_i e;subst e;rw [List.getD_eq_getElem?_getD,List.getElem?_eq_getElem h2];rfl
  ·rfl
theorem stepR_not {fs:List (List Term)} {r:List Int} {i:Nat} (ho : ¬okF (fm fs i) r (fm fs i).length):r=stepR fs r i:=by
 unfold stepR
 split
 ·rename_i h0
  rw [show rkF (fm fs i) r=0 from if_neg ho];apply List.ext_getElem (by simp);intro j h1 h2;rw [List.getElem_set]
  split
  ·rename_i e;subst e;rw [List.getD_eq_getElem?_getD,List.getElem?_eq_getElem h1] at h0;exact h0
  ·rfl
 ·rfl
def rnkR (ds:List Int) (fs:List (List Term)):List Int:=rndR fs ds.length ds.length
def rnkOk (ds:List Int) (fs:List (List Term)):Bool:=(rnkR ds fs).all fun x=>decide (x≠0)
def rnkV (ds:List Int) (fs:List (List Term)):List Int:=if isAlg ds fs && rnkOk ds fs then rnkR ds fs else []
def rnkC (ds:List Int) (fs:List (List Term)):Int:=if isAlg ds fs then (if rnkOk ds fs then 0 else 5) else 1
theorem mxT_more {m r:List Int} {x:Int} {n:Nat} (hz : ∀j,n≤j→m.getD j 0=0) : ∀d:Nat,mxT m r x (n+d)=mxT m r x n
 | 0=>rfl
 | d+1=>by
  show (if m.getD (n+d) 0=0 then mxT m r x (n+d) else max (mxT m r x (n+d)) (r.getD (n+d) 0+1))=_
  rw [if_pos (hz _ (by omega)),mxT_more hz d]
theorem mxT_end {m r:List Int} {x:Int} {n:Nat} (hn:n≤8) (hz : ∀j,n≤j→m.getD j 0=0):mxT m r x 8=mxT m r x n:=by
 have:=mxT_more (r:=r) (x:=x) hz (8 - n)
 rwa [show n+(8 - n)=8 by omega] at this
theorem okT_end {m r:List Int} {n:Nat} (hz : ∀j,n≤j→m.getD j 0=0) (h:okT m r n):okT m r 8:=fun j hj hm=>by
 rcases Nat.lt_or_ge j n with h1 | h1
 ·exact h j h1 hm
 ·exact absurd (hz j h1) hm
theorem okT_zero (m r:List Int):okT m r 0:=fun j hj=>by omega
theorem okF_zero (ts:List Term) (r:List Int):okF ts r 0:=fun j hj=>by omega
theorem okT_skip {m r:List Int} {j:Nat} (h:okT m r j) (h0:m.getD j 0=0):okT m r (j+1):=fun i hi hm=>by
 by_cases e:i=j
 ·subst e;exact absurd h0 hm
 ·exact h i (by omega) hm
theorem okT_succ {m r:List Int} {j:Nat} (h:okT m r j) (h0:r.getD j 0≠0):okT m r (j+1):=fun i hi hm=>by
 by_cases e:i=j
 ·subst e;exact h0
 ·exact h i (by omega) hm
theorem okF_succ {ts:List Term} {r:List Int} {k:Nat} (h:okF ts r k) (h0:okT (tm ts k).mono r 8):okF ts r (k+1):=fun i hi=>by
 by_cases e:i=k
 ·subst e;exact h0
 ·exact h i (by omega)
theorem okF_iff2 {ts:List Term} {r:List Int} {k:Nat}:okF ts r (k+1)↔okF ts r k∧okT (tm ts k).mono r 8:=⟨fun h=>⟨fun i hi=>h i (by omega),h k (by omega)⟩,fun h=>okF_succ h.1 h.2⟩
theorem okT_iff0 {m r:List Int} {j:Nat} (h0:m.getD j 0=0):okT m r (j+1)↔okT m r j:=⟨fun h i hi=>h i (by omega),fun h=>okT_skip h h0⟩
theorem okT_iff1 {m r:List Int} {j:Nat} (h0:m.getD j 0≠0):okT m r (j+1)↔okT m r j∧r.getD j 0≠0:=⟨fun h=>⟨fun i hi=>h i (by omega),h j (by omega) h0⟩,fun h=>okT_succ h.1 h.2⟩
theorem mxT_skip {m r:List Int} {x:Int} {j:Nat} (h0:m.getD j 0=0):mxT m r x j=mxT m r x (j+1):=by simp only [mxT];rw [if_pos h0]
theorem mxT_go {m r:List Int} {x:Int} {j:Nat} (h0:m.getD j 0≠0):(if r.getD j 0+1>mxT m r x j then r.getD j 0+1 else mxT m r x j)=mxT m r x (j+1):=by
 simp only [mxT];rw [if_neg h0]
 split <;> omega
theorem rnk_bad {ds:List Int} {fs:List (List Term)} {k:Nat} (hk:k<(rnkR ds fs).length) (h:(rnkR ds fs).getD k 0=0):rnkOk ds fs=false:=List.all_eq_false.2 ⟨(rnkR ds fs).getD k 0,by rw [List.getD_eq_getElem?_getD,List.getElem?_eq_getElem hk];exact List.getElem_mem hk,by rw [h];simp⟩
theorem rnk_good {ds:List Int} {fs:List (List Term)} (h : ∀k,k<(rnkR ds fs).length→(rnkR ds fs).getD k 0≠0):rnkOk ds fs=true:=List.all_eq_true.2 fun x hx=>by
 obtain ⟨k,hk,rfl⟩:=List.mem_iff_getElem.1 hx
 have:=h k hk
 rw [List.getD_eq_getElem?_getD,List.getElem?_eq_getElem hk] at this
 simpa using this
theorem rnkR_len (ds:List Int) (fs:List (List Term)):(rnkR ds fs).length=ds.length:=(RkOk.rnd fs ds.length ds.length).len
theorem form_zero {ds:List Int} {ts:List Term} (hw:Wfs ts) (hf:isForm ds ts=true) {i:Nat} (hi:i<ts.length) : ∀j,ds.length≤j→(tm ts i).mono.getD j 0=0:=fun j hj=>by
 have hm:Mono (tm ts i).mono:=(hw _ (tm_mem hi)).mono
 rcases Nat.lt_or_ge j 8 with h8 | h8
 ·have h1:=isMono_le (good_facs (isForm_at hf hi)).1 h8
  rw [most_ge (by omega)] at h1
  have:=(hm.bd j).1
  omega
 ·exact getD_ge (by rw [hm.len];omega)
theorem rnk_has {ds:List Int} {fs:List (List Term)} (h:((rndR fs ds.length ds.length).any fun y=>decide (0=y))=true):rnkOk ds fs=false:=by
 obtain ⟨x,hx,h0⟩:=List.any_eq_true.1 h;exact List.all_eq_false.2 ⟨x,hx,by have:=of_decide_eq_true h0;simp [← this]⟩
theorem rnk_hasnt {ds:List Int} {fs:List (List Term)} (h:((rndR fs ds.length ds.length).any fun y=>decide (0=y))=false):rnkOk ds fs=true:=List.all_eq_true.2 fun x hx=>by
 have:=List.any_eq_false.1 h x hx
 simp only [decide_eq_true_eq] at this ⊢
 exact fun e=>this e.symm
theorem rnkV_len (ds:List Int) (fs:List (List Term)):(rnkV ds fs).length≤8:=by
 unfold rnkV
 split
 ·rename_i h
  rw [rnkR_len];have h1:=(Bool.and_eq_true_iff.1 h).1;unfold isAlg at h1;simp only [Bool.and_eq_true] at h1;exact isDeg_len h1.1.1.1
 ·simp
def rowJ (m:List Int) (f:Int) (r:List Int):Nat→List Int
 | 0=>r
 | j+1=>if m.getD j 0=1 then (rowJ m f r j).set j f else rowJ m f r j
def rowK (ts:List Term) (n:Nat):Nat→List Int
 | 0=>List.replicate n 0
 | k+1=>if wrdAt ts k=1 then rowJ (tm ts k).mono (tm ts k).fac (rowK ts n k) n else rowK ts n k
@[simp] theorem rowJ_len (m:List Int) (f:Int) (r:List Int) : ∀j:Nat,(rowJ m f r j).length=r.length
 | 0=>rfl
 | j+1=>by
  simp only [rowJ]
  split
  ·rw [List.length_set,rowJ_len m f r j]
  ·exact rowJ_len m f r j
@[simp] theorem rowK_len (ts:List Term) (n:Nat) : ∀k:Nat,(rowK ts n k).length=n
 | 0=>by simp [rowK]
 | k+1=>by
  simp only [rowK]
  split
  ·rw [rowJ_len,rowK_len ts n k]
  ·exact rowK_len ts n k
theorem rowJ_get {m:List Int} {f:Int} {r:List Int} {i:Nat} : ∀j:Nat,j≤r.length→(rowJ m f r j).getD i 0=if i<j∧m.getD i 0=1 then f else r.getD i 0
 | 0,_=>by rw [if_neg (by omega)];rfl
 | j+1,h=>by
  have ih:=rowJ_get (m:=m) (f:=f) (r:=r) (i:=i) j (by omega)
  simp only [rowJ]
  split
  ·rename_i h1
   rw [getD_set,rowJ_len,ih]
   by_cases e:j=i
   ·subst e;rw [if_pos ⟨rfl,by omega⟩,if_pos ⟨by omega,h1⟩]
   ·rw [if_neg fun x=>e x.1]
    by_cases e2:i<j∧m.getD i 0=1
    ·rw [if_pos e2,if_pos ⟨by omega,e2.2⟩]
    ·rw [if_neg e2,if_neg fun x=>e2 ⟨by omega,x.2⟩]
  ·rename_i h1
   rw [ih]
   by_cases e2:i<j∧m.getD i 0=1
   ·rw [if_pos e2,if_pos ⟨by omega,e2.2⟩]
   ·rw [if_neg e2,if_neg]
    rintro ⟨x,y⟩
    refine e2 ⟨?_,y⟩
    rcases Nat.lt_or_ge i j with h2 | h2
    ·exact h2
    ·have e3:i=j:=by omega
     subst e3
     exact absurd y h1
theorem cf_snoc {x:Pw × Int} {p:Pw} : ∀{s:Sm},(∀y∈s,y.1≠x.1)→cf (s++[x]) p=if x.1=p then x.2 else cf s p
 | [],_=>rfl
 | y::s,h=>by
  have ih:=cf_snoc (x:=x) (p:=p) (s:=s) fun z hz=>h z (by simp [hz])
  have h0:=h y (by simp)
  simp only [JxA,cf]
  rw [ih]
  by_cases e:y.1=p
  ·rw [if_pos e,if_pos e,if_neg fun e2=>h0 (e.trans e2.symm)]
  ·rw [if_neg e,if_neg e]
theorem toS_fresh {ts:List Term} {M:Int} (hs:Sok M (toS ts)) {k:Nat} (hk:k<ts.length) : ∀y∈toS (ts.take k),y.1≠(tm ts k).mono:=fun y hy e=>by
 have h1:toS ts=toS (ts.take k)++toS (ts.drop k):=by
  unfold toS
  rw [← List.map_append,List.take_append_drop]
 have h2:((tm ts k).mono,(tm ts k).fac)∈toS (ts.drop k):=by
  refine List.mem_map.2 ⟨tm ts k,?_,rfl⟩
  rw [List.drop_eq_getElem_cons hk,tm_eq hk]
  simp
 have h3:=hs.srt
 rw [h1,List.pairwise_append] at h3
 exact before_ne (h3.2.2 y hy _ h2) e
theorem rowK_get {ts:List Term} {n M} (hn:n≤8) (hw:Wfs ts) (hs:Sok M (toS ts)) {i:Nat} (hi:i<n) : ∀k:Nat,k≤ts.length→(rowK ts n k).getD i 0=cf (toS (ts.take k)) (genP i)
 | 0,_=>by
  simp only [rowK,List.take_zero]
  rw [List.getD_eq_getElem?_getD,List.getElem?_replicate]
  split <;> rfl
 | k+1,hk=>by
  have ih:=rowK_get hn hw hs hi k (by omega)
  have hm:Mono (tm ts k).mono:=(hw _ (tm_mem (by omega))).mono
  rw [toS_take (by omega),cf_snoc (toS_fresh hs (by omega))]
  simp only [rowK]
  split
  ·rename_i h1
   obtain ⟨g,hg,e⟩:=wrd_gen hm.len (fun j=>(hm.bd j).1) h1
   rw [rowJ_get _ (by rw [rowK_len];omega),ih]
   rw [e,genP_get hg]
   by_cases e2:g=i
   ·subst e2;rw [if_pos rfl,if_pos ⟨hi,rfl⟩,if_pos rfl]
   ·rw [if_neg e2,if_neg (by omega),if_neg fun x=>e2 (genP_inj hg (by omega) x)]
  ·rename_i h1
   rw [ih]
   rw [if_neg]
   intro e
   apply h1
   unfold wrdAt
   rw [e,wrd_genP (by omega)]
theorem rowK_lin {ds:List Int} {ts:List Term} {M:Int} (hn:ds.length≤8) (hw:Wfs ts) (hs:Sok M (toS ts)):rowK ts ds.length ts.length=linR ds (toS ts):=by
 apply List.ext_getElem (by simp);intro j h1 h2
 have h3:j<ds.length:=by simpa using h1
 have:=rowK_get hn hw hs h3 ts.length (Nat.le_refl _);rw [List.getD_eq_getElem?_getD,List.getElem?_eq_getElem h1,List.take_length] at this
 simpa [linR] using this
theorem linT_at {ds:List Int} {fs:List (List Term)} {i:Nat} (hi:i<fs.length):rw_ (linT ds fs) i=linR ds (toS (fm fs i)):=by
 unfold linT rw_;rw [List.getD_eq_getElem?_getD,List.getElem?_map,List.getElem?_eq_getElem hi,fm_eq hi]
 rfl
def linK2 (ds:List Int) (fs:List (List Term)) (k:Nat):List (List Int):=(fs.take k).map fun ts=>linR ds (toS ts)
theorem linK2_len {ds:List Int} {fs:List (List Term)} {k:Nat} (hk:k≤fs.length):(linK2 ds fs k).length=k:=by simp [linK2];omega
theorem linK2_succ {ds:List Int} {fs:List (List Term)} {k:Nat} (hk:k<fs.length):linK2 ds fs (k+1)=linK2 ds fs k++[linR ds (toS (fm fs k))]:=by
 unfold linK2;rw [take_fm hk,List.map_append]
 rfl
theorem linK2_end (ds:List Int) (fs:List (List Term)):linK2 ds fs fs.length=linT ds fs:=by simp [linK2,linT]
def linV (ds:List Int) (fs:List (List Term)):List (List Int):=if isAlg ds fs then linT ds fs else []
theorem by24:Bytes Tryz.prog 24 24:=by unfold Bytes;kernel_rfl
theorem ze24:Zero Tryz.prog 24 [.slice none 0 0]:=by unfold Zero;kernel_rfl
theorem fn24:Fn Tryz.prog 24:=⟨_,Tryz.func24,by kernel_rfl,rfl⟩
theorem fn32:Fn Tryz.prog 32:=⟨_,Tryz.func32,by kernel_rfl,rfl⟩
theorem fn33:Fn Tryz.prog 33:=⟨_,Tryz.func33,by kernel_rfl,rfl⟩
theorem fn50:Fn Tryz.prog 50:=⟨_,Tryz.func50,by kernel_rfl,rfl⟩
theorem fn60:Fn Tryz.prog 60:=⟨_,Tryz.func60,by kernel_rfl,rfl⟩
theorem fn61:Fn Tryz.prog 61:=⟨_,Tryz.func61,by kernel_rfl,rfl⟩
theorem forms_nil (H:HP):Forms H none []:=fun i hi=>by simp at hi
theorem ClR.le {B:World} {H0 H H':HP} {g:Nat} {cap:Array Value} {S:List Int→Prop} {p:List Int→Bool} (h:ClR B H0 H g cap S p) (hle:Le H H'):ClR B H0 H' g cap S p:=fun H2 L w q c x h2=>h H2 L w q c x (hle.trans h2)
def algC (ds:List Int) (fs:List (List Term)):Int:=if isAlg ds fs then 0 else 1
theorem codeA_nil (ds:List Int) (fs:List (List Term)):codeA ds fs []=algC ds fs:=by unfold codeA algC;simp
theorem algC_ne {ds:List Int} {fs:List (List Term)} (h:algC ds fs≠0):isAlg ds fs=false:=by
 unfold algC at h
 cases e:isAlg ds fs with
 | false=>rfl
 | true=>rw [e,if_pos rfl] at h;exact absurd rfl h
theorem algC_eq {ds:List Int} {fs:List (List Term)} (h : ¬algC ds fs≠0):isAlg ds fs=true:=by
 unfold algC at h
 cases e:isAlg ds fs with
 | false=>rw [e] at h;exact absurd (by decide) h
 | true=>rfl
theorem algC_z {ds:List Int} {fs:List (List Term)} (h:isAlg ds fs=true):0=algC ds fs:=by unfold algC;rw [if_pos h]
theorem algC_o {ds:List Int} {fs:List (List Term)} (h:isAlg ds fs=false):1=algC ds fs:=by unfold algC;rw [h];rfl
def minV (ds:List Int) (fs:List (List Term)):Bool:=isAlg ds fs && minB ds fs
theorem linearTable_c {B:World} {H0 H:HP} {L:List SA} {w:World} {ba:Nat} {qad qaf:Option Addr} {cad caf:Nat} {ad:List Int} {af:List (List Term)} (pad:CellAt H ba 0 (.slice qad ad.length cad)) (paf:CellAt H ba 1 (.slice qaf af.length caf)) (had:Ints H qad ad) (haf:Forms H qaf af) (hA:AlgOk ad af) (hH:Hp B H0 H L w):Calls Tryz.prog 24 [.pointer (some ⟨ba,0,none⟩)].toArray w fun e w'=>∃q c vs,e = .returned (.slice q (linT ad af).length c)∧Hp B H0 H (ownRs 24 2 q c vs (linT ad af)::L) w':=by
 refine JB Tryz.func24 rfl 27 rfl rfl [(0,.pointer (some ⟨ba,0,none⟩))] rfl hH ?_;clear hH;refine Je fun _ hK1 _=>(Jb (Jg (Jd rfl) rfl (Jf (Ja (hK1 (Je fun _ hK2 _=>(Jb (EY (MK.lit0 u29 sz24) rfl fun qo6 co6=>(J.is0 2 (Jg (Jd rfl) rfl (Jf (Ja (hK2 (Je fun _ hK3 _=>(Je fun _ hK4 _=>(Jb ?_))))))))))))))));refine Jg (Jc rfl) rfl (Jg (El rfl) rfl (Jg (Jt u27 rfl sz25 rfl) rfl (Jg (JR (q:=some ⟨ba,0,none⟩) (k:=1) rfl paf pl25) rfl (Jg (Jq u25 rfl rfl) rfl (Jg (Jc rfl) rfl (Jf (Ja (hK4 (Jp (JH (σ:=Option Addr × Nat × Vs × Nat) (fun ⟨q,c,vs,k⟩=>[(12,.int .i64 (k:Int)),(3,.slice q k c)]) (fun ⟨q,c,vs,k⟩=>H) (fun ⟨q,c,vs,k⟩=>ownIs 2 vs (linK2 ad af k)::own 24 1 q k c (slicesI vs (linK2 ad af k))::L) (fun ⟨q,c,vs,k⟩=>k≤af.length) (fun ⟨q,c,vs,k⟩=>af.length - k) (qo6,co6,nilVs,0) (by show 0≤af.length;omega) ⟨rfl,⟨rfl,trivial⟩⟩ rfl rfl ?_))))))))));rintro ⟨q,c,vs,k⟩ hI _ hAg0;have hk:=hI;have hn8:=hA.hn;have hl8:=hA.hl;refine Je fun _ hK5 _=>(Jb (Jg (JV rfl rfl) rfl (Jf (Ja (hK5 (Je fun _ hK6 _=>(Jm rfl (fun hc13=>?_) (fun hc13=>?_))))))))
 ·
  refine Jk (Ja (hK6 (Je fun _ hK7 _=>(Jp (Je fun _ hK8 _=>(Jb (Jg (JY u25 sz43 rfl rfl rfl (by omega) haf.sm) rfl ?_)))))));obtain ⟨qe15,ce15,he15,le15,Fe15⟩:=haf k (by omega);refine Jg (JO (cs:=[_]) rfl (one_cell he15) (haf.sm (i:=k) (by omega)) ag43) rfl (JM ze43 rfl fun g5=>(Jr rfl rfl (by first | exact bytesC_one _ | exact intsC_one _ | exact Term.c_one _ | simp [Value.oneCell']) (by simpa [*] using sz43) (by simp [*]) At.z (Jf (Ja (hK8 (Ev (Rs:=[_,_,_]) 10 [[], [], [1], [1,2], [1,2,3], [], [1,2,3,4,5], [1,2,3,4,5,6], [0,1,2,3,4,5,6,7], [0,1,2,3,4,5,6,7,8]] [[], [], [], [], [], [10], [], [], [7], []] [[], [], [], [], [], [], [], [], [12], []] rfl rfl (by kernel_rfl) ?_))))));apply Jw 1 rfl
  iterate 3 focus (intros;(conv=>lhs;simp only [Jj,JA,JX,JC,JU,eq_self,reduceEqDiff,reduceIte,reduceSub,reduceAdd,JxA,JxB]);all_goals rfl)
  ·
   intro gh X K zq zc zq2 zc2 zb zv hK;refine Jg (Jc rfl) rfl (Jo ?_);exact hK zq zc zq2 zc2 zb zv
  ·
   intro gh gh' h
   rfl
  apply Jw 2 rfl
  iterate 3 focus (intros;(conv=>lhs;simp only [Jj,JA,JX,JC,JU,eq_self,reduceEqDiff,reduceIte,reduceSub,reduceAdd,JxA,JxB]);all_goals rfl)
  ·
   intro gh X K zq zc zq2 zc2 zb zv hK;refine Jg (Jc rfl) rfl (Jo ?_);exact hK zq zc zq2 zc2 zb zv
  ·
   intro gh gh' h
   rfl
  apply Jw 3 rfl
  iterate 3 focus (intros;(conv=>lhs;simp only [Jj,JA,JX,JC,JU,eq_self,reduceEqDiff,reduceIte,reduceSub,reduceAdd,JxA,JxB]);all_goals rfl)
  ·
   intro gh X K zq zc zq2 zc2 zb zv hK;refine Jg (El rfl) rfl (Jo ?_);exact hK zq zc zq2 zc2 zb zv
  ·
   intro gh gh' h
   rfl
  apply Jw 4 rfl
  iterate 3 focus (intros;(conv=>lhs;simp only [Jj,JA,JX,JC,JU,eq_self,reduceEqDiff,reduceIte,reduceSub,reduceAdd,JxA,JxB]);all_goals rfl)
  ·
   intro gh X K zq zc zq2 zc2 zb zv hK;refine Jg (Jt u27 rfl sz24 rfl) rfl (Jo ?_);exact hK zq zc zq2 zc2 zb zv
  ·
   intro gh gh' h
   rfl
  apply Jw 5 rfl
  iterate 3 focus (intros;(conv=>lhs;simp only [Jj,JA,JX,JC,JU,eq_self,reduceEqDiff,reduceIte,reduceSub,reduceAdd,JxA,JxB]);all_goals rfl)
  ·
   intro gh X K zq zc zq2 zc2 zb zv hK;refine Jg (JR (q:=some ⟨ba,0,none⟩) (k:=0) rfl pad pl24) rfl (Jo ?_);exact hK zq zc zq2 zc2 zb zv
  ·
   intro gh gh' h
   rfl
  apply Jw 6 rfl
  iterate 3 focus (intros;(conv=>lhs;simp only [Jj,JA,JX,JC,JU,eq_self,reduceEqDiff,reduceIte,reduceSub,reduceAdd,JxA,JxB]);all_goals rfl)
  ·
   intro gh X K zq zc zq2 zc2 zb zv hK;refine Jg (Jn rfl At.z (by simpa [*] using ag43)) rfl (Jo ?_);exact hK zq zc zq2 zc2 zb zv
  ·
   intro gh gh' h
   rfl
  apply Eq 7 rfl
  iterate 3 focus (intros;(conv=>lhs;simp only [Jj,JA,JX,JC,JU,eq_self,reduceEqDiff,reduceIte,reduceSub,reduceAdd,JxA,JxB]);all_goals rfl)
  ·
   intro gh X K zq zc zq2 zc2 zb zv hK;refine Jx fn50 rfl rfl fun w hH=>(linearRow_c had Fe15 hA.hn (hA.fok k (by omega)).1 (hA.fok k (by omega)).2 hH).mono ?_;rintro _ w ⟨qo22,co22,rfl,hH⟩;refine ⟨_,rfl,fun a hF=>JQ hF hH ?_⟩;refine Jo ?_;exact hK qo22 co22 zq2 zc2 zb zv
  ·
   intro gh gh' h;refine ⟨?_,?_⟩ <;> rfl
  apply Eq 8 rfl
  iterate 3 focus (intros;(conv=>lhs;simp only [Jj,JA,JX,JC,JU,eq_self,reduceEqDiff,reduceIte,reduceSub,reduceAdd,JxA,JxB]);all_goals rfl)
  ·
   intro gh X K zq zc zq2 zc2 zb zv hK;refine EY (EI u29 ze24 sz24 rfl rfl) rfl fun qo23 co23=>(Jo ?_);exact hK qo23 co23 zq2 zc2 zb zv
  ·
   intro gh gh' h;refine ⟨?_,?_⟩ <;> (first | simp only [h 6 rfl] | rfl)
  apply Eq 9 rfl
  iterate 3 focus (intros;(conv=>lhs;simp only [Jj,JA,JX,JC,JU,eq_self,reduceEqDiff,reduceIte,reduceSub,reduceAdd,JxA,JxB]);all_goals rfl)
  ·
   intro gh X K zq zc zq2 zc2 zb zv hK;refine EO u29 ze24 sz24 by24 rfl rfl rfl rfl (by omega) (.s .z) At.z (fun _ _=>At.z) rfl fun qo24 co24=>(Jh .z (Jh (.s .z) (Jo ?_)));exact hK qo24 co24 zq2 zc2 zb zv
  ·
   intro gh gh' h;refine ⟨?_,?_⟩ <;> (first | simp only [h 6 rfl,h 7 rfl] | rfl)
  apply Jw 10 rfl
  iterate 3 focus (intros;(conv=>lhs;simp only [Jj,JA,JX,JC,JU,eq_self,reduceEqDiff,reduceIte,reduceSub,reduceAdd,JxA,JxB]);all_goals rfl)
  ·
   intro gh X K zq zc zq2 zc2 zb zv hK;refine Jg (Jd rfl) rfl (Jo ?_);exact hK zq zc zq2 zc2 zb zv
  ·
   intro gh gh' h
   first | simp only [h 6 rfl,h 7 rfl,h 8 rfl] | rfl
  apply Eu [0,1,2,3,4,5,6,7,8,9] [0,1,2,3,4,5,6,7,8,9,10,11] foll0 rfl rfl rfl (by rfl)
  iterate 2 focus (intros;(conv=>lhs;simp only [Jj,JA,JX,JC,JU,eq_self,reduceEqDiff,reduceIte,reduceSub,reduceAdd,JxA,JxB]);all_goals rfl)
  intro gh;generalize (gh 6).c=co22;generalize (gh 6).q=qo22;generalize (gh 7).c=co23;generalize (gh 7).q=qo23;generalize (gh 8).c=co24;generalize (gh 8).q=qo24;clear gh;refine JD (Ja (hK7 (Jb (Jg (Jy rfl rfl (by first | exact nw _ (by omega) | rfl)) rfl (Jg (Jc rfl) rfl (Jf (Ja (Jh (.s (.s (.s .z))) (Jh (.s (.s (.s .z))) (Jh (.s (.s (.s .z))) (Jh (.s (.s (.s (.s .z)))) (Jh (.s (.s (.s (.s .z)))) (EJ.isSnoc (rs:=linK2 ad af k) (linK2_len (by omega)) (linR_len _ _) (JF (.s .z) (JF (.s (.s .z)) ?_)))))))))))))));exact hAg0 (qo24,co24,setV vs k (qo22,co22),k+1) (by show k+1≤af.length;omega) (by show af.length - (k+1)<af.length - k;omega) 18 rfl rfl ⟨rfl,⟨rfl,trivial⟩⟩ rfl (by dsimp only;rw [linK2_succ (by omega),slicesI_set (linK2_len (by omega)),linR_len])
 ·
  refine JI (Jl (Jl (JT (Ja (hK3 (Je fun _ hK9 _=>(Jb (Jg (Jc rfl) rfl (Jg (Jd rfl) rfl (Jf (Ja (hK9 (Js (Ju rfl (Res.tmp rfl) fun w hH=>?_))))))))))))));replace hH:=hH.sublist (.cons_cons _ (.cons_cons _ (List.Sublist.refl _)))
  obtain rfl:k=af.length:=by omega
  rw [linK2_end] at hH;exact ⟨q,c,vs,by rw [linT_len],by unfold ownRs;rw [linT_len];exact (hH.front (.s .z)).star⟩
theorem isMinimal_c {B:World} {H0 H:HP} {L:List SA} {w:World} {ba:Nat} {qad qaf:Option Addr} {cad caf:Nat} {ad:List Int} {af:List (List Term)} (pad:CellAt H ba 0 (.slice qad ad.length cad)) (paf:CellAt H ba 1 (.slice qaf af.length caf)) (had:Ints H qad ad) (haf:Forms H qaf af) (hA:AlgOk ad af) (hH:Hp B H0 H L w):Calls Tryz.prog 32 [.pointer (some ⟨ba,0,none⟩)].toArray w fun e w'=>e = .returned (.bool (minB ad af))∧Hp B H0 H L w':=by
 refine JB Tryz.func32 rfl 7 rfl rfl [(0,.pointer (some ⟨ba,0,none⟩))] rfl hH ?_
 have hcl:ClR B H0 H 61 #[] (fun x=>x.length≤1048576) anyN:=fun H2 L w q c x hle hS hx hH=>by rw [Array.append_empty,Array.empty_append];exact isMinimal1_c hx hS hH
 have hn8:=hA.hn;have hl8:=hA.hl;clear hH;refine Je fun _ hK1 _=>(Jb (Jg (Jd rfl) rfl (Jf (Ja (hK1 (Je fun _ hK2 _=>(Jb (Jg (Jc rfl) rfl (Jx fn24 rfl rfl fun w hH=>(linearTable_c pad paf had haf hA hH).mono ?_)))))))));rintro _ w ⟨qo4,co4,vso4,rfl,hH⟩;refine ⟨_,rfl,fun a hF=>JQ hF hH ?_⟩;refine Jx fn60 rfl rfl fun w hH=>hH.lend .z fun Hl1 hle1 hA1 hB1 hH=>(ContainsFuncR_c (own_rows hA1) fn61 (hcl.le hle1) (by rw [linT_len];omega) (fun i hi=>by rw [linT_at (by simpa using hi),linR_len];omega) hH).mono ?_;rintro _ w ⟨rfl,hH⟩;replace hH:=hB1 _ _ hH;refine ⟨_,rfl,fun a hF=>JQ hF hH ?_⟩;refine Jg (Es rfl) rfl (Jg (Jd rfl) rfl (Jf (Ja (hK2 (Js (Ju rfl (Res.tmp rfl) fun w hH=>?_))))));replace hH:=hH.tail;exact ⟨rfl,hH⟩
theorem l02Minimal_c {B:World} {H0 H:HP} {L:List SA} {w:World} {qad qaf:Option Addr} {cad caf:Nat} {ad:List Int} {af:List (List Term)} (had:Ints H qad ad) (haf:Forms H qaf af) (hn9:af.length≤1048576) (hl9 : ∀i,i<af.length→(fm af i).length≤1048576) (hH:Hp B H0 H L w):Calls Tryz.prog 33 [.agg [.slice qad ad.length cad,.slice qaf af.length caf].toArray].toArray w fun e w'=>e = .returned (.bool (minL af))∧Hp B H0 H L w':=by
 refine JB Tryz.func33 rfl 18 rfl rfl [(0,.agg [.slice qad ad.length cad,.slice qaf af.length caf].toArray)] rfl hH ?_;clear hH;refine Je fun _ hK1 _=>(Jb (Eg rfl rfl rfl fun g1=>(Jg (Jd rfl) rfl (Jf (Ja (hK1 (Je fun _ hK2 _=>(Je fun _ hK3 _=>(Jb (Jg (Jd rfl) rfl (Jf (Ja (hK3 (Jp (JH (σ:=Nat) (fun (k:Nat)=>[(3,.int .i64 (k:Int))]) (fun (k:Nat)=>H) (fun (k:Nat)=>obj g1 (.cells [.slice qad ad.length cad,.slice qaf af.length caf].toArray 27 (0,0))::L) (fun (k:Nat)=>k≤af.length∧∀j,j<k→decide (least (fm af j) (fm af j).length≠1)=true) (fun (k:Nat)=>af.length - k) 0 ⟨by omega,fun j hj=>by omega⟩ ⟨rfl,trivial⟩ rfl rfl ?_)))))))))))))));rintro k ⟨hk,hI⟩ _ hAg0;refine Je fun _ hK4 _=>(Je fun _ hK5 _=>(Jb (Jg (Jc rfl) rfl (Jg (Jt u27 rfl sz25 rfl) rfl (Jg (Jv rfl At.z rfl pl25) rfl (Jg (Jq u25 rfl rfl) rfl (Jg (JV rfl rfl) rfl (Jf (Ja (hK5 (Jm rfl (fun hc8=>?_) (fun hc8=>?_))))))))))))
 ·
  refine Jk (Ja (hK4 (Je fun _ hK6 _=>(Jp (Je fun _ hK7 _=>(Jb (Jg (Jt u27 rfl sz25 rfl) rfl (Jg (Jv rfl At.z rfl pl25) rfl (Jg (Jc rfl) rfl (Jg (JY u25 sz43 rfl rfl rfl (by omega) haf.sm) rfl ?_))))))))));obtain ⟨qe15,ce15,he15,le15,Fe15⟩:=haf k (by omega);refine Jg (JO (cs:=[_]) rfl (one_cell he15) (haf.sm (i:=k) (by omega)) ag43) rfl (Jx fn39 rfl rfl fun w hH=>(l02Least_c Fe15 (by have:=hl9 k (by omega);omega) hH).mono ?_);rintro _ w ⟨rfl,hH⟩;refine ⟨_,rfl,fun a hF=>JQ hF hH ?_⟩;refine Jg (Ef rfl rfl) rfl (Jf (Ja (hK7 (Jm rfl (fun h17=>?_) (fun h17=>?_)))))
  ·
   refine Je fun _ hK8 _=>(Jb (Jg (Jd rfl) rfl (Jf (Ja (hK8 (Js (JL (Ji (Ji (JL (Ji (Ju rfl (Res.tmp rfl) fun w hH=>?_))))))))))));replace hH:=hH.tail;exact ⟨rb (minL_bad (i:=k) (by omega) h17).symm,hH⟩
  ·
   refine Jk (JD (Ja (hK6 (Jb (Jg (Jc rfl) rfl (Jg (Jy rfl rfl (by first | exact nw _ (by omega) | rfl)) rfl (Jg (Jd rfl) rfl (Jf (Ja ?_)))))))));exact hAg0 (k+1) ⟨by omega,upto hI (decide_eq_true h17)⟩ (by omega) 16 rfl rfl ⟨rfl,trivial⟩ rfl rfl
 ·
  refine JI (Jl (Jl (JT (Ja (hK2 (Je fun _ hK9 _=>(Jb (Jg (Jd rfl) rfl (Jf (Ja (hK9 (Js (Ju rfl (Res.tmp rfl) fun w hH=>?_)))))))))))));replace hH:=hH.tail;exact ⟨rb (minL_good (fun j hj=>hI j (by omega))).symm,hH⟩
theorem sIsMinimal_c {B:World} {H0 H:HP} {L:List SA} {w:World} {qad qaf:Option Addr} {cad caf:Nat} {ad:List Int} {af:List (List Term)} (had:Ints H qad ad) (haf:Forms H qaf af) (hn8:ad.length≤1048576) (hn9:af.length≤1048576) (hl9 : ∀i,i<af.length→(fm af i).length≤1048576) (hH:Hp B H0 H L w):Calls Tryz.prog 13 [.agg [.slice qad ad.length cad,.slice qaf af.length caf].toArray].toArray w fun e w'=>e = .returned (.tuple #[.bool (minV ad af),.int .i64 (algC ad af)])∧Hp B H0 H L w':=by
 refine JB Tryz.func13 rfl 9 rfl rfl [(0,.agg [.slice qad ad.length cad,.slice qaf af.length caf].toArray)] rfl hH ?_;clear hH;refine Je fun _ hK1 _=>(Jb (Eg rfl rfl rfl fun g1=>(Jg (Jd rfl) rfl (Jg (Jd rfl) rfl (Jf (Ja (hK1 (Je fun _ hK2 _=>(Je fun _ hK3 _=>(Jb (Jg (Jn rfl At.z (by simpa [*] using ag27)) rfl (Jx fn25 rfl rfl fun w hH=>(l02Is_c had haf hn8 hn9 hl9 hH).mono ?_))))))))))));rintro _ w ⟨rfl,hH⟩;refine ⟨_,rfl,fun a hF=>JQ hF hH ?_⟩;refine Jg (Es rfl) rfl (Jf (Ja (hK3 (Ei rfl (fun h6=>?_) (fun h6=>?_)))))
 ·
  have hf6:isAlg ad af=false:=by simpa using h6
  refine Je fun _ hK4 _=>(Jb (Jg (Jd rfl) rfl (Jg (Jd rfl) rfl (Jf (Ja (hK4 (Js (Ji (Eb rfl (Res.tmp rfl) (Res.tmp rfl) fun w hH=>?_)))))))));replace hH:=hH.tail;exact ⟨tup_bi (by unfold minV;rw [hf6];rfl) (algC_o hf6),hH⟩
 ·
  have hA6:isAlg ad af=true:=by simpa using h6
  refine Jk (Ja (hK2 (Je fun _ hK5 _=>(Jb (Jg (Jn rfl At.z (by simpa [*] using ag27)) rfl (Jx fn33 rfl rfl fun w hH=>(l02Minimal_c had haf hn9 hl9 hH).mono ?_))))));rintro _ w ⟨rfl,hH⟩;refine ⟨_,rfl,fun a hF=>JQ hF hH ?_⟩;refine Jg (Jd rfl) rfl (Jg (Jd rfl) rfl (Jf (Ja (hK5 (Js (Eb rfl (Res.tmp rfl) (Res.tmp rfl) fun w hH=>?_))))));replace hH:=hH.tail;exact ⟨tup_bi (by unfold minV;rw [hA6,Bool.true_and,minB_eq hA6 haf.wfss]) (algC_z hA6),hH⟩
theorem IsMinimal_c {B:World} {H0 H:HP} {L:List SA} {w:World} {qad qaf:Option Addr} {cad caf:Nat} {ad:List Int} {af:List (List Term)} (had:Ints H qad ad) (haf:Forms H qaf af) (hn8:ad.length≤1048576) (hn9:af.length≤1048576) (hl9 : ∀i,i<af.length→(fm af i).length≤1048576) (hH:Hp B H0 H L w):Calls Tryz.prog 12 [.agg [.slice qad ad.length cad,.slice qaf af.length caf].toArray].toArray w fun e w'=>e = .returned (.tuple #[.bool (minV ad af),.int .i64 (algC ad af)])∧Hp B H0 H L w':=by
 refine JB Tryz.func12 rfl 10 rfl rfl [(0,.agg [.slice qad ad.length cad,.slice qaf af.length caf].toArray)] rfl hH ?_;have hw0:=hH.old;have hw1:=hH.le;clear hH;refine Je fun _ hK1 _=>(Jb (Eg rfl rfl rfl fun g1=>(EK .z fun H2 hle2 hc2=>?_)));replace had:=had.le hle2;replace haf:=haf.le hle2;have pad:CellAt H2 g1 0 (.slice qad ad.length cad):=hc2 0 _ rfl;have paf:CellAt H2 g1 1 (.slice qaf af.length caf):=hc2 1 _ rfl;refine Jg (Jd rfl) rfl (Jg (Jd rfl) rfl (Jf (Ja (hK1 (Je fun _ hK2 _=>(Je fun _ hK3 _=>(Jb (Jx fn23 rfl rfl fun w hH=>(algebraCode_c pad paf had haf (forms_nil H2) hn8 hn9 hl9 (by simp) (fun i hi=>by simp at hi) hH).mono ?_))))))));rintro _ w ⟨rfl,hH⟩;refine ⟨_,rfl,fun a hF=>JQ hF hH ?_⟩;refine Jg (Jd rfl) rfl (Jf (Ja (hK3 (Je fun _ hK4 _=>(Jb (Jg (Jc rfl) rfl (Jg (En rfl rfl) rfl (Jf (Ja (hK4 (Jm rfl (fun h7=>?_) (fun h7=>?_))))))))))))
 ·
  rw [codeA_nil] at h7 ⊢;refine Je fun _ hK5 _=>(Jb (Jg (Jc rfl) rfl (Jg (Jd rfl) rfl (Jg (Jd rfl) rfl (Jf (Ja (hK5 (Js (Ji (Eb rfl (Res.tmp rfl) (Res.tmp rfl) fun w hH=>?_))))))))));exact ⟨tup_bi (by unfold minV;rw [algC_ne h7];rfl) rfl,hH.weaken hle2 hw0 hw1⟩
 ·
  rw [codeA_nil] at h7;have hA7:=algC_eq h7;have hA:=isAlg_ok hA7 haf.wfss;refine Jk (Ja (hK2 (Je fun _ hK6 _=>(Jb (Jx fn32 rfl rfl fun w hH=>(isMinimal_c pad paf had haf hA hH).mono ?_)))));rintro _ w ⟨rfl,hH⟩;refine ⟨_,rfl,fun a hF=>JQ hF hH ?_⟩;refine Jg (Jd rfl) rfl (Jg (Jd rfl) rfl (Jf (Ja (hK6 (Js (Eb rfl (Res.tmp rfl) (Res.tmp rfl) fun w hH=>?_))))));exact ⟨tup_bi (by unfold minV;rw [hA7,Bool.true_and]) (algC_z hA7),hH.weaken hle2 hw0 hw1⟩
end Go.Proofs.YtffgojlocbafhaaGreat.G
