/- A part of the walk of one law: what the functions compute. No condition. -/
import Derived.Test.YtffgojlocbafhaaGreatDoorRows
import Derived.Test.YtffgojlocbafhaaGreatDoorProg
import Derived.WalkKit
import Derived.KernelRfl
import Derived.JoinedOf
import Derived.Maps.AppendAt
import Derived.Still
import Derived.ProofKit
import Derived.OpenShut
import Derived.StillTail
import Derived.Deep.Upon
import Derived.WalkSpells
import Derived.Maps.Range
import Derived.Laws.Entries
import Derived.Laws.StructEq
import Derived.DeepKeys4
import Derived.Laws.Concat
import Derived.Laws.IdiomStrings
import Derived.Laws.Strings
import Derived.Lib.ItoaNum
import Derived.Lib.Join
import Derived.Lib.LaidTab
import Derived.Lib.SplitLaws
import Derived.Lib.AtoiTie
import Derived.Lib.ParseIntBTie
import Derived.Shelf.Strings.Builder1
import Derived.Shelf.Strings.Builder2
import Derived.Shelf.Strings.OnBuilder
import Derived.Shelf.Strings.BuilderF
import Derived.Shelf.Strings.BuilderK
import Derived.Shelf.Strconv.Atoi
import Derived.Shelf.Strconv.Itoa0
import Derived.Shelf.Strconv.Itoa1
import Derived.Shelf.LaysM
import Derived.Shelf.Strconv.Itoa2
import Derived.Shelf.Strconv.Itoa3
import Derived.Shelf.Strconv.Itoa4
import Derived.Shelf.Strconv.AtoiErrFast
import Derived.Shelf.Strconv.ParseIntEmpty
import Derived.Shelf.Strconv.AtoiFail
import Derived.Shelf.Strconv.Clone
import Derived.Shelf.Strconv.SyntaxError
import Derived.Shelf.LaysC
import Derived.Shelf.Strconv.ToError
import Derived.Shelf.Strconv.Lower
import Derived.Shelf.Strconv.ParseUint10
import Derived.Shelf.Strconv.ParseUint10Empty
import Derived.Shelf.Strconv.ParseUint10Any
import Derived.Shelf.Strconv.ParseInt10
import Derived.Shelf.Strconv.AtoiLong
import Derived.Shelf.Strconv.AtoiInnerAll
import Derived.Shelf.Strconv.RangeError
import Derived.Shelf.Strconv.ToErrorRange
import Derived.Shelf.Strconv.AtoiAll
import Derived.Shelf.Strconv.ParseUintEmpty
import Derived.Shelf.Strconv.ParseUint10b64
import Derived.Shelf.Strconv.ParseUint10b32
import Derived.Shelf.Strconv.ParseUint10b16
import Derived.Shelf.Strconv.ParseUint10b8
import Derived.Shelf.Strconv.ParseUint10At
import Derived.Shelf.Strconv.ParseInt10At64
import Derived.Shelf.Strconv.ParseInt10At32
import Derived.Shelf.Strconv.ParseInt10At16
import Derived.Shelf.Strconv.ParseInt10At8
import Derived.Shelf.Strconv.ParseInt10All
import Derived.Shelf.Strconv.ParseIntPublic10
import Derived.Shelf.Strings.Search1
import Derived.Shelf.Strings.Search2
import Derived.Shelf.Strings.Search3
import Derived.Shelf.Strings.Cut
import Derived.Shelf.Strings.Count
import Derived.Shelf.Strings.Shaped
import Derived.Shelf.Strings.Split
import Derived.Shelf.Unicode.DecodeSlow
import Derived.Laws.Strings2
import Derived.Laws.Strings3
import Derived.Laws.Slices
import Derived.Lib.AtoiErrMem
import Derived.Lib.SmallJoins
import Derived.WalkSmall
import Derived.WideLaws
import Derived.Lib.AppendIntMem
import Derived.Test.YtffgojlocbafhaaGreatDoorCards
import Derived.Test.YtffgojlocbafhaaGreatDoorTie
import Derived.LaidMore
import Derived.Stop.Joined
import Derived.Stop.LaidErr
import Derived.SevenTiedAt
import Derived.MakeChecks
import Derived.Shelf.Vars
import Derived.Lay
import Derived.ChangeOld
import Derived.Below
import Derived.SizedLaws
import Derived.Test.YtffgojlocbafhaaGreatDoorPAtxc
set_option linter.unusedVariables false
set_option linter.unusedSimpArgs false
set_option maxRecDepth 10000
set_option maxHeartbeats 8000000
open Nat (reduceEqDiff reduceSub reduceAdd)
namespace Go.Proofs.YtffgojlocbafhaaGreatDoor.G
open Go Go.RowKit
theorem fn72:Fn Tryz.prog 72:=⟨_,Tryz.func72,by kernel_rfl,rfl⟩
theorem fn91:Fn Tryz.prog 91:=⟨_,Tryz.func91,by kernel_rfl,rfl⟩
def frK (p:Pw) (k j:Nat):Pw:=(List.range 8).map fun t=>if t<j∧k≤t then 0 else p.getD t 0
def bkK (p:Pw) (k j:Nat):Pw:=(List.range 8).map fun t=>if t<j∧t≤k then 0 else p.getD t 0
@[simp] theorem frK_len (p:Pw) (k j:Nat):(frK p k j).length=8:=by simp [frK]
@[simp] theorem bkK_len (p:Pw) (k j:Nat):(bkK p k j).length=8:=by simp [bkK]
theorem frK_get {p:Pw} {k j t:Nat} (h:t<8):(frK p k j).getD t 0=if t<j∧k≤t then 0 else p.getD t 0:=by simp [frK,List.getD_eq_getElem?_getD,h]
theorem bkK_get {p:Pw} {k j t:Nat} (h:t<8):(bkK p k j).getD t 0=if t<j∧t≤k then 0 else p.getD t 0:=by simp [bkK,List.getD_eq_getElem?_getD,h]
theorem frK_zero {p:Pw} (hp:p.length=8) (k:Nat):frK p k 0=p:=list8 (by simp) hp fun t ht=>by rw [frK_get ht,if_neg (by omega)]
theorem bkK_zero {p:Pw} (hp:p.length=8) (k:Nat):bkK p k 0=p:=list8 (by simp) hp fun t ht=>by rw [bkK_get ht,if_neg (by omega)]
theorem frK_end (p:Pw) (k:Nat):frK p k 8=aheadP p k:=list8 (by simp) (by simp) fun t ht=>by
 rw [frK_get ht,aheadP_get ht]
 by_cases h:t<k
 ·rw [if_neg (by omega),if_pos h]
 ·rw [if_pos (by omega),if_neg h]
theorem bkK_end (p:Pw) (k:Nat):bkK p k 8=behP p (k+1):=list8 (by simp) (by simp) fun t ht=>by
 rw [bkK_get ht,behP_get ht]
 by_cases h:t<k+1
 ·rw [if_pos (by omega),if_pos h]
 ·rw [if_neg (by omega),if_neg h]
theorem frK_yes {p:Pw} {k j:Nat} (hj:j<8) (h:k≤j):(frK p k j).set j 0=frK p k (j+1):=list8 (by simp) (by simp) fun t ht=>by
 rw [getD_set8,frK_get ht,frK_get ht]
 by_cases e:j=t
 ·subst e
  rw [if_pos ⟨rfl,by simpa using hj⟩,if_pos (by omega)]
 ·rw [if_neg fun h=>e h.1]
  by_cases h2:t<j∧k≤t
  ·rw [if_pos h2,if_pos (by omega)]
  ·rw [if_neg h2,if_neg (by omega)]
theorem frK_no {p:Pw} {k j:Nat} (h : ¬k≤j):frK p k j=frK p k (j+1):=list8 (by simp) (by simp) fun t ht=>by
 rw [frK_get ht,frK_get ht,if_neg (by omega),if_neg (by omega)]
theorem bkK_yes {p:Pw} {k j:Nat} (hj:j<8) (h:j≤k):(bkK p k j).set j 0=bkK p k (j+1):=list8 (by simp) (by simp) fun t ht=>by
 rw [getD_set8,bkK_get ht,bkK_get ht]
 by_cases e:j=t
 ·subst e
  rw [if_pos ⟨rfl,by simpa using hj⟩,if_pos (by omega)]
 ·rw [if_neg fun h=>e h.1]
  by_cases h2:t<j∧t≤k
  ·rw [if_pos h2,if_pos (by omega)]
  ·rw [if_neg h2,if_neg (by omega)]
theorem bkK_no {p:Pw} {k j:Nat} (h : ¬j≤k):bkK p k j=bkK p k (j+1):=list8 (by simp) (by simp) fun t ht=>by
 rw [bkK_get ht,bkK_get ht]
 by_cases h2:t<j∧t≤k
 ·rw [if_pos h2,if_pos (by omega)]
 ·rw [if_neg h2,if_neg (by omega)]
theorem aheadP_pok {M:Int} {p:Pw} (h:Pok M p) (k:Nat):Pok M (aheadP p k):=⟨by simp,fun j=>by
 have:=h.bd j
 rcases Nat.lt_or_ge j 8 with hj | hj
 ·rw [aheadP_get hj]
  split <;> omega
 ·rw [getD_ge (by simp;omega)]
  omega⟩
theorem Pok.mn {M:Int} {p:Pw} (h:Pok M p) (hM:M≤255):Mono p:=⟨h.len,(h.mono hM).bd⟩
theorem wsum_ahead {ds p:Pw} {k:Nat} : ∀{n:Nat},n≤8→wsum ds (aheadP p k) n=wsum ds p (min n k)
 | 0,_=>by simp [wsum]
 | n+1,h=>by
  simp only [wsum]
  rw [wsum_ahead (by omega),aheadP_get (by omega)]
  by_cases hk:n<k
  ·rw [if_pos hk,Nat.min_eq_left (by omega),Nat.min_eq_left (by omega)]
   rfl
  ·rw [if_neg hk,Nat.min_eq_right (by omega),Nat.min_eq_right (by omega),Int.mul_zero,Int.add_zero]
theorem dsg_wsum {ds p:Pw} (hd : ∀j,0≤ds.getD j 0∧ds.getD j 0≤12) (hp : ∀j,0≤p.getD j 0) : ∀{k:Nat},k≤ds.length→dsg ds p k=if wsum ds p k % 2=1 then -1 else 1
 | 0,_=>by simp [dsg,wsum]
 | k+1,h=>by
  have ih:=dsg_wsum hd hp (k:=k) (by omega)
  have e1:=Int.tmod_eq_emod_of_nonneg (b:=2) (hd k).1
  have e2:=Int.tmod_eq_emod_of_nonneg (b:=2) (hp k)
  have em:=Int.mul_emod (ds.getD k 0) (p.getD k 0) 2
  have e:wsum ds p (k+1)=wsum ds p k+ds.getD k 0 * p.getD k 0:=rfl
  by_cases hc:(ds.getD k 0).tmod 2=1∧(p.getD k 0).tmod 2=1
  ·rw [show ds.getD k 0 % 2=1 by omega,show p.getD k 0 % 2=1 by omega] at em
   rw [← dsg_yes (by omega) hc.1 hc.2,ih]
   by_cases c:wsum ds p k % 2=1
   ·rw [if_pos c,if_neg (by omega)];rfl
   ·rw [if_neg c,if_pos (by omega)];rfl
  ·have em2:(ds.getD k 0 * p.getD k 0) % 2=0:=by
    rcases (show ds.getD k 0 % 2=0∨ds.getD k 0 % 2=1 by omega) with a | a <;> rcases (show p.getD k 0 % 2=0∨p.getD k 0 % 2=1 by omega) with b | b <;> rw [a,b] at em <;> omega
   rw [← dsg_no (fun h=>hc h.2),ih]
   by_cases c:wsum ds p k % 2=1
   ·rw [if_pos c,if_pos (by omega)]
   ·rw [if_neg c,if_neg (by omega)]
theorem wsum_nn {ds p:Pw} (hd : ∀j,0≤ds.getD j 0∧ds.getD j 0≤12) (hp : ∀j,0≤p.getD j 0) : ∀k,0≤wsum ds p k
 | 0=>by simp [wsum]
 | k+1=>by
  have h1:=wsum_nn hd hp k
  have h2:=Int.mul_nonneg (hd k).1 (hp k)
  simp only [wsum]
  omega
theorem sg_neg {ds p:Pw} {k:Nat} (hn:ds.length≤8) (hd : ∀j,0≤ds.getD j 0∧ds.getD j 0≤12) (hp : ∀j,0≤p.getD j 0) (hk:k<ds.length) (h:(wsum ds (aheadP p k) ds.length).tmod 2≠0):dsg ds p k = -1:=by
 rw [wsum_ahead hn,Nat.min_eq_right (by omega)] at h;rw [dsg_wsum hd hp (by omega),if_pos];have:=Int.tmod_eq_emod_of_nonneg (b:=2) (show 0≤wsum ds p k from wsum_nn hd hp k)
 omega
theorem sg_pos {ds p:Pw} {k:Nat} (hn:ds.length≤8) (hd : ∀j,0≤ds.getD j 0∧ds.getD j 0≤12) (hp : ∀j,0≤p.getD j 0) (hk:k<ds.length) (h : ¬(wsum ds (aheadP p k) ds.length).tmod 2≠0):dsg ds p k=1:=by
 rw [wsum_ahead hn,Nat.min_eq_right (by omega)] at h;rw [dsg_wsum hd hp (by omega),if_neg];have:=Int.tmod_eq_emod_of_nonneg (b:=2) (show 0≤wsum ds p k from wsum_nn hd hp k)
 omega
theorem addS_one (p:Pw):addS [] p 1=[(p,1)]:=by
 simp only [addS];rw [fld_id (by omega),if_neg (by omega)]
theorem one_wf {p:Pw} (h:Mono p):Wfs (ofS (addS [] p 1)):=by
 rw [addS_one]
 exact fun t ht=>by
  simp [ofS] at ht
  subst ht;exact ⟨⟨h.len,h.bd⟩,by show -9223372036854775808≤(1:Int)∧(1:Int)≤9223372036854775807;omega⟩
theorem one_g {M:Int} {p:Pw} (h:Pok M p):Gok M (toS (ofS (addS [] p 1))):=by
 rw [toS_ofS,addS_one];exact (Sok.one h (by omega)).g
theorem one_kex {ds p:Pw} (h:Ex ds p):KEx ds (toS (ofS (addS [] p 1))):=by
 rw [toS_ofS,addS_one];intro x hx
 simp at hx
 rw [hx];exact h
theorem one_len (p:Pw):(ofS (addS [] p 1)).length=1:=by rw [addS_one];rfl
theorem Ex.le {ds p q:Pw} (h:Ex ds p) (hq : ∀j,0≤q.getD j 0∧q.getD j 0≤p.getD j 0):Ex ds q:=
 ⟨fun i hi=>by have:=h.out i hi;have:=hq i;omega,fun i hi ho=>by have:=h.odd i hi ho;have:=hq i;omega⟩
theorem leftP_ex {ds p:Pw} {M:Int} (hp:Pok M p) (h:Ex ds p) {k:Nat} (hk:0<p.getD k 0):Ex ds (leftP p k):=h.le fun j=>by
 have b:=hp.bd j
 have c:=hp.bd k
 unfold leftP
 rw [getD_set8]
 split
 ·rename_i e
  rw [← e.1]
  omega
 ·rcases Nat.lt_or_ge j 8 with hj | hj
  ·rw [aheadP_get hj]
   split <;> omega
  ·rw [getD_ge (by simp;omega)]
   omega
theorem behP_ex {ds p:Pw} {M:Int} (hp:Pok M p) (h:Ex ds p) (k:Nat):Ex ds (behP p k):=h.le fun j=>by
 have b:=hp.bd j
 rcases Nat.lt_or_ge j 8 with hj | hj
 ·rw [behP_get hj]
  split <;> omega
 ·rw [getD_ge (by simp;omega)]
  omega
theorem dT_len (ds:Pw) (im:Sm) (p:Pw) (k:Nat):(dT ds im p k).length≤im.length:=by
 unfold dT;have h1:=times_len ds (timesS ds [(leftP p k,1)] im) [(behP p (k+1),1)];have h2:=times_len ds [(leftP p k,1)] im;simp only [List.length_singleton] at h1 h2
 omega
theorem dP_len {ds:Pw} {fs:List (List Term)} {x:Pw × Int} {k:Nat} (hL : ∀i,i<fs.length→(fm fs i).length≤10000) (hk:0<x.1.getD k 0→k<fs.length):(dP ds fs x k).length≤10000:=by
 unfold dP
 split
 ·rename_i h
  have h1:=dT_len ds (toS (fm fs k)) x.1 k;have h2:=hL k (hk h);rw [toS_len] at h1;unfold scl;rw [List.length_map]
  omega
 ·simp
theorem dLk_len {ds:Pw} {fs:List (List Term)} {x:Pw × Int} (hL : ∀i,i<fs.length→(fm fs i).length≤10000) (ho : ∀k,0<x.1.getD k 0→k<fs.length) : ∀k,(dLk ds fs x k).length≤k * 10000
 | 0=>by simp [dLk]
 | k+1=>by
  have h1:=dLk_len (ds:=ds) hL ho k
  have h2:=dP_len (ds:=ds) hL (ho k)
  rw [dLk_succ,List.length_append]
  omega
theorem dAll_len {ds:Pw} {fs:List (List Term)} (hL : ∀i,i<fs.length→(fm fs i).length≤10000) : ∀{s:Sm},Occ fs.length s→(dAll ds fs s).length≤s.length * 80000
 | [],_=>by simp [dAll]
 | x::s,ho=>by
  have h1:=dAll_len (ds:=ds) hL (s:=s) fun y hy=>ho y (by simp [hy])
  have h2:=dLk_len (ds:=ds) hL (ho x (by simp)) 8
  unfold dAll at h1 ⊢
  rw [List.flatMap_cons,List.length_append,List.length_cons]
  omega
theorem dAll_take {ds:Pw} {fs:List (List Term)} {f:List Term} {i:Nat} (hi:i<f.length):dAll ds fs (toS (f.take (i+1)))=dAll ds fs (toS (f.take i))++dLk ds fs ((tm f i).mono,(tm f i).fac) 8:=by
 rw [toS_take hi];unfold dAll;rw [List.flatMap_append]
 simp
theorem dLk_same {ds:Pw} {fs:List (List Term)} {x:Pw × Int} {n:Nat} (h : ∀k,n≤k→x.1.getD k 0=0) : ∀m,dLk ds fs x (n+m)=dLk ds fs x n
 | 0=>rfl
 | m+1=>by
  rw [← Nat.add_assoc,dLk_succ,dLk_same h m]
  unfold dP
  rw [if_neg (by rw [h _ (by omega)];omega),List.append_nil]
theorem dLk_8 {ds:Pw} {fs:List (List Term)} {x:Pw × Int} (hn:ds.length≤8) (h:Ex ds x.1):dLk ds fs x ds.length=dLk ds fs x 8:=by
 rw [← dLk_same (ds:=ds) (fs:=fs) (x:=x) (n:=ds.length) h.out (8 - ds.length),Nat.add_sub_cancel' hn]
theorem Ex.occ {ds:Pw} {s:Sm} {n:Nat} (h:KEx ds s) (hl:n=ds.length):Occ n s:=fun x hx i hi=>by
 have:=(h x hx).out i
 omega
theorem toS_tk (ts:List Term) (k:Nat):toS (ts.take k)=(toS ts).take k:=by simp [toS,List.map_take]
theorem Sok.tk {M:Int} {ts:List Term} (h:Sok M (toS ts)) (k:Nat):Sok M (toS (ts.take k)):=by
 rw [toS_tk];exact ⟨h.srt.sublist (List.take_sublist _ _),fun x hx=>h.key x (List.mem_of_mem_take hx),fun x hx=>h.val x (List.mem_of_mem_take hx)⟩
theorem Occ.tk {n:Nat} {ts:List Term} (h:Occ n (toS ts)) (k:Nat):Occ n (toS (ts.take k)):=by
 rw [toS_tk];exact fun x hx=>h x (List.mem_of_mem_take hx)
theorem d1_sok {ad:Pw} {af:List (List Term)} {f:List Term} {Mi Ms:Int} (hf:Fok Mi af) (hs:Sok Ms (toS f)) (ho:Occ af.length (toS f)) (i:Nat):Sok (Ms+Mi+Ms) (acc [] (dAll ad af (toS (f.take i)))):=Sok.nil.acc (dAll_pok (hs.tk i) hf (ho.tk i))
theorem d2_sok {ad:Pw} {af:List (List Term)} {f:List Term} {Mi Ms:Int} (hf:Fok Mi af) (hs:Sok Ms (toS f)) (ho:Occ af.length (toS f)) {i:Nat} (hi:i<f.length) (k:Nat):Sok (Ms+Mi+Ms) (acc [] (dAll ad af (toS (f.take i))++dLk ad af ((tm f i).mono,(tm f i).fac) k)):=Sok.nil.acc fun z hz=>by
 rcases List.mem_append.1 hz with h | h
 ·exact dAll_pok (hs.tk i) hf (ho.tk i) z h
 ·exact dLk_pok (hs.key _ (toS_at hi)) hf (ho _ (toS_at hi)) z h
theorem d2_len {ad:Pw} {af:List (List Term)} {f:List Term} (hL : ∀i,i<af.length→(fm af i).length≤10000) (ho:Occ af.length (toS f)) (hlf:f.length≤10000) {i k:Nat} (hi:i<f.length) (hk:k≤8):(acc [] (dAll ad af (toS (f.take i))++dLk ad af ((tm f i).mono,(tm f i).fac) k)).length≤900000000:=by
 have h1:=acc_len (dAll ad af (toS (f.take i))++dLk ad af ((tm f i).mono,(tm f i).fac) k) [];have h2:=dAll_len (ds:=ad) hL (ho.tk i);have h3:=dLk_len (ds:=ad) hL (ho _ (toS_at hi)) k;rw [toS_len,List.length_take_of_le (by omega)] at h2;rw [List.length_append,List.length_nil] at h1
 omega
theorem fac_neg {ds p:Pw} {k:Nat} {x:Int} (h:dsg ds p k = -1):fld (dsg ds p k * x * p.getD k 0)=fld (0 - x * p.getD k 0):=by rw [h];simp only [Int.neg_mul,Int.one_mul,Int.zero_sub]
theorem fac_pos {ds p:Pw} {k:Nat} {x:Int} (h:dsg ds p k=1):fld (dsg ds p k * x * p.getD k 0)=fld (x * p.getD k 0):=by rw [h,Int.one_mul]
theorem l02D_c {B:World} {H0 H:HP} {L:List SA} {w:World} {qad qaf:Option Addr} {cad caf:Nat} {ad:List Int} {af:List (List Term)} {qf:Option Addr} {cf:Nat} {f:List Term} {Mi Ms:Int} (had:Ints H qad ad) (haf:Forms H qaf af) (hf:Terms H qf f) (hn:ad.length≤8) (hd : ∀j,0≤ad.getD j 0∧ad.getD j 0≤12) (hf9:Fok Mi af) (hl:af.length=ad.length) (hk9 : ∀i,i<af.length→KEx ad (toS (fm af i))) (hs:Sok Ms (toS f)) (hfk:KEx ad (toS f)) (hM:0≤Mi∧0≤Ms∧Ms+Mi+Ms≤255) (hL : ∀i,i<af.length→(fm af i).length≤10000) (hlf:f.length≤10000) (hH:Hp B H0 H L w):Calls Tryz.prog 54 [.agg [.slice qad ad.length cad,.slice qaf af.length caf].toArray,.agg [.slice qf f.length cf].toArray].toArray w fun e w'=>∃q c,e = .returned (.agg [.slice q (ofS (dS ad af (toS f))).length c].toArray)∧Hp B H0 H (own 89 9 q (ofS (dS ad af (toS f))).length c (tsC (ofS (dS ad af (toS f))))::L) w':=by
 refine JD Tryz.func54 rfl 103 rfl rfl [(0,.agg [.slice qad ad.length cad,.slice qaf af.length caf].toArray),(1,.agg [.slice qf f.length cf].toArray)] rfl hH ?_;clear hH;have hoc:=Ex.occ hfk hl;refine Jd fun _ hK1 _=>(Jb (Eo rfl rfl rfl fun g2=>(Eo rfl rfl rfl fun g3=>(JG ze42 rfl fun g4=>(Jf (Ja (hK1 (Jd fun _ hK2 _=>(Jb (EG 89 9 (Jg (JQ bz42) rfl (JG ze42 rfl fun g5=>(Jk rfl rfl (by first | exact bytesC_one _ | exact intsC_one _ | exact Term.c_one _ | simp [Value.oneCell']) (by simpa [*] using sz42) (by simp [*]) At.z (Jf (Ja (hK2 ?_))))))))))))))));refine Jd fun _ hK3 _=>(Jd fun _ hK4 _=>(Jb (Jg (Je rfl) rfl (Jf (Ja (hK4 (Jx (JP (σ:=Option Addr × Nat × Nat) (fun ⟨q,c,i⟩=>[(6,.int .i64 (i:Int))]) (fun ⟨q,c,i⟩=>H) (fun ⟨q,c,i⟩=>obj g5 (.cells [.slice q (ofS (acc [] (dAll ad af (toS (f.take i))))).length c].toArray 42 (0,0))::own 89 9 q (ofS (acc [] (dAll ad af (toS (f.take i))))).length c (tsC (ofS (acc [] (dAll ad af (toS (f.take i))))))::obj g4 (.cells [.slice none 0 0].toArray 42 (0,0))::obj g3 (.cells [.slice qf f.length cf].toArray 42 (0,0))::obj g2 (.cells [.slice qad ad.length cad,.slice qaf af.length caf].toArray 27 (0,0))::L) (fun ⟨q,c,i⟩=>i≤f.length) (fun ⟨q,c,i⟩=>f.length - i) (none,0,0) (by show 0≤f.length;omega) ⟨rfl,trivial⟩ rfl rfl ?_))))))));rintro ⟨q,c,i⟩ hI _ hAg0;have hi:=hI;have wfO:=(d1_sok (ad:=ad) hf9 hs hoc i).wf (by omega);refine Jd fun _ hK5 _=>(Jd fun _ hK6 _=>(Jb (Jg (Jc rfl) rfl (Jg (Jq u42 rfl sz40 rfl) rfl (Jg (Jv rfl (.s (.s (.s .z))) rfl pl40) rfl (Jg (Jr u40 rfl rfl) rfl (Jg (JZ rfl rfl) rfl (Jf (Ja (hK6 (Jp rfl (fun h20=>?_) (fun h20=>?_))))))))))))
 ·
  have hxi:=toS_at (ts:=f) (k:=i) (by omega);have hxp:=hs.key _ hxi;have hxv:=hs.val _ hxi;have hxe:=hfk _ hxi;simp only at hxp hxv hxe;have hx8:=hxp.len;have hxn : ∀j,0≤(tm f i).mono.getD j 0:=fun j=>(hxp.bd j).1;refine Jo (Ja (hK5 (Jd fun _ hK7 _=>(Jx (Jd fun _ hK8 _=>(Jb (Jg (Jq u42 rfl sz40 rfl) rfl (Jg (Jv rfl (.s (.s (.s .z))) rfl pl40) rfl (Jg (Jc rfl) rfl (Jg (EA u40 sz89 rfl rfl rfl (by omega) hf.sm) rfl (Jg (EC u89 rfl sz87 rfl (hf.sm (i:=i) (by omega))) rfl (Jg (JT rfl (hf.mono (by omega)) (hf.sm (i:=i) (by omega)) (by rw [bytesC_length,(hf.wf _ (by omega)).mono.len];exact ag87)) rfl (JG ze87 rfl fun g7=>(Jk rfl rfl (by first | exact bytesC_one _ | exact intsC_one _ | exact Term.c_one _ | simp [Value.oneCell']) (by simpa [*] using sz87) (by simp [*]) At.z (Jf ?_)))))))))))))));refine Ja (hK8 (Jd fun _ hK9 _=>(Jb (Jg (Je rfl) rfl (Jf (Ja (hK9 (Jx (JP (σ:=Option Addr × Nat × Nat) (fun ⟨q1,c1,k⟩=>[(8,.int .i64 (k:Int))]) (fun ⟨q1,c1,k⟩=>H) (fun ⟨q1,c1,k⟩=>obj g7 (.cells (bytesC ((tm f i).mono)).toArray 87 (0,0))::obj g5 (.cells [.slice q1 (ofS (acc [] (dAll ad af (toS (f.take i))++dLk ad af ((tm f i).mono,(tm f i).fac) k))).length c1].toArray 42 (0,0))::own 89 9 q1 (ofS (acc [] (dAll ad af (toS (f.take i))++dLk ad af ((tm f i).mono,(tm f i).fac) k))).length c1 (tsC (ofS (acc [] (dAll ad af (toS (f.take i))++dLk ad af ((tm f i).mono,(tm f i).fac) k))))::obj g4 (.cells [.slice none 0 0].toArray 42 (0,0))::obj g3 (.cells [.slice qf f.length cf].toArray 42 (0,0))::obj g2 (.cells [.slice qad ad.length cad,.slice qaf af.length caf].toArray 27 (0,0))::L) (fun ⟨q1,c1,k⟩=>k≤ad.length) (fun ⟨q1,c1,k⟩=>ad.length - k) (q,c,0) (by show 0≤ad.length;omega) ⟨rfl,trivial⟩ rfl (by simp only [dLk,List.range_zero,List.flatMap_nil,List.append_nil]) ?_)))))))));rintro ⟨q1,c1,k⟩ hkI _ hAg1;have hk:=hkI;have wfO:=(d2_sok (ad:=ad) hf9 hs hoc (i:=i) (by omega) k).wf (by omega);refine Jd fun _ hK10 _=>(Jd fun _ hK11 _=>(Jb (Jg (Jc rfl) rfl (Jg (Jq u27 rfl sz24 rfl) rfl (Jg (Jv rfl (.s (.s (.s (.s (.s .z))))) rfl pl24) rfl (Jg (Jr u24 rfl rfl) rfl (Jg (JZ rfl rfl) rfl (Jf (Ja (hK11 (Jp rfl (fun h33=>?_) (fun h33=>?_))))))))))))
  ·
   have hkl:k<af.length:=by omega
   have hpk:=hxp.bd k;refine Jo (Ja (hK10 (Jd fun _ hK12 _=>(Jx (Jd fun _ hK13 _=>(Jd fun _ hK14 _=>(Jb (Jg (Jc rfl) rfl (Jg (Ea u87 sz5 rfl rfl rfl (by omega)) rfl (Jg (Jv rfl At.z (bytesC_get (by omega)) pl5) rfl (Jg (En rfl rfl) rfl (Jf (Ja (hK14 (Jp rfl (fun h39=>?_) (fun h39=>?_))))))))))))))))
   ·
    refine JR (Jw (JY (Ja (hK12 (Jb (Jg (Jc rfl) rfl (Jg (JF rfl rfl (by first | exact nw _ (by omega) | rfl)) rfl (Jg (Je rfl) rfl (Jf (Ja ?_))))))))));exact hAg1 (q1,c1,k+1) (by show k+1≤ad.length;omega) (by show ad.length - (k+1)<ad.length - k;omega) 13 rfl rfl ⟨rfl,trivial⟩ rfl (by simp only [acc_dN (ds:=ad) (fs:=af) (x:=((tm f i).mono,(tm f i).fac)) (k:=k) (show ¬0<(tm f i).mono.getD k 0 by omega)])
   ·
    have hpos:0<(tm f i).mono.getD k 0:=by omega
    have hlp:=leftP_pok hxp hpos;have hfp:=aheadP_pok hxp k;have hbp:=behP_pok hxp (k+1);have hlm:=hlp.mn (by omega);have hfm:=hfp.mn (by omega);have hbm:=hbp.mn (by omega);have hle:=leftP_ex hxp hxe hpos;have hbe:=behP_ex hxp hxe (k+1);have mb:=mul_sb (b:=(tm f i).mono.getD k 0) (B:=255) (show -10006≤(tm f i).fac∧(tm f i).fac≤10006 by omega) (by omega);have gt1:=gtimes (ds:=ad) (Sok.one hlp (k:=1) (by omega)).g (hf9 k hkl).1.g;have gt2:=gtimes (ds:=ad) (gt1.g) (Sok.one hbp (k:=1) (by omega)).g;have l9:=hL k hkl;have l8:=d2_len (ad:=ad) hL hoc hlf (i:=i) (k:=k) (by omega) (by omega);refine Jo (Ja (hK13 (Jd fun _ hK15 _=>(Ed (Rs:=[_,_,_,_,_,_]) 6 [[], [], [], [], [0,2,3], [0,1,2,3,4]] [[6], [6], [], [], [], []] [[], [], [], [], [2], [3]] rfl rfl (by kernel_rfl) ?_))));apply Jm 1 rfl
    iterate 3 focus (intros;(conv=>lhs;simp only [Jh,Js,JO,Ju,JI,eq_self,reduceEqDiff,reduceIte,reduceSub,reduceAdd,JxA,JxB]);all_goals rfl)
    ·
     intro gh X K zq zc zq2 zc2 zb zv hK;refine Jg (Jl rfl At.z (by simpa [*] using ag87)) rfl (Jj ?_);exact hK zq zc zq2 zc2 zb zv
    ·
     intro gh gh' h
     rfl
    apply Jm 2 rfl
    iterate 3 focus (intros;(conv=>lhs;simp only [Jh,Js,JO,Ju,JI,eq_self,reduceEqDiff,reduceIte,reduceSub,reduceAdd,JxA,JxB]);all_goals rfl)
    ·
     intro gh X K zq zc zq2 zc2 zb zv hK;refine Jg (Jl rfl At.z (by simpa [*] using ag87)) rfl (Jj ?_);exact hK zq zc zq2 zc2 zb zv
    ·
     intro gh gh' h
     rfl
    apply Eb 3 rfl
    iterate 3 focus (intros;(conv=>lhs;simp only [Jh,Js,JO,Ju,JI,eq_self,reduceEqDiff,reduceIte,reduceSub,reduceAdd,JxA,JxB]);all_goals rfl)
    ·
     intro gh X K zq zc zq2 zc2 zb zv hK;refine JG ze87 rfl fun g9=>(Jj ?_);exact hK zq zc zq2 zc2 g9 zv
    ·
     intro gh gh' h;refine ⟨?_,?_⟩ <;> rfl
    apply Eb 4 rfl
    iterate 3 focus (intros;(conv=>lhs;simp only [Jh,Js,JO,Ju,JI,eq_self,reduceEqDiff,reduceIte,reduceSub,reduceAdd,JxA,JxB]);all_goals rfl)
    ·
     intro gh X K zq zc zq2 zc2 zb zv hK;refine JG ze87 rfl fun g10=>(Jj ?_);exact hK zq zc zq2 zc2 g10 zv
    ·
     intro gh gh' h;refine ⟨?_,?_⟩ <;> rfl
    apply Es 5 rfl
    iterate 3 focus (intros;(conv=>lhs;simp only [Jh,Js,JO,Ju,JI,eq_self,reduceEqDiff,reduceIte,reduceSub,reduceAdd,JxA,JxB]);all_goals rfl)
    ·
     intro gh X K hK;refine Jk rfl rfl (by first | exact bytesC_one _ | exact intsC_one _ | exact Term.c_one _ | simp [Value.oneCell']) (by simpa [*] using sz87) (by simp [*]) At.z (Jj ?_);exact hK
    ·
     intro gh gh' h
     first | simp only [h 2 rfl,h 3 rfl] | rfl
    apply Es 6 rfl
    iterate 3 focus (intros;(conv=>lhs;simp only [Jh,Js,JO,Ju,JI,eq_self,reduceEqDiff,reduceIte,reduceSub,reduceAdd,JxA,JxB]);all_goals rfl)
    ·
     intro gh X K hK;refine Jk rfl rfl (by first | exact bytesC_one _ | exact intsC_one _ | exact Term.c_one _ | simp [Value.oneCell']) (by simpa [*] using sz87) (by simp [*]) At.z (Jj ?_);exact hK
    ·
     intro gh gh' h
     first | simp only [h 2 rfl,h 3 rfl] | rfl
    apply Ec [0,1,2,3,4,5] [0,1,4,5,6,7,8,9,10,11] foll0 rfl rfl rfl (by rfl)
    iterate 2 focus (intros;(conv=>lhs;simp only [Jh,Js,JO,Ju,JI,eq_self,reduceEqDiff,reduceIte,reduceSub,reduceAdd,JxA,JxB]);all_goals rfl)
    intro gh;generalize (gh 2).b=g9;generalize (gh 3).b=g10;clear gh;refine Ja (hK15 (Jd fun _ hK16 _=>(Jd fun _ hK17 _=>(Jb (Jg (Je rfl) rfl (Jf (Ja (hK17 (Jx (JP (σ:=Nat) (fun (j:Nat)=>[(11,.int .i64 (j:Int))]) (fun (j:Nat)=>H) (fun (j:Nat)=>obj g9 (.cells (bytesC (frK (tm f i).mono k j)).toArray 87 (0,0))::obj g10 (.cells (bytesC (bkK (tm f i).mono k j)).toArray 87 (0,0))::obj g7 (.cells (bytesC ((tm f i).mono)).toArray 87 (0,0))::obj g5 (.cells [.slice q1 (ofS (acc [] (dAll ad af (toS (f.take i))++dLk ad af ((tm f i).mono,(tm f i).fac) k))).length c1].toArray 42 (0,0))::own 89 9 q1 (ofS (acc [] (dAll ad af (toS (f.take i))++dLk ad af ((tm f i).mono,(tm f i).fac) k))).length c1 (tsC (ofS (acc [] (dAll ad af (toS (f.take i))++dLk ad af ((tm f i).mono,(tm f i).fac) k))))::obj g4 (.cells [.slice none 0 0].toArray 42 (0,0))::obj g3 (.cells [.slice qf f.length cf].toArray 42 (0,0))::obj g2 (.cells [.slice qad ad.length cad,.slice qaf af.length caf].toArray 27 (0,0))::L) (fun (j:Nat)=>j≤8) (fun (j:Nat)=>8 - j) 0 (by omega) ⟨rfl,trivial⟩ rfl (by rw [bkK_zero hx8,frK_zero hx8]) ?_))))))))));rintro j hj _ hAg2;refine Jd fun _ hK18 _=>(Jd fun _ hK19 _=>(Jb (Jg (Jc rfl) rfl (Jg (JZ rfl rfl) rfl (Jf (Ja (hK19 (Jp rfl (fun h43=>?_) (fun h43=>?_)))))))))
    ·
     refine Jo (Ja (hK18 (Jd fun _ hK20 _=>(Jx (Jd fun _ hK21 _=>(Jd fun _ hK22 _=>(Jb (Jg (Jc rfl) rfl (Jg (Jc rfl) rfl (Jg (PR.geq rfl rfl) rfl (Jf (Ja (hK22 (Jp rfl (fun h48=>?_) (fun h48=>?_)))))))))))))))
     ·
      refine Jb (Jg (Jc rfl) rfl (Jg (Ea u87 sz5 rfl rfl rfl (by omega)) rfl (EV rfl rfl sz5 (by simp;omega) At.z (Jf (Ja (hK21 (Jd fun _ hK23 _=>(Jb (Jg (Jc rfl) rfl (Jg (Jc rfl) rfl (Jg (PR.leq rfl rfl) rfl (Jf (Ja (hK23 (Jp rfl (fun h53=>?_) (fun h53=>?_))))))))))))))))
      ·
       refine Jb (Jg (Jc rfl) rfl (Jg (Ea u87 sz5 rfl rfl rfl (by omega)) rfl (EV rfl rfl sz5 (by simp;omega) (.s .z) (Jf (JJ (Ja (hK20 (Jb (Jg (Jc rfl) rfl (Jg (JF rfl rfl (by first | exact nw _ (by omega) | rfl)) rfl (Jg (Je rfl) rfl (Jf (Ja ?_)))))))))))));exact hAg2 (j+1) (by omega) (by omega) 16 rfl rfl ⟨rfl,trivial⟩ rfl (by simp only [frK_yes (p:=(tm f i).mono) (show j<8 by omega) (show k≤j by omega),bkK_yes (p:=(tm f i).mono) (show j<8 by omega) (show j≤k by omega)])
      ·
       refine Jo (JJ (Ja (hK20 (Jb (Jg (Jc rfl) rfl (Jg (JF rfl rfl (by first | exact nw _ (by omega) | rfl)) rfl (Jg (Je rfl) rfl (Jf (Ja ?_)))))))));exact hAg2 (j+1) (by omega) (by omega) 14 rfl rfl ⟨rfl,trivial⟩ rfl (by simp only [frK_yes (p:=(tm f i).mono) (show j<8 by omega) (show k≤j by omega),bkK_no (p:=(tm f i).mono) (show ¬j≤k by omega)])
     ·
      refine Jo (Ja (hK21 (Jd fun _ hK24 _=>(Jb (Jg (Jc rfl) rfl (Jg (Jc rfl) rfl (Jg (PR.leq rfl rfl) rfl (Jf (Ja (hK24 (Jp rfl (fun h53=>?_) (fun h53=>?_))))))))))))
      ·
       refine Jb (Jg (Jc rfl) rfl (Jg (Ea u87 sz5 rfl rfl rfl (by omega)) rfl (EV rfl rfl sz5 (by simp;omega) (.s .z) (Jf (JJ (Ja (hK20 (Jb (Jg (Jc rfl) rfl (Jg (JF rfl rfl (by first | exact nw _ (by omega) | rfl)) rfl (Jg (Je rfl) rfl (Jf (Ja ?_)))))))))))));exact hAg2 (j+1) (by omega) (by omega) 14 rfl rfl ⟨rfl,trivial⟩ rfl (by simp only [frK_no (p:=(tm f i).mono) (show ¬k≤j by omega),bkK_yes (p:=(tm f i).mono) (show j<8 by omega) (show j≤k by omega)])
      ·
       refine Jo (JJ (Ja (hK20 (Jb (Jg (Jc rfl) rfl (Jg (JF rfl rfl (by first | exact nw _ (by omega) | rfl)) rfl (Jg (Je rfl) rfl (Jf (Ja ?_)))))))));exact hAg2 (j+1) (by omega) (by omega) 12 rfl rfl ⟨rfl,trivial⟩ rfl (by simp only [frK_no (p:=(tm f i).mono) (show ¬k≤j by omega),bkK_no (p:=(tm f i).mono) (show ¬j≤k by omega)])
    ·
     obtain rfl:j=8:=by omega
     rw [frK_end,bkK_end];refine JR (Jw (Jw (JY (Ja (hK16 (Jd fun _ hK25 _=>(Jb (Jg (Jl rfl At.z (by simpa using ag87)) rfl (JG ze87 rfl fun g12=>(Jk rfl rfl (by first | exact bytesC_one _ | exact intsC_one _ | exact Term.c_one _ | simp [Value.oneCell']) (by simpa [*] using sz87) (by simp [*]) At.z (Jf (Ja (hK25 (Jd fun _ hK26 _=>(Jb (Jg (Jc rfl) rfl ?_))))))))))))))));refine Jg (Jc rfl) rfl (Jg (Ea u87 sz5 rfl rfl rfl (by omega)) rfl (Jg (Jv rfl (.s (.s (.s .z))) (bytesC_get (by omega)) pl5) rfl (Jg (ET rfl rfl (u8_id (by omega))) rfl (Jg (Ea u87 sz5 rfl rfl rfl (by omega)) rfl (EV rfl rfl sz5 (by simp;omega) At.z (Jf (Ja (hK26 (Jd fun _ hK27 _=>(ED foll0 (by kernel_rfl) (JH (Jq u42 rfl sz40 rfl) rfl (JH (Jv rfl (.s (.s (.s (.s (.s (.s (.s .z))))))) rfl pl40) rfl (JH (Jc rfl) rfl (JH (EA u40 sz89 rfl rfl rfl (by omega) hf.sm) rfl (JH (EC u89 rfl sz2 rfl (hf.sm (i:=i) (by omega))) rfl ?_)))))))))))))));refine JH (JX rfl (hf.fac (by omega)) pl2) rfl (JH (Jc rfl) rfl (JH (Ea u87 sz5 rfl rfl rfl (by omega)) rfl (JH (Jv rfl (.s (.s (.s .z))) (bytesC_get (by omega)) pl5) rfl (JH (EE u5 u2 rfl (by first | exact nw _ (by omega) | rfl)) rfl (JH (EZ rfl rfl (by first | exact nw _ (by omega) | rfl)) rfl (JH (Je rfl) rfl (Ej (Ja (hK27 (EL (σ:=Int) (fun (v:Int)=>[(13,.int .i64 v)]) (fun (v:Int)=>H) (fun (v:Int)=>obj g12 (.cells (bytesC (leftP (tm f i).mono k)).toArray 87 (0,0))::obj g9 (.cells (bytesC (aheadP (tm f i).mono k)).toArray 87 (0,0))::obj g10 (.cells (bytesC (behP (tm f i).mono (k+1))).toArray 87 (0,0))::obj g7 (.cells (bytesC ((tm f i).mono)).toArray 87 (0,0))::obj g5 (.cells [.slice q1 (ofS (acc [] (dAll ad af (toS (f.take i))++dLk ad af ((tm f i).mono,(tm f i).fac) k))).length c1].toArray 42 (0,0))::own 89 9 q1 (ofS (acc [] (dAll ad af (toS (f.take i))++dLk ad af ((tm f i).mono,(tm f i).fac) k))).length c1 (tsC (ofS (acc [] (dAll ad af (toS (f.take i))++dLk ad af ((tm f i).mono,(tm f i).fac) k))))::obj g4 (.cells [.slice none 0 0].toArray 42 (0,0))::obj g3 (.cells [.slice qf f.length cf].toArray 42 (0,0))::obj g2 (.cells [.slice qad ad.length cad,.slice qaf af.length caf].toArray 27 (0,0))::L) (fun (v:Int)=>fld v=fld (dsg ad (tm f i).mono k * (tm f i).fac * (tm f i).mono.getD k 0)∧ -1000000000000≤v∧v≤1000000000000) ?_ ?_))))))))))
     ·
      intro _ hMt1;refine Jd fun _ hK28 _=>(Jb (Jg (Jq u27 rfl sz24 rfl) rfl (Jg (Jv rfl (.s (.s (.s (.s (.s (.s (.s (.s .z)))))))) rfl pl24) rfl (Jg (Jl rfl (.s .z) (by simpa using ag87)) rfl (Jz fn88 rfl rfl fun w hH=>(l01Weight_c had hfm hn hd hH).mono ?_)))));rintro _ w ⟨rfl,hH⟩;refine ⟨_,rfl,fun a hF=>JL hF hH ?_⟩;refine Jg (ER rfl rfl (by decide) rfl) rfl (Jg (Ew rfl rfl) rfl (Jf (Ja (hK28 (Jp rfl (fun h79=>?_) (fun h79=>?_))))))
      ·
       refine Jb (Jg (Jc rfl) rfl (Jg (PR.neg rfl (by first | exact nw _ (by omega) | rfl)) rfl (Jg (Je rfl) rfl (Jf (Ja ?_)))));exact hMt1 (0 - (tm f i).fac * (tm f i).mono.getD k 0) ⟨(fac_neg (sg_neg hn hd hxn (by omega) h79)).symm,by omega,by omega⟩ 9 rfl rfl ⟨(vi (by omega)),trivial⟩ rfl rfl
      ·
       refine Jo (Ja ?_);exact hMt1 ((tm f i).fac * (tm f i).mono.getD k 0) ⟨(fac_pos (sg_pos hn hd hxn (by omega) h79)).symm,by omega,by omega⟩ 6 rfl rfl ⟨rfl,trivial⟩ rfl rfl
     ·
      rintro v ⟨hv,hvb⟩;refine Jd fun _ hK29 _=>(Ed (Rs:=[_,_,_,_,_,_,_,_,_]) 12 [[], [0], [], [2], [], [4], [], [4,5,6], [4,5,6,7], [0,1,2,3,4,5,6,7,8], [], [0,1,2,3,4,5,6,7,8,9,10]] [[], [20], [12], [], [], [20], [], [], [], [3], [], []] [[], [], [], [], [], [], [], [], [], [], [], [10]] rfl rfl (by kernel_rfl) ?_);apply Jm 1 rfl
      iterate 3 focus (intros;(conv=>lhs;simp only [Jh,Js,JO,Ju,JI,eq_self,reduceEqDiff,reduceIte,reduceSub,reduceAdd,JxA,JxB]);all_goals rfl)
      ·
       intro gh X K zq zc zq2 zc2 zb zv hK;refine Jg (Jq u27 rfl sz24 rfl) rfl (Jj ?_);exact hK zq zc zq2 zc2 zb zv
      ·
       intro gh gh' h
       rfl
      apply Jm 2 rfl
      iterate 3 focus (intros;(conv=>lhs;simp only [Jh,Js,JO,Ju,JI,eq_self,reduceEqDiff,reduceIte,reduceSub,reduceAdd,JxA,JxB]);all_goals rfl)
      ·
       intro gh X K zq zc zq2 zc2 zb zv hK;refine Jg (Jv rfl At.z rfl pl24) rfl (Jj ?_);exact hK zq zc zq2 zc2 zb zv
      ·
       intro gh gh' h
       rfl
      apply Jm 3 rfl
      iterate 3 focus (intros;(conv=>lhs;simp only [Jh,Js,JO,Ju,JI,eq_self,reduceEqDiff,reduceIte,reduceSub,reduceAdd,JxA,JxB]);all_goals rfl)
      ·
       intro gh X K zq zc zq2 zc2 zb zv hK;refine Jg (Jl rfl At.z (by simpa using ag87)) rfl (Jj ?_);exact hK zq zc zq2 zc2 zb zv
      ·
       intro gh gh' h
       rfl
      apply Eb 4 rfl
      iterate 3 focus (intros;(conv=>lhs;simp only [Jh,Js,JO,Ju,JI,eq_self,reduceEqDiff,reduceIte,reduceSub,reduceAdd,JxA,JxB]);all_goals rfl)
      ·
       intro gh X K zq zc zq2 zc2 zb zv hK;refine Jz fn91 rfl rfl fun w hH=>(l01Single_c hlm (by omega) hH).mono ?_;rintro _ w ⟨qo85,co85,rfl,hH⟩;refine ⟨_,rfl,fun a hF=>JL hF hH ?_⟩;refine Jj ?_;exact hK qo85 co85 zq2 zc2 zb zv
      ·
       intro gh gh' h;refine ⟨?_,?_⟩ <;> rfl
      apply Jm 5 rfl
      iterate 3 focus (intros;(conv=>lhs;simp only [Jh,Js,JO,Ju,JI,eq_self,reduceEqDiff,reduceIte,reduceSub,reduceAdd,JxA,JxB]);all_goals rfl)
      ·
       intro gh X K zq zc zq2 zc2 zb zv hK;refine Jg (Jq u27 rfl sz25 rfl) rfl (Jj ?_);exact hK zq zc zq2 zc2 zb zv
      ·
       intro gh gh' h
       rfl
      apply Jm 6 rfl
      iterate 3 focus (intros;(conv=>lhs;simp only [Jh,Js,JO,Ju,JI,eq_self,reduceEqDiff,reduceIte,reduceSub,reduceAdd,JxA,JxB]);all_goals rfl)
      ·
       intro gh X K zq zc zq2 zc2 zb zv hK;refine Jg (Jv rfl At.z rfl pl25) rfl (Jj ?_);exact hK zq zc zq2 zc2 zb zv
      ·
       intro gh gh' h
       rfl
      apply Jm 7 rfl
      iterate 3 focus (intros;(conv=>lhs;simp only [Jh,Js,JO,Ju,JI,eq_self,reduceEqDiff,reduceIte,reduceSub,reduceAdd,JxA,JxB]);all_goals rfl)
      ·
       intro gh X K zq zc zq2 zc2 zb zv hK;refine Jg (Jc rfl) rfl (Jj ?_);exact hK zq zc zq2 zc2 zb zv
      ·
       intro gh gh' h
       rfl
      apply Jm 8 rfl
      iterate 3 focus (intros;(conv=>lhs;simp only [Jh,Js,JO,Ju,JI,eq_self,reduceEqDiff,reduceIte,reduceSub,reduceAdd,JxA,JxB]);all_goals rfl)
      ·
       intro gh X K zq zc zq2 zc2 zb zv hK;refine Jg (Eg u25 sz42 rfl rfl rfl (by omega) haf.sm) rfl (Jj ?_);exact hK zq zc zq2 zc2 zb zv
      ·
       intro gh gh' h
       rfl
      obtain ⟨qe90,ce90,he90,le90,Fe90⟩:=haf k (by omega);apply Jm 9 rfl
      iterate 3 focus (intros;(conv=>lhs;simp only [Jh,Js,JO,Ju,JI,eq_self,reduceEqDiff,reduceIte,reduceSub,reduceAdd,JxA,JxB]);all_goals rfl)
      ·
       intro gh X K zq zc zq2 zc2 zb zv hK;refine Jg (JT (cs:=[_]) rfl (one_cell he90) (haf.sm (i:=k) (by omega)) ag42) rfl (Jj ?_);exact hK zq zc zq2 zc2 zb zv
      ·
       intro gh gh' h
       rfl
      apply Eb 10 rfl
      iterate 3 focus (intros;(conv=>lhs;simp only [Jh,Js,JO,Ju,JI,eq_self,reduceEqDiff,reduceIte,reduceSub,reduceAdd,JxA,JxB]);all_goals rfl)
      ·
       intro gh X K zq zc zq2 zc2 zb zv hK;refine Jz fn72 rfl rfl fun w hH=>hH.lend .z fun Hl1 hle1 hA1 hB1 hH=>(l01Times_c (had.le hle1) (own_terms (one_wf hlm) hA1) (Fe90.le hle1) hn hd (one_kex hle) (hk9 k hkl) (one_g hlp) (hf9 k hkl).1.g (by omega) (by rw [one_len];omega) (by rw [one_len];omega) hH).mono ?_;rintro _ w ⟨qo91,co91,rfl,hH⟩;replace hH:=hB1 _ _ hH;refine ⟨_,rfl,fun a hF=>JL hF hH ?_⟩;refine Ji .z (Ji (.s .z) (Jj ?_));exact hK qo91 co91 zq2 zc2 zb zv
      ·
       intro gh gh' h;refine ⟨?_,?_⟩ <;> (first | simp only [h 3 rfl] | rfl)
      apply Eb 11 rfl
      iterate 3 focus (intros;(conv=>lhs;simp only [Jh,Js,JO,Ju,JI,eq_self,reduceEqDiff,reduceIte,reduceSub,reduceAdd,JxA,JxB]);all_goals rfl)
      ·
       intro gh X K zq zc zq2 zc2 zb zv hK;refine JG ze42 rfl fun g14=>(Jj ?_);exact hK zq zc zq2 zc2 g14 zv
      ·
       intro gh gh' h;refine ⟨?_,?_⟩ <;> rfl
      apply Es 12 rfl
      iterate 3 focus (intros;(conv=>lhs;simp only [Jh,Js,JO,Ju,JI,eq_self,reduceEqDiff,reduceIte,reduceSub,reduceAdd,JxA,JxB]);all_goals rfl)
      ·
       intro gh X K hK;refine Jk rfl rfl (by first | exact bytesC_one _ | exact intsC_one _ | exact Term.c_one _ | simp [Value.oneCell']) (by simpa [*] using sz42) (by simp [*]) At.z (Jj ?_);exact hK
      ·
       intro gh gh' h
       first | simp only [h 3 rfl,h 9 rfl,h 10 rfl] | rfl
      apply Ec [0,1,2,3,4,5,6,7,8,9,10,11] [0,1,2,3,4,5,6,7,8,9,11,12,13,14,15,16,17,18,19,20] foll0 rfl rfl rfl (by rfl)
      iterate 2 focus (intros;(conv=>lhs;simp only [Jh,Js,JO,Ju,JI,eq_self,reduceEqDiff,reduceIte,reduceSub,reduceAdd,JxA,JxB]);all_goals rfl)
      intro gh;generalize (gh 3).c=co85;generalize (gh 3).q=qo85;generalize (gh 9).c=co91;generalize (gh 9).q=qo91;generalize (gh 10).b=g14;clear gh;refine Ja (hK29 (Ed (Rs:=[_,_,_,_,_,_,_,_,_,_,_,_]) 11 [[], [], [1], [], [], [4], [1,2,3,4,5], [], [1,2,3,4,5,6,7], [0,1,2,3,4,5,6,7,8], [0,1,2,3,4,5,6,7,8,9]] [[18], [], [22], [13], [16], [], [5,12], [], [], [6,19], []] [[], [], [], [], [], [], [], [], [], [], [18]] rfl rfl (by kernel_rfl) ?_));apply Jm 1 rfl
      iterate 3 focus (intros;(conv=>lhs;simp only [Jh,Js,JO,Ju,JI,eq_self,reduceEqDiff,reduceIte,reduceSub,reduceAdd,JxA,JxB]);all_goals rfl)
      ·
       intro gh X K zq zc zq2 zc2 zb zv hK;refine Jg (Jl rfl At.z (by simpa [*] using ag42)) rfl (Jj ?_);exact hK zq zc zq2 zc2 zb zv
      ·
       intro gh gh' h
       rfl
      apply Jm 2 rfl
      iterate 3 focus (intros;(conv=>lhs;simp only [Jh,Js,JO,Ju,JI,eq_self,reduceEqDiff,reduceIte,reduceSub,reduceAdd,JxA,JxB]);all_goals rfl)
      ·
       intro gh X K zq zc zq2 zc2 zb zv hK;refine Jg (Jq u27 rfl sz24 rfl) rfl (Jj ?_);exact hK zq zc zq2 zc2 zb zv
      ·
       intro gh gh' h
       rfl
      apply Jm 3 rfl
      iterate 3 focus (intros;(conv=>lhs;simp only [Jh,Js,JO,Ju,JI,eq_self,reduceEqDiff,reduceIte,reduceSub,reduceAdd,JxA,JxB]);all_goals rfl)
      ·
       intro gh X K zq zc zq2 zc2 zb zv hK;refine Jg (Jv rfl At.z rfl pl24) rfl (Jj ?_);exact hK zq zc zq2 zc2 zb zv
      ·
       intro gh gh' h
       rfl
      apply Jm 4 rfl
      iterate 3 focus (intros;(conv=>lhs;simp only [Jh,Js,JO,Ju,JI,eq_self,reduceEqDiff,reduceIte,reduceSub,reduceAdd,JxA,JxB]);all_goals rfl)
      ·
       intro gh X K zq zc zq2 zc2 zb zv hK;refine Jg (Jl rfl At.z (by simpa [*] using ag42)) rfl (Jj ?_);exact hK zq zc zq2 zc2 zb zv
      ·
       intro gh gh' h
       rfl
      apply Jm 5 rfl
      iterate 3 focus (intros;(conv=>lhs;simp only [Jh,Js,JO,Ju,JI,eq_self,reduceEqDiff,reduceIte,reduceSub,reduceAdd,JxA,JxB]);all_goals rfl)
      ·
       intro gh X K zq zc zq2 zc2 zb zv hK;refine Jg (Jl rfl At.z (by simpa using ag87)) rfl (Jj ?_);exact hK zq zc zq2 zc2 zb zv
      ·
       intro gh gh' h
       rfl
      apply Eb 6 rfl
      iterate 3 focus (intros;(conv=>lhs;simp only [Jh,Js,JO,Ju,JI,eq_self,reduceEqDiff,reduceIte,reduceSub,reduceAdd,JxA,JxB]);all_goals rfl)
      ·
       intro gh X K zq zc zq2 zc2 zb zv hK;refine Jz fn91 rfl rfl fun w hH=>(l01Single_c hbm (by omega) hH).mono ?_;rintro _ w ⟨qo97,co97,rfl,hH⟩;refine ⟨_,rfl,fun a hF=>JL hF hH ?_⟩;refine Jj ?_;exact hK qo97 co97 zq2 zc2 zb zv
      ·
       intro gh gh' h;refine ⟨?_,?_⟩ <;> rfl
      apply Eb 7 rfl
      iterate 3 focus (intros;(conv=>lhs;simp only [Jh,Js,JO,Ju,JI,eq_self,reduceEqDiff,reduceIte,reduceSub,reduceAdd,JxA,JxB]);all_goals rfl)
      ·
       intro gh X K zq zc zq2 zc2 zb zv hK;refine Jz fn72 rfl rfl fun w hH=>hH.lend (.s .z) fun Hl1 hle1 hA1 hB1 hH=>hH.lend .z fun Hl2 hle2 hA2 hB2 hH=>(l01Times_c ((had.le hle1).le hle2) ((own_terms (by simp only [toS_ofS,addS_one];exact gt1.wf (by omega)) hA1).le hle2) (own_terms (one_wf hbm) hA2) hn hd (by rw [toS_ofS];exact times_kex (one_g hlp) (hf9 k hkl).1.g (one_kex hle) (hk9 k hkl)) (one_kex hbe) (by simp only [toS_ofS,addS_one];exact gt1.g) (one_g hbp) (by omega) (by have h:=times_len ad (toS (ofS (addS [] (leftP (tm f i).mono k) 1))) (toS (fm af k));rw [toS_len,toS_len,one_len] at h;rw [one_len,ofS_len];omega) (by have h:=times_len ad (toS (ofS (addS [] (leftP (tm f i).mono k) 1))) (toS (fm af k));rw [toS_len,toS_len,one_len] at h;rw [ofS_len];omega) hH).mono ?_;rintro _ w ⟨qo98,co98,rfl,hH⟩;replace hH:=hB2 _ _ hH;replace hH:=hB1 _ _ hH;refine ⟨_,rfl,fun a hF=>JL hF hH ?_⟩;refine Ji .z (Ji (.s .z) (Ji (.s (.s .z)) (Jj ?_)));exact hK qo98 co98 zq2 zc2 zb zv
      ·
       intro gh gh' h;refine ⟨?_,?_⟩ <;> (first | simp only [h 5 rfl] | rfl)
      apply Jm 8 rfl
      iterate 3 focus (intros;(conv=>lhs;simp only [Jh,Js,JO,Ju,JI,eq_self,reduceEqDiff,reduceIte,reduceSub,reduceAdd,JxA,JxB]);all_goals rfl)
      ·
       intro gh X K zq zc zq2 zc2 zb zv hK;refine Jg (Jc rfl) rfl (Jj ?_);exact hK zq zc zq2 zc2 zb zv
      ·
       intro gh gh' h
       rfl
      apply Jm 9 rfl
      iterate 3 focus (intros;(conv=>lhs;simp only [Jh,Js,JO,Ju,JI,eq_self,reduceEqDiff,reduceIte,reduceSub,reduceAdd,JxA,JxB]);all_goals rfl)
      ·
       intro gh X K zq zc zq2 zc2 zb zv hK;refine Jz fn93 rfl rfl fun w hH=>(l01Mod_c (by omega) hH).mono ?_;rintro _ w ⟨rfl,hH⟩;refine ⟨_,rfl,fun a hF=>JL hF hH ?_⟩;refine Jj ?_;exact hK zq zc zq2 zc2 zb zv
      ·
       intro gh gh' h
       first | simp only [h 5 rfl,h 6 rfl] | rfl
      apply Eb 10 rfl
      iterate 3 focus (intros;(conv=>lhs;simp only [Jh,Js,JO,Ju,JI,eq_self,reduceEqDiff,reduceIte,reduceSub,reduceAdd,JxA,JxB]);all_goals rfl)
      ·
       intro gh X K zq zc zq2 zc2 zb zv hK;refine Jz fn92 rfl rfl fun w hH=>hH.lend (.s .z) fun Hl1 hle1 hA1 hB1 hH=>hH.lend .z fun Hl2 hle2 hA2 hB2 hH=>(l01Add_c ((own_terms wfO hA1).le hle2) (own_terms (by simp only [toS_ofS,addS_one];exact gt2.wf (by omega)) hA2) (by rw [toS_ofS];exact d2_sok hf9 hs hoc (by omega) k) (by simp only [toS_ofS,addS_one];exact gt2.g) (by omega) (fld_bd _) (by have h1:=dT_len ad (toS (fm af k)) (tm f i).mono k;unfold dT at h1;rw [toS_len] at h1;simp only [toS_ofS,addS_one,ofS_len];omega) hH).mono ?_;rintro _ w ⟨qo101,co101,rfl,hH⟩;replace hH:=hB2 _ _ hH;replace hH:=hB1 _ _ hH;refine ⟨_,rfl,fun a hF=>JL hF hH ?_⟩;refine Ji .z (Ji (.s .z) (Ji (.s (.s .z)) (Jj ?_)));exact hK qo101 co101 zq2 zc2 zb zv
      ·
       intro gh gh' h;refine ⟨?_,?_⟩ <;> (first | simp only [h 5 rfl,h 6 rfl] | rfl)
      apply Es 11 rfl
      iterate 3 focus (intros;(conv=>lhs;simp only [Jh,Js,JO,Ju,JI,eq_self,reduceEqDiff,reduceIte,reduceSub,reduceAdd,JxA,JxB]);all_goals rfl)
      ·
       intro gh X K hK;refine Jk rfl rfl (by first | exact bytesC_one _ | exact intsC_one _ | exact Term.c_one _ | simp [Value.oneCell']) (by simpa [*] using sz42) (by simp [*]) At.z (Jj ?_);exact hK
      ·
       intro gh gh' h
       first | simp only [h 5 rfl,h 6 rfl,h 9 rfl] | rfl
      apply Ec [0,1,2,3,4,5,6,7,8,9,10] [0,1,2,3,4,5,6,7,8,9,10,11,12,13,14,15,16,17,19,20,21,22] foll0 rfl rfl rfl (by rfl)
      iterate 2 focus (intros;(conv=>lhs;simp only [Jh,Js,JO,Ju,JI,eq_self,reduceEqDiff,reduceIte,reduceSub,reduceAdd,JxA,JxB]);all_goals rfl)
      intro gh;generalize (gh 5).c=co97;generalize (gh 5).q=qo97;generalize (gh 6).c=co98;generalize (gh 6).q=qo98;generalize (gh 9).c=co101;generalize (gh 9).q=qo101;clear gh;refine JJ (Ja (hK12 (Jb (Jg (Jc rfl) rfl (Jg (JF rfl rfl (by first | exact nw _ (by omega) | rfl)) rfl (Jg (Je rfl) rfl (Jf (Ja (JC (.s (.s (.s (.s (.s (.s (.s (.s (.s (.s (.s .z))))))))))) (JC .z (JC .z (JC (.s (.s .z)) (JC (.s (.s .z)) (JC (.s (.s .z)) (JC (.s (.s .z)) ?_)))))))))))))));refine JC (.s (.s .z)) (JC (.s (.s .z)) (Ji (.s (.s (.s (.s (.s .z))))) (Ji (.s (.s (.s (.s (.s .z))))) (Ji (.s (.s (.s (.s (.s .z))))) (Ji (.s (.s (.s .z))) (Ji (.s (.s (.s (.s .z)))) (Ji (.s (.s (.s (.s (.s .z))))) ?_)))))));exact hAg1 (qo101,co101,k+1) (by show k+1≤ad.length;omega) (by show ad.length - (k+1)<ad.length - k;omega) 63 rfl rfl ⟨rfl,trivial⟩ rfl (by simp only [toS_ofS,addS_one];rw [← acc_dP (ds:=ad) (fs:=af) (x:=((tm f i).mono,(tm f i).fac)) (k:=k) hpos,← hv];rfl)
  ·
   refine JR (Jw (Jw (JY (JJ (Ja (hK7 (Jb (Jg (Jc rfl) rfl (Jg (JF rfl rfl (by first | exact nw _ (by omega) | rfl)) rfl (Jg (Je rfl) rfl (Jf (Ja (JC .z ?_)))))))))))));exact hAg0 (q1,c1,i+1) (by show i+1≤f.length;omega) (by show f.length - (i+1)<f.length - i;omega) 23 rfl rfl ⟨rfl,trivial⟩ rfl (by dsimp only;rw [dAll_take (by omega),← dLk_8 hn hxe,show ad.length=k by omega])
 ·
  refine JR (Jw (Jw (JY (Ja (hK3 (Jd fun _ hK30 _=>(Jb (Jg (Jl rfl At.z (by simpa [*] using ag42)) rfl (Jk rfl rfl (by first | exact bytesC_one _ | exact intsC_one _ | exact Term.c_one _ | simp [Value.oneCell']) (by simpa [*] using sz42) (by simp [*]) (.s (.s .z)) (Jf (Ja (hK30 (Jt (Jy rfl (Res.agg rfl (.s (.s .z)) (by simpa [*] using ag42)) fun w hH=>?_))))))))))))));replace hH:=hH.sublist (.cons _ (.cons_cons _ (.cons _ (.cons _ (.cons _ (List.Sublist.refl _))))))
  obtain rfl:i=f.length:=by omega
  rw [List.take_length] at hH ⊢;exact ⟨_,_,rfl,hH⟩
theorem fn89:Fn Tryz.prog 89:=⟨_,Tryz.func89,by kernel_rfl,rfl⟩
theorem fn98:Fn Tryz.prog 98:=⟨_,Tryz.func98,by kernel_rfl,rfl⟩
def ClF (B:World) (H0 H:HP) (g:Nat) (cap:Array Value) (S:List Term→Prop) (p:List Term→Bool):Prop:=∀(H':HP) (L:List SA) (w:World) (q:Option Addr) (c:Nat) (x:List Term),Le H H' →S x→Terms H' q x→Hp B H0 H' L w→Calls Tryz.prog g (#[]++[.agg [.slice q x.length c].toArray].toArray++cap) w fun e w'=>e = .returned (.bool (p x))∧Hp B H0 H' L w'
def idxF (xs:List (List Term)) (p:List Term→Bool):Int:=if xs.any p then (xs.findIdx p:Int) else -1
theorem fm_eq {xs:List (List Term)} {j:Nat} (hj:j<xs.length):xs[j]=fm xs j:=by simp [fm,List.getD_eq_getElem?_getD,List.getElem?_eq_getElem hj]
theorem fm_mem {xs:List (List Term)} {j:Nat} (hj:j<xs.length):fm xs j∈xs:=by rw [← fm_eq hj];exact List.getElem_mem hj
theorem idxF_hit {xs:List (List Term)} {p:List Term→Bool} {k:Nat} (hk:k<xs.length) (h : ∀j,j<k→p (fm xs j)=false) (hp:p (fm xs k)=true):idxF xs p=k:=by
 unfold idxF;have ha:xs.any p=true:=List.any_eq_true.2 ⟨xs[k],List.getElem_mem hk,by rw [fm_eq];exact hp⟩;rw [if_pos ha]
 have:xs.findIdx p=k:=by
  rw [List.findIdx_eq hk];exact ⟨by rw [fm_eq];exact hp,fun j hj=>by rw [fm_eq];exact h j hj⟩
 rw [this]
theorem idxF_miss {xs:List (List Term)} {p:List Term→Bool} (h : ∀j,j<xs.length→p (fm xs j)=false):idxF xs p = -1:=by
 unfold idxF;rw [if_neg];intro ha;obtain ⟨x,hx,hp⟩:=List.any_eq_true.1 ha;obtain ⟨j,hj,rfl⟩:=List.mem_iff_getElem.1 hx;rw [fm_eq hj,h j hj] at hp
 cases hp
theorem idxF_ge (xs:List (List Term)) (p:List Term→Bool):decide (idxF xs p≥0)=xs.any p:=by
 unfold idxF
 cases h:xs.any p with
 | true=>rw [if_pos rfl];exact decide_eq_true (by omega)
 | false=>rw [if_neg (by simp)];exact decide_eq_false (by omega)
def degOk (ds:List Int) (ts:List Term) (x:Int):Bool:=homog ds ts && (decide (degF ds ts = -1) || decide (degF ds ts=x))
def imOk (ds:List Int) (fs:List (List Term)) (i:Nat):Bool:=isForm ds (fm fs i) && degOk ds (fm fs i) (ds.getD i 0+1)
def imsOk (ds:List Int) (fs:List (List Term)):Bool:=(List.range fs.length).all (imOk ds fs)
def noD (ds:List Int) (fs:List (List Term)):Bool:=(List.range fs.length).all fun i=>decide ((dS ds fs (toS (fm fs i))).length=0)
def isAlg (ds:List Int) (fs:List (List Term)):Bool:=isDeg ds && decide (fs.length=ds.length) && imsOk ds fs && noD ds fs
theorem imsOk_bad {ds:List Int} {fs:List (List Term)} {i:Nat} (hi:i<fs.length) (h:imOk ds fs i=false):imsOk ds fs=false:=List.all_eq_false.2 ⟨i,by simpa using hi,by simp [h]⟩
theorem imsOk_good {ds:List Int} {fs:List (List Term)} (h : ∀j,j<fs.length→imOk ds fs j=true):imsOk ds fs=true:=List.all_eq_true.2 fun j hj=>h j (by simpa using hj)
theorem imsOk_at {ds:List Int} {fs:List (List Term)} (h:imsOk ds fs=true) {i:Nat} (hi:i<fs.length):imOk ds fs i=true:=List.all_eq_true.1 h i (by simpa using hi)
theorem noD_bad {ds:List Int} {fs:List (List Term)} {i:Nat} (hi:i<fs.length) (h : ¬(dS ds fs (toS (fm fs i))).length=0):noD ds fs=false:=List.all_eq_false.2 ⟨i,by simpa using hi,by simpa using h⟩
theorem noD_good {ds:List Int} {fs:List (List Term)} (h : ∀j,j<fs.length→(dS ds fs (toS (fm fs j))).length=0):noD ds fs=true:=List.all_eq_true.2 fun j hj=>by simpa using h j (by simpa using hj)
theorem isMono_le {ds m:List Int} (h:isMono ds m=true) {j:Nat} (hj:j<8):m.getD j 0≤most ds j:=by
 unfold isMono at h
 simpa using List.all_eq_true.1 h j (by simpa using hj)
theorem isMono_pok {ds m:List Int} (h:isMono ds m=true) (hm:Mono m):Pok 20 m:=⟨hm.len,fun j=>by
 have b:=hm.bd j
 rcases Nat.lt_or_ge j 8 with hj | hj
 ·have:=isMono_le h hj
  unfold most at this
  split at this
  ·split at this <;> omega
  ·omega
 ·rw [getD_ge (by rw [hm.len];omega)]
  omega⟩
theorem isMono_ex {ds m:List Int} (hd : ∀j,0≤ds.getD j 0∧ds.getD j 0≤12) (hn:ds.length≤8) (h:isMono ds m=true) (hm:Mono m):Ex ds m:=⟨fun i hi=>by
 rcases Nat.lt_or_ge i 8 with hj | hj
 ·have a:=isMono_le h hj
  have b:=(hm.bd i).1
  rw [most_ge (by omega)] at a
  omega
 ·exact getD_ge (by rw [hm.len];omega),fun i hi ho=>by
 have a:=isMono_le h (j:=i) (by omega)
 rw [most_odd (by omega) ho (hd i).1] at a
 exact a⟩
theorem isForm_at {ds:List Int} {ts:List Term} (h:isForm ds ts=true) {i:Nat} (hi:i<ts.length):goodAt ds ts i=true:=by
 unfold isForm at h;exact List.all_eq_true.1 (Bool.and_eq_true_iff.1 h).2 i (by simpa using hi)
theorem srt_of {s:Sm}:(∀i,0<i→i<s.length→before (s.getD (i - 1) ([],0)).1 (s.getD i ([],0)).1=true)→s.Pairwise fun x y=>before x.1 y.1=true:=by
 induction s with
 | nil=>intro _;exact List.Pairwise.nil
 | cons x s ih=>
  intro h
  have h2:=ih fun i h0 hi=>by
   have:=h (i+1) (by omega) (by simp;omega);simp only [Nat.add_sub_cancel,List.getD_cons_succ] at this;rw [show i=(i - 1)+1 by omega,List.getD_cons_succ] at this
   rwa [show i - 1+1=i by omega] at this
  refine List.pairwise_cons.2 ⟨fun y hy=>?_,h2⟩
  cases s with
  | nil=>simp at hy
  | cons z s=>
   have hz:before x.1 z.1=true:=by simpa using h 1 (by omega) (by simp)
   rcases List.mem_cons.1 hy with rfl | hy
   ·exact hz
   ·exact before_tr hz ((List.pairwise_cons.1 h2).1 y hy)
theorem toS_getD {ts:List Term} {i:Nat} (hi:i<ts.length):(toS ts).getD i ([],0)=((tm ts i).mono,(tm ts i).fac):=by
 simp [toS,tm,List.getD_eq_getElem?_getD,hi]
theorem isForm_sok {ds:List Int} {ts:List Term} (hw:Wfs ts) (h:isForm ds ts=true):Sok 20 (toS ts):=by
 have hg : ∀i,i<ts.length→isMono ds (tm ts i).mono=true∧(1≤(tm ts i).fac∧(tm ts i).fac≤10006)∧(i=0∨before (tm ts (i - 1)).mono (tm ts i).mono=true):=fun i hi=>by
  have:=isForm_at h hi;unfold goodAt at this
  simpa [and_assoc] using this
 refine ⟨srt_of fun i h0 hi=>?_,fun x hx=>?_,fun x hx=>?_⟩
 ·rw [toS_len] at hi;rw [toS_getD hi,toS_getD (by omega)];exact (hg i hi).2.2.resolve_left (by omega)
 ·obtain ⟨t,ht,rfl⟩:=toS_mem hx;obtain ⟨i,hi,rfl⟩:=List.mem_iff_getElem.1 ht;rw [tm_eq hi];exact isMono_pok (hg i hi).1 (hw _ (by rw [← tm_eq hi];exact ht)).mono
 ·obtain ⟨t,ht,rfl⟩:=toS_mem hx;obtain ⟨i,hi,rfl⟩:=List.mem_iff_getElem.1 ht;rw [tm_eq hi];exact (hg i hi).2.1
theorem isForm_kex {ds:List Int} {ts:List Term} (hd : ∀j,0≤ds.getD j 0∧ds.getD j 0≤12) (hn:ds.length≤8) (hw:Wfs ts) (h:isForm ds ts=true):KEx ds (toS ts):=fun x hx=>by
 obtain ⟨t,ht,rfl⟩:=toS_mem hx
 obtain ⟨i,hi,rfl⟩:=List.mem_iff_getElem.1 ht
 have:=isForm_at h hi
 unfold goodAt at this
 rw [tm_eq hi]
 exact isMono_ex hd hn (by simp at this;exact this.1.1) (hw _ (by rw [← tm_eq hi];exact ht)).mono
theorem isForm_len4 {ds:List Int} {ts:List Term} (h:isForm ds ts=true):ts.length≤400:=by
 unfold isForm at h
 simpa using (Bool.and_eq_true_iff.1 h).1
theorem Wfss.fm {fs:List (List Term)} (h:Wfss fs) (i:Nat):Wfs (G.fm fs i):=by
 rcases Nat.lt_or_ge i fs.length with hi | hi
 ·exact h _ (fm_mem hi)
 ·rw [G.fm,List.getD_eq_getElem?_getD,List.getElem?_eq_none hi];exact Wfs.nil
structure AlgOk (ds:List Int) (fs:List (List Term)):Prop where
 hn:ds.length≤8
 hd : ∀j,0≤ds.getD j 0∧ds.getD j 0≤12
 hl:fs.length=ds.length
 ok : ∀i,i<fs.length→isForm ds (fm fs i)=true
 wf:Wfss fs
theorem AlgOk.fok {ds:List Int} {fs:List (List Term)} (h:AlgOk ds fs):Fok 20 fs:=fun i hi=>⟨isForm_sok (h.wf.fm i) (h.ok i hi),by have:=isForm_len4 (h.ok i hi);omega⟩
theorem AlgOk.kex {ds:List Int} {fs:List (List Term)} (h:AlgOk ds fs) : ∀i,i<fs.length→KEx ds (toS (G.fm fs i)):=fun i hi=>isForm_kex h.hd h.hn (h.wf.fm i) (h.ok i hi)
theorem AlgOk.len {ds:List Int} {fs:List (List Term)} (h:AlgOk ds fs) : ∀i,i<fs.length→(G.fm fs i).length≤10000:=fun i hi=>by have:=isForm_len4 (h.ok i hi);omega
theorem AlgOk.of {ds:List Int} {fs:List (List Term)} (hD:isDeg ds=true) (hl:fs.length=ds.length) (hi:imsOk ds fs=true) (hw:Wfss fs):AlgOk ds fs:=⟨isDeg_len hD,isDeg_bd hD,hl,fun i h=>(Bool.and_eq_true_iff.1 (imsOk_at hi h)).1,hw⟩
theorem isAlg_ok {ds:List Int} {fs:List (List Term)} (h:isAlg ds fs=true) (hw:Wfss fs):AlgOk ds fs:=by
 unfold isAlg at h;simp only [Bool.and_eq_true,decide_eq_true_eq] at h;exact AlgOk.of h.1.1.1 h.1.1.2 h.1.2 hw
theorem degF_neg {ds:List Int} {ts:List Term} (hn:ds.length≤8) (hd : ∀j,0≤ds.getD j 0∧ds.getD j 0≤12) (hw:Wfs ts) (hh:homog ds ts=true):degF ds ts = -1↔¬(0<ts.length):=by
 unfold degF outAt;rw [hh,if_pos rfl]
 by_cases e:ts.length=0
 ·rw [if_pos e];omega
 ·rw [if_neg e];have:=wd_bd (i:=0) (ts:=ts) hn hd (hw _ (by rw [← tm_eq (by omega)];exact List.getElem_mem (by omega))).mono
  omega
theorem IndexFuncF_c {B:World} {H0 H:HP} {L:List SA} {w:World} {qxs:Option Addr} {cxs:Nat} {xs:List (List Term)} {gp:Nat} {capp:Array Value} {Sp:List Term→Prop} {p:List Term→Bool} (hxs:Forms H qxs xs) (hgp:Fn Tryz.prog gp) (hp:ClF B H0 H gp capp Sp p) (hn:xs.length≤9223372036854775807) (hS : ∀i,i<xs.length→Sp (fm xs i)) (hH:Hp B H0 H L w):Calls Tryz.prog 98 [.slice qxs xs.length cxs,.func (.func gp) #[] capp].toArray w fun e w'=>e = .returned (.int .i64 (idxF xs p))∧Hp B H0 H L w':=by
 refine JD Tryz.func98 rfl 19 rfl rfl [(0,.slice qxs xs.length cxs),(1,.func (.func gp) #[] capp)] rfl hH ?_;clear hH;refine Jd fun _ hK1 _=>(Jb (Jg (Je rfl) rfl (Jf (Ja (hK1 (Jd fun _ hK2 _=>(Jd fun _ hK3 _=>(Jb (Jg (Jc rfl) rfl (Jg (Jr u25 rfl rfl) rfl (Jg (Jc rfl) rfl (Jf (Ja (hK3 (Jx (JP (σ:=Nat) (fun (k:Nat)=>[(8,.int .i64 (k:Int))]) (fun (k:Nat)=>H) (fun (k:Nat)=>L) (fun (k:Nat)=>k≤xs.length∧∀j,j<k→p (fm xs j)=false) (fun (k:Nat)=>xs.length - k) 0 ⟨by omega,fun j hj=>by omega⟩ ⟨rfl,trivial⟩ rfl rfl ?_))))))))))))))));rintro k hI _ hAg0;have hk:=hI.1;refine Jd fun _ hK4 _=>(Jb (Jg (JZ rfl rfl) rfl (Jf (Ja (hK4 (Jd fun _ hK5 _=>(Jp rfl (fun hc9=>?_) (fun hc9=>?_))))))))
 ·
  refine Jo (Ja (hK5 (Jd fun _ hK6 _=>(Jx (Jd fun _ hK7 _=>(Jb (Jg (Jc rfl) rfl (Jg (Je rfl) rfl (Jf (Ja (hK7 (Jd fun _ hK8 _=>(Jb (Jg (Jc rfl) rfl (Jg (Jc rfl) rfl (Jg (Jc rfl) rfl ?_))))))))))))))));refine Jg (Eg u25 sz42 rfl rfl rfl (by omega) hxs.sm) rfl ?_;obtain ⟨qe15,ce15,he15,le15,Fe15⟩:=hxs k (by omega);refine Jg (JT (cs:=[_]) rfl (one_cell he15) (hxs.sm (i:=k) (by omega)) ag42) rfl (J.callV hgp rfl rfl rfl fun w hH=>(hp _ _ w _ _ _ (Le.refl _) (hS _ (by omega)) Fe15 hH).mono ?_);rintro _ w ⟨rfl,hH⟩;refine ⟨_,rfl,fun a hF=>JL hF hH ?_⟩;refine Jf (Ja (hK8 (Ek rfl (fun h16=>?_) (fun h16=>?_))))
  ·
   refine Jd fun _ hK9 _=>(Jb (Jg (Jc rfl) rfl (Jg (Je rfl) rfl (Jf (Ja (hK9 (Jt (JU (Jn (Jn (JU (Jn (Jy rfl (Res.tmp rfl) fun w hH=>?_)))))))))))));exact ⟨ri (idxF_hit (by omega) hI.2 h16).symm,hH⟩
  ·
   refine Jo (JJ (Ja (hK6 (Jb (Jg (JF rfl rfl (by first | exact nw _ (by omega) | rfl)) rfl (Jg (Jc rfl) rfl (Jf (Ja ?_))))))));exact hAg0 (k+1) ⟨by omega,upto hI.2 h16⟩ (by omega) 12 rfl rfl ⟨rfl,trivial⟩ rfl rfl
 ·
  refine JR (Jw (Jw (JY (Ja (hK2 (Jd fun _ hK10 _=>(Jb (Jg (Je rfl) rfl (Jf (Ja (hK10 (Jt (Jy rfl (Res.tmp rfl) fun w hH=>?_)))))))))))));exact ⟨ri (idxF_miss (fun j hj=>hI.2 j (by omega))).symm,hH⟩
theorem ContainsFuncF_c {B:World} {H0 H:HP} {L:List SA} {w:World} {qxs:Option Addr} {cxs:Nat} {xs:List (List Term)} {gp:Nat} {capp:Array Value} {Sp:List Term→Prop} {p:List Term→Bool} (hxs:Forms H qxs xs) (hgp:Fn Tryz.prog gp) (hp:ClF B H0 H gp capp Sp p) (hn:xs.length≤9223372036854775807) (hS : ∀i,i<xs.length→Sp (fm xs i)) (hH:Hp B H0 H L w):Calls Tryz.prog 57 [.slice qxs xs.length cxs,.func (.func gp) #[] capp].toArray w fun e w'=>e = .returned (.bool (xs.any p))∧Hp B H0 H L w':=by
 refine JD Tryz.func57 rfl 9 rfl rfl [(0,.slice qxs xs.length cxs),(1,.func (.func gp) #[] capp)] rfl hH ?_;clear hH;refine Jd fun _ hK1 _=>(Jb (Jg (Je rfl) rfl (Jf (Ja (hK1 (Jd fun _ hK2 _=>(Jb (Jg (Jc rfl) rfl (Jg (Jc rfl) rfl (Jz fn98 rfl rfl fun w hH=>(IndexFuncF_c hxs hgp hp (by omega) hS hH).mono ?_))))))))));rintro _ w ⟨rfl,hH⟩;refine ⟨_,rfl,fun a hF=>JL hF hH ?_⟩;refine Jg (PR.geq rfl rfl) rfl (Jg (Je rfl) rfl (Jf (Ja (hK2 (Jt (Jy rfl (Res.tmp rfl) fun w hH=>?_))))));exact ⟨rb (idxF_ge xs p),hH⟩
theorem isOfDegree_c {B:World} {H0 H:HP} {L:List SA} {w:World} {qds:Option Addr} {cds:Nat} {ds:List Int} {qts:Option Addr} {cts:Nat} {ts:List Term} {x:Int} (hds:Ints H qds ds) (hts:Terms H qts ts) (hn:ds.length≤8) (hd : ∀j,0≤ds.getD j 0∧ds.getD j 0≤12) (hl:ts.length≤9223372036854775807) (hH:Hp B H0 H L w):Calls Tryz.prog 49 [.slice qds ds.length cds,.agg [.slice qts ts.length cts].toArray,.int .i64 x].toArray w fun e w'=>e = .returned (.bool (degOk ds ts x))∧Hp B H0 H L w':=by
 refine JD Tryz.func49 rfl 25 rfl rfl [(0,.slice qds ds.length cds),(1,.agg [.slice qts ts.length cts].toArray),(2,.int .i64 x)] rfl hH ?_;clear hH;refine Jd fun _ hK1 _=>(Jb (Eo rfl rfl rfl fun g4=>(Jg (Je rfl) rfl (Jf (Ja (hK1 (Jd fun _ hK2 _=>(Jb (Jg (Jc rfl) rfl (Jg (Jl rfl At.z (by simpa [*] using ag42)) rfl (Jz fn89 rfl rfl fun w hH=>(degreeOf_c hds hts hn hd (by omega) hH).mono ?_)))))))))));rintro _ w ⟨rfl,hH⟩;refine ⟨_,rfl,fun a hF=>JL hF hH ?_⟩;refine Jg (Jc rfl) rfl (Jg (JA rfl rfl) rfl (Jg (JA rfl rfl) rfl (Jg (Je rfl) rfl (Jg (Je rfl) rfl (Jf (Ja (hK2 (Jd fun _ hK3 _=>(Jb (Jg (Jc rfl) rfl (Jg (Jc rfl) rfl (JW (jd:=16) rfl (fun hg16=>?_) (fun hg16=>?_)))))))))))))
 ·
  try have hg16p:=of_decide_eq_true hg16
  refine JK (Jc rfl) rfl rfl rfl hg16 (JK (En rfl rfl) rfl rfl rfl hg16 (JK (Jc rfl) rfl rfl rfl hg16 (JW (jd:=19) rfl (fun hg19=>?_) (fun hg19=>?_))))
  ·
   try have hg19p:=of_decide_eq_true hg19
   refine JE rfl rfl rfl hg19 (JE rfl rfl rfl hg19 (JE rfl rfl rfl hg19 (JK (JN rfl hg19 rfl) rfl rfl rfl hg16 (Jg (JN rfl hg16 rfl) rfl (Jg (Je rfl) rfl (Jf (Ja (hK3 (Jt (Jy rfl (Res.tmp rfl) fun w hH=>?_))))))))));replace hH:=hH.tail;exact ⟨rb (by unfold degOk;rw [hg16,hg19];rfl),hH⟩
  ·
   try have hg19p:=of_decide_eq_false hg19
   refine JK (Jc rfl) rfl rfl rfl hg19 (JK (Jc rfl) rfl rfl rfl hg19 (JK (En rfl rfl) rfl rfl rfl hg19 (JK (JM rfl hg19 rfl) rfl rfl rfl hg16 (Jg (JN rfl hg16 rfl) rfl (Jg (Je rfl) rfl (Jf (Ja (hK3 (Jt (Jy rfl (Res.tmp rfl) fun w hH=>?_))))))))));replace hH:=hH.tail;exact ⟨rb (by unfold degOk;rw [hg16,hg19];simp),hH⟩
 ·
  try have hg16p:=of_decide_eq_false hg16
  refine JE rfl rfl rfl hg16 (JE rfl rfl rfl hg16 (JE rfl rfl rfl hg16 (EN rfl rfl rfl (EN rfl rfl rfl (EN rfl rfl rfl (JE rfl rfl rfl hg16 (Jg (JM rfl hg16 rfl) rfl (Jg (Je rfl) rfl (Jf (Ja (hK3 (Jt (Jy rfl (Res.tmp rfl) fun w hH=>?_)))))))))))));replace hH:=hH.tail;exact ⟨rb (by unfold degOk;rw [hg16];rfl),hH⟩
theorem fn46:Fn Tryz.prog 46:=⟨_,Tryz.func46,by kernel_rfl,rfl⟩
theorem fn49:Fn Tryz.prog 49:=⟨_,Tryz.func49,by kernel_rfl,rfl⟩
theorem fn54:Fn Tryz.prog 54:=⟨_,Tryz.func54,by kernel_rfl,rfl⟩
theorem fn56:Fn Tryz.prog 56:=⟨_,Tryz.func56,by kernel_rfl,rfl⟩
theorem fn57:Fn Tryz.prog 57:=⟨_,Tryz.func57,by kernel_rfl,rfl⟩
theorem fn58:Fn Tryz.prog 58:=⟨_,Tryz.func58,by kernel_rfl,rfl⟩
theorem fn59:Fn Tryz.prog 59:=⟨_,Tryz.func59,by kernel_rfl,rfl⟩
theorem fn67:Fn Tryz.prog 67:=⟨_,Tryz.func67,by kernel_rfl,rfl⟩
theorem imOk_yes {ds:List Int} {fs:List (List Term)} {i:Nat} (h1:isForm ds (fm fs i)=true) (h2:homog ds (fm fs i)=true) (h3:degF ds (fm fs i) = -1∨degF ds (fm fs i)=ds.getD i 0+1):imOk ds fs i=true:=by
 unfold imOk degOk;rw [h1,h2]
 rcases h3 with h | h <;> rw [decide_eq_true h] <;> simp
theorem imOk_no1 {ds:List Int} {fs:List (List Term)} {i:Nat} (h1:isForm ds (fm fs i)=false):imOk ds fs i=false:=by unfold imOk;rw [h1];rfl
theorem imOk_no2 {ds:List Int} {fs:List (List Term)} {i:Nat} (h1:homog ds (fm fs i)=false):imOk ds fs i=false:=by unfold imOk degOk;rw [h1];simp
theorem imOk_no3 {ds:List Int} {fs:List (List Term)} {i:Nat} (h1 : ¬degF ds (fm fs i) = -1) (h2 : ¬degF ds (fm fs i)=ds.getD i 0+1):imOk ds fs i=false:=by unfold imOk degOk;rw [decide_eq_false h1,decide_eq_false h2];simp
theorem l02Is_c {B:World} {H0 H:HP} {L:List SA} {w:World} {qad qaf:Option Addr} {cad caf:Nat} {ad:List Int} {af:List (List Term)} (had:Ints H qad ad) (haf:Forms H qaf af) (hn8:ad.length≤1048576) (hn9:af.length≤1048576) (hl9 : ∀i,i<af.length→(fm af i).length≤1048576) (hH:Hp B H0 H L w):Calls Tryz.prog 27 [.agg [.slice qad ad.length cad,.slice qaf af.length caf].toArray].toArray w fun e w'=>e = .returned (.bool (isAlg ad af))∧Hp B H0 H L w':=by
 refine JD Tryz.func27 rfl 86 rfl rfl [(0,.agg [.slice qad ad.length cad,.slice qaf af.length caf].toArray)] rfl hH ?_;clear hH;refine Jd fun _ hK1 _=>(Jb (Eo rfl rfl rfl fun g1=>(Jg (Je rfl) rfl (Jf (Ja (hK1 (Jd fun _ hK2 _=>(Jd fun _ hK3 _=>(Jb (Jg (Jq u27 rfl sz24 rfl) rfl (Jg (Jv rfl At.z rfl pl24) rfl (Jz fn40 rfl rfl fun w hH=>(l01Degrees_c had (by omega) hH).mono ?_))))))))))));rintro _ w ⟨rfl,hH⟩;refine ⟨_,rfl,fun a hF=>JL hF hH ?_⟩;refine Jg (Er rfl) rfl (Jg (Jc rfl) rfl (JW (jd:=11) rfl (fun hg11=>?_) (fun hg11=>?_)))
 ·
  try have hg11p:=of_decide_eq_true hg11
  refine JE rfl rfl rfl hg11 (JE rfl rfl rfl hg11 (JE rfl rfl rfl hg11 (JE rfl rfl rfl hg11 (JE rfl rfl rfl hg11 (JE rfl rfl rfl hg11 (JE rfl rfl rfl hg11 (Jg (JN rfl hg11 rfl) rfl (Jf (Ja (hK3 (Ep rfl (Jd fun _ hK4 _=>(Jb (Jg (Je rfl) rfl (Jf ?_)))))))))))))));refine Ja (hK4 (Jt (Jn (Jy rfl (Res.tmp rfl) fun w hH=>?_))));replace hH:=hH.tail;exact ⟨rb (by unfold isAlg;rw [show isDeg ad=false by simpa using hg11];rfl),hH⟩
 ·
  try have hg11p:=of_decide_eq_false hg11
  refine JK (Jq u27 rfl sz25 rfl) rfl rfl rfl hg11 (JK (Jv rfl At.z rfl pl25) rfl rfl rfl hg11 (JK (Jr u25 rfl rfl) rfl rfl rfl hg11 (JK (Jq u27 rfl sz24 rfl) rfl rfl rfl hg11 (JK (Jv rfl At.z rfl pl24) rfl rfl rfl hg11 (JK (Jr u24 rfl rfl) rfl rfl rfl hg11 (JK (Ew rfl rfl) rfl rfl rfl hg11 (Jg (JM rfl hg11 rfl) rfl (Jf (Ja (hK3 (Jp rfl (fun hc19=>?_) (fun hc19=>?_))))))))))))
  ·
   refine Jd fun _ hK5 _=>(Jb (Jg (Je rfl) rfl (Jf (Ja (hK5 (Jt (Jn (Jy rfl (Res.tmp rfl) fun w hH=>?_))))))));replace hH:=hH.tail;exact ⟨rb (by unfold isAlg;rw [decide_eq_false (show ¬af.length=ad.length by omega)];simp),hH⟩
  ·
   have hD:isDeg ad=true:=by simpa using hg11
   have hn:=isDeg_len hD;have hd:=isDeg_bd hD
   have hlen:af.length=ad.length:=by omega
   have hpos9 : ∀j,j<ad.length→0≤ad.getD j 0:=fun j _=>(hd j).1;refine Jo (Ja (hK2 (Jd fun _ hK6 _=>(Jd fun _ hK7 _=>(Jb (Jg (Je rfl) rfl (Jf (Ja (hK7 (Jx (JP (σ:=Nat) (fun (i:Nat)=>[(3,.int .i64 (i:Int))]) (fun (i:Nat)=>H) (fun (i:Nat)=>obj g1 (.cells [.slice qad ad.length cad,.slice qaf af.length caf].toArray 27 (0,0))::L) (fun (i:Nat)=>i≤af.length∧∀j,j<i→imOk ad af j=true) (fun (i:Nat)=>af.length - i) 0 ⟨by omega,fun j hj=>by omega⟩ ⟨rfl,trivial⟩ rfl rfl ?_)))))))))));rintro i ⟨hi,hI⟩ _ hAg0;refine Jd fun _ hK8 _=>(Jd fun _ hK9 _=>(Jb (Jg (Jc rfl) rfl (Jg (Jq u27 rfl sz25 rfl) rfl (Jg (Jv rfl At.z rfl pl25) rfl (Jg (Jr u25 rfl rfl) rfl (Jg (JZ rfl rfl) rfl (Jf (Ja (hK9 (Jp rfl (fun hc24=>?_) (fun hc24=>?_))))))))))))
   ·
    have hl0:=hl9 i (by omega);have hdi:=hd i;refine Jo (Ja (hK8 (Jd fun _ hK10 _=>(Jx (Jd fun _ hK11 _=>(Jd fun _ hK12 _=>(Ev [[], [0], [], [2], [], [3,4], [5]] (by kernel_rfl) (JB (fun gh=>Jq u27 rfl sz24 rfl) (JB (fun gh=>Jv rfl At.z rfl pl24) (JB (fun gh=>Jq u27 rfl sz25 rfl) (JB (fun gh=>Jv rfl At.z rfl pl25) (JB (fun gh=>Jc rfl) (JB (fun gh=>Eg u25 sz42 rfl rfl rfl (by omega) haf.sm) ?_)))))))))))));obtain ⟨qe33,ce33,he33,le33,Fe33⟩:=haf i (by omega);refine JB (fun gh=>JT (cs:=[_]) rfl (one_cell he33) (haf.sm (i:=i) (by omega)) ag42) (Ee 7 1 foll0 (by kernel_rfl) rfl rfl fun gh=>(Eu (us':=(27,_)::(28,_)::(29,_)::(30,_)::(31,_)::(32,_)::(33,_)::_) (L':=_) rfl rfl (Jz fn67 rfl rfl fun w hH=>(l01Is_c had Fe33 (by omega) hpos9 (by omega) hH).mono ?_)));rintro _ w ⟨rfl,hH⟩;refine ⟨_,rfl,fun a hF=>JL hF hH ?_⟩;refine Jf (Ef (JH (Er rfl) rfl (Ej (Ja (hK12 (Ek rfl (fun h35=>?_) (fun h35=>?_)))))))
    ·
     refine Jd fun _ hK13 _=>(Jb (Jg (Je rfl) rfl (Jf (Ja (hK13 (Jt (Jn (JU (Jn (Jn (JU (Jn (Jy rfl (Res.tmp rfl) fun w hH=>?_)))))))))))));replace hH:=hH.tail;exact ⟨rb (by unfold isAlg;rw [imsOk_bad (i:=i) (by omega) (imOk_no1 (by simpa using h35))];simp),hH⟩
    ·
     have hfo:isForm ad (fm af i)=true:=by simpa using h35
     refine Jo (Ja (hK11 (Jd fun _ hK14 _=>(Ev [[], [0], [], [2], [], [3,4], [5]] (by kernel_rfl) (JB (fun gh=>Jq u27 rfl sz24 rfl) (JB (fun gh=>Jv rfl At.z rfl pl24) (JB (fun gh=>Jq u27 rfl sz25 rfl) (JB (fun gh=>Jv rfl At.z rfl pl25) (JB (fun gh=>Jc rfl) (JB (fun gh=>Eg u25 sz42 rfl rfl rfl (by omega) haf.sm) ?_))))))))));obtain ⟨qe43,ce43,he43,le43,Fe43⟩:=haf i (by omega);refine JB (fun gh=>JT (cs:=[_]) rfl (one_cell he43) (haf.sm (i:=i) (by omega)) ag42) (Ee 7 1 foll0 (by kernel_rfl) rfl rfl fun gh=>(Eu (us':=(37,_)::(38,_)::(39,_)::(40,_)::(41,_)::(42,_)::(43,_)::_) (L':=_) rfl rfl (Jz fn46 rfl rfl fun w hH=>(l01Degree_c had Fe43 hn hd (by omega) hH).mono ?_)));rintro _ w ⟨rfl,hH⟩;refine ⟨_,rfl,fun a hF=>JL hF hH ?_⟩;refine Jf (Ef (JH (Jc rfl) rfl (JH (JA rfl rfl) rfl (JH (JA rfl rfl) rfl (JH (Je rfl) rfl (JH (Je rfl) rfl (Ej (Ja (hK14 (Jd fun _ hK15 _=>(Jb (Jg (Jc rfl) rfl (Jg (Er rfl) rfl (Jg (Jc rfl) rfl (JW (jd:=49) rfl (fun h49=>?_) (fun h49=>?_))))))))))))))))
     ·
      try have h49p:=of_decide_eq_true h49
      refine JE rfl rfl rfl h49 (JE rfl rfl rfl h49 (JE rfl rfl rfl h49 (JE rfl rfl rfl h49 (JE rfl rfl rfl h49 (JE rfl rfl rfl h49 (JE rfl rfl rfl h49 (JE rfl rfl rfl h49 (JE rfl rfl rfl h49 (EN rfl rfl rfl (EN rfl rfl rfl (EN rfl rfl rfl (EN rfl rfl rfl (EN rfl rfl rfl (EN rfl rfl rfl ?_))))))))))))));refine EN rfl rfl rfl (EN rfl rfl rfl (JE rfl rfl rfl h49 (Jg (JN rfl h49 rfl) rfl (Jf (Ja (hK15 (Ep rfl (Jd fun _ hK16 _=>(Jb (Jg (Je rfl) rfl (Jf (Ja (hK16 (Jt (JU (Jn ?_))))))))))))))));refine Jn (JU (Jn (Jy rfl (Res.tmp rfl) fun w hH=>?_)));replace hH:=hH.tail;exact ⟨rb (by unfold isAlg;rw [imsOk_bad (i:=i) (by omega) (imOk_no2 (by simpa using h49))];simp),hH⟩
     ·
      try have h49p:=of_decide_eq_false h49
      refine JK (Jq u27 rfl sz25 rfl) rfl rfl rfl h49 (JK (Jv rfl At.z rfl pl25) rfl rfl rfl h49 (JK (Jc rfl) rfl rfl rfl h49 (JK (Eg u25 sz42 rfl rfl rfl (by omega) haf.sm) rfl rfl rfl h49 (JK (EC u42 rfl sz40 rfl (haf.sm (i:=i) (by omega))) rfl rfl rfl h49 ?_))));obtain ⟨qe55,ce55,he55,le55,Fe55⟩:=haf i (by omega);refine JK (JX rfl he55 pl40) rfl rfl rfl h49 (JK (Jr u40 rfl rfl) rfl rfl rfl h49 (JK (Eq rfl rfl) rfl rfl rfl h49 (JK (Jc rfl) rfl rfl rfl h49 (JW (jd:=58) rfl (fun h58=>?_) (fun h58=>?_)))))
      ·
       try have h58p:=of_decide_eq_true h58
       refine JK (Jc rfl) rfl rfl rfl h58 (JK (Jq u27 rfl sz24 rfl) rfl rfl rfl h58 (JK (Jv rfl At.z rfl pl24) rfl rfl rfl h58 (JK (Jc rfl) rfl rfl rfl h58 (JK (Eg u24 sz2 rfl rfl rfl (by omega) had.sm) rfl rfl rfl h58 (JK (JX rfl (had _ (by omega)) pl2) rfl rfl rfl h58 (JK (JF rfl rfl (by first | exact nw _ (by omega) | rfl)) rfl rfl rfl h58 (JK (Ew rfl rfl) rfl rfl rfl h58 (JK (JN rfl h58 rfl) rfl rfl rfl h49 (Jg (JM rfl h49 rfl) rfl (Jf (Ja (hK15 (Jp rfl (fun h68=>?_) (fun h68=>?_))))))))))))))
       ·
        refine Jd fun _ hK17 _=>(Jb (Jg (Je rfl) rfl (Jf (Ja (hK17 (Jt (JU (Jn (Jn (JU (Jn (Jy rfl (Res.tmp rfl) fun w hH=>?_))))))))))));replace hH:=hH.tail;exact ⟨rb (by unfold isAlg;rw [imsOk_bad (i:=i) (by omega) (imOk_no3 (fun e=>(degF_neg hn hd (haf.wfss.fm i) (by simpa using h49)).1 e (by omega)) h68)];simp),hH⟩
       ·
        refine Jo (JJ (Ja (hK10 (Jb (Jg (Jc rfl) rfl (Jg (JF rfl rfl (by first | exact nw _ (by omega) | rfl)) rfl (Jg (Je rfl) rfl (Jf (Ja ?_)))))))));exact hAg0 (i+1) ⟨by omega,upto hI (imOk_yes hfo (by simpa using h49) (.inr (Decidable.not_not.1 h68)))⟩ (by omega) 53 rfl rfl ⟨rfl,trivial⟩ rfl rfl
      ·
       try have h58p:=of_decide_eq_false h58
       refine JE rfl rfl rfl h58 (JE rfl rfl rfl h58 (JE rfl rfl rfl h58 (JE rfl rfl rfl h58 (JE rfl rfl rfl h58 (JE rfl rfl rfl h58 (JE rfl rfl rfl h58 (JE rfl rfl rfl h58 (JK (JM rfl h58 rfl) rfl rfl rfl h49 (Jg (JM rfl h49 rfl) rfl (Jf (Ja (hK15 (Ey rfl (Jo (JJ ?_)))))))))))))));refine Ja (hK10 (Jb (Jg (Jc rfl) rfl (Jg (JF rfl rfl (by first | exact nw _ (by omega) | rfl)) rfl (Jg (Je rfl) rfl (Jf (Ja ?_)))))));exact hAg0 (i+1) ⟨by omega,upto hI (imOk_yes hfo (by simpa using h49) (.inl ((degF_neg hn hd (haf.wfss.fm i) (by simpa using h49)).2 (by omega))))⟩ (by omega) 53 rfl rfl ⟨rfl,trivial⟩ rfl rfl
   ·
    have hM9:=imsOk_good (ds:=ad) (fs:=af) (fun j hj=>hI j (by omega));have hA:=AlgOk.of hD hlen hM9 haf.wfss;refine JR (Jw (Jw (JY (Ja (hK6 (Jd fun _ hK18 _=>(Jd fun _ hK19 _=>(Jb (Jg (Je rfl) rfl (Jf (Ja (hK19 (Jx (JP (σ:=Nat) (fun (k:Nat)=>[(6,.int .i64 (k:Int))]) (fun (k:Nat)=>H) (fun (k:Nat)=>obj g1 (.cells [.slice qad ad.length cad,.slice qaf af.length caf].toArray 27 (0,0))::L) (fun (k:Nat)=>k≤af.length∧∀j,j<k→(dS ad af (toS (fm af j))).length=0) (fun (k:Nat)=>af.length - k) 0 ⟨by omega,fun j hj=>by omega⟩ ⟨rfl,trivial⟩ rfl rfl ?_))))))))))))));rintro k ⟨hk,hJ⟩ _ hAg1;refine Jd fun _ hK20 _=>(Jd fun _ hK21 _=>(Jb (Jg (Jc rfl) rfl (Jg (Jq u27 rfl sz25 rfl) rfl (Jg (Jv rfl At.z rfl pl25) rfl (Jg (Jr u25 rfl rfl) rfl (Jg (JZ rfl rfl) rfl (Jf (Ja (hK21 (Jp rfl (fun h73=>?_) (fun h73=>?_))))))))))))
    ·
     have hkl:k<af.length:=by omega
     refine Jo (Ja (hK20 (Jd fun _ hK22 _=>(Jx (Jd fun _ hK23 _=>(Ev [[], [], [1], [], [2,3], [4]] (by kernel_rfl) (JB (fun gh=>Jl rfl At.z (by simpa [*] using ag27)) (JB (fun gh=>Jq u27 rfl sz25 rfl) (JB (fun gh=>Jv rfl At.z rfl pl25) (JB (fun gh=>Jc rfl) (JB (fun gh=>Eg u25 sz42 rfl rfl rfl (by omega) haf.sm) ?_)))))))))));obtain ⟨qe81,ce81,he81,le81,Fe81⟩:=haf k (by omega);refine JB (fun gh=>JT (cs:=[_]) rfl (one_cell he81) (haf.sm (i:=k) (by omega)) ag42) (Ee 6 1 foll0 (by kernel_rfl) rfl rfl fun gh=>(Eu (us':=(76,_)::(77,_)::(78,_)::(79,_)::(80,_)::(81,_)::_) (L':=_) rfl rfl (Jz fn54 rfl rfl fun w hH=>(l02D_c had haf Fe81 hn hd hA.fok hA.hl hA.kex (hA.fok k hkl).1 (hA.kex k hkl) (by omega) hA.len (hA.len k hkl) hH).mono ?_)));rintro _ w ⟨qo82,co82,rfl,hH⟩;refine ⟨_,rfl,fun a hF=>JL hF hH ?_⟩;refine Jf (Ef (JH (PR.fieldV u42 rfl pl40 rfl rfl) rfl (JH (Jr u40 rfl rfl) rfl (JH (Eq rfl rfl) rfl (Ej (Ja (hK23 (Jp rfl (fun h85=>?_) (fun h85=>?_)))))))))
     ·
      refine Jd fun _ hK24 _=>(Jb (Jg (Je rfl) rfl (Jf (Ja (hK24 (Jt (JU (Jn (Jn (JU (Jn (Jy rfl (Res.tmp rfl) fun w hH=>?_))))))))))));replace hH:=hH.tail;replace hH:=hH.tail;exact ⟨rb (by unfold isAlg;rw [noD_bad (i:=k) (by omega) (by rw [ofS_len] at h85;omega)];simp),hH⟩
     ·
      refine Jo (JJ (Ja (hK22 (Jb (Jg (Jc rfl) rfl (Jg (JF rfl rfl (by first | exact nw _ (by omega) | rfl)) rfl (Jg (Je rfl) rfl (Jf (Ja (JC .z ?_))))))))));exact hAg1 (k+1) ⟨by omega,upto hJ (by rw [ofS_len] at h85;omega)⟩ (by omega) 19 rfl rfl ⟨rfl,trivial⟩ rfl rfl
    ·
     refine JR (Jw (Jw (JY (Ja (hK18 (Jd fun _ hK25 _=>(Jb (Jg (Je rfl) rfl (Jf (Ja (hK25 (Jt (Jy rfl (Res.tmp rfl) fun w hH=>?_)))))))))))));replace hH:=hH.tail;exact ⟨rb (by unfold isAlg;rw [hD,decide_eq_true hlen,hM9,noD_good (fun j hj=>hJ j (by omega))];rfl),hH⟩
def noDf (ds:List Int) (fs:List (List Term)) (ts:List Term):Bool:=decide ((dS ds fs (toS ts)).length>0)
theorem noD_any {ds:List Int} {fs:List (List Term)}:noD ds fs = !(fs.any (noDf ds fs)):=by
 cases h:fs.any (noDf ds fs) with
 | true=>
  obtain ⟨x,hx,hp⟩:=List.any_eq_true.1 h;obtain ⟨j,hj,rfl⟩:=List.mem_iff_getElem.1 hx;rw [fm_eq hj] at hp;rw [noD_bad hj (by unfold noDf at hp;have:=of_decide_eq_true hp;omega)]
  rfl
 | false=>
  rw [noD_good fun j hj=>by
   have:=List.any_eq_false.1 h _ (fm_mem hj);unfold noDf at this;rw [decide_eq_true_eq] at this
   omega]
  rfl
theorem IsAlgebra1_c {B:World} {H0 H:HP} {L:List SA} {w:World} {qts:Option Addr} {cts:Nat} {ts:List Term} {ba:Nat} {qad qaf:Option Addr} {cad caf:Nat} {ad:List Int} {af:List (List Term)} {Mi Ms:Int} (hts:Terms H qts ts) (pad:CellAt H ba 0 (.slice qad ad.length cad)) (paf:CellAt H ba 1 (.slice qaf af.length caf)) (had:Ints H qad ad) (haf:Forms H qaf af) (hn:ad.length≤8) (hd : ∀j,0≤ad.getD j 0∧ad.getD j 0≤12) (hf:Fok Mi af) (hl:af.length=ad.length) (hs:Sok Ms (toS ts)) (ho:Occ af.length (toS ts)) (hM:0≤Mi∧Ms+Mi+Ms≤1000000) (hll:ts.length≤1000000000) (hH:Hp B H0 H L w):Calls Tryz.prog 58 [.agg [.slice qts ts.length cts].toArray,.pointer (some ⟨ba,0,none⟩)].toArray w fun e w'=>e = .returned (.bool (noDf ad af ts))∧Hp B H0 H L w':=by
 refine JD Tryz.func58 rfl 9 rfl rfl [(0,.agg [.slice qts ts.length cts].toArray),(1,.pointer (some ⟨ba,0,none⟩))] rfl hH ?_;clear hH;refine Jd fun _ hK1 _=>(Jb (Eo rfl rfl rfl fun g2=>(Jg (Je rfl) rfl (Jf (Ja (hK1 (Jd fun _ hK2 _=>(Jb (Jg (Jl rfl At.z (by simpa [*] using ag42)) rfl (Jz fn60 rfl rfl fun w hH=>(sumOf_c hts hs (by omega) hH).mono ?_))))))))));rintro _ w ⟨bo5,rfl,hH⟩;refine ⟨_,rfl,fun a hF=>JL hF hH ?_⟩;refine Jz fn59 rfl rfl fun w hH=>hH.lend .z fun Hl1 hle1 hA1 hB1 hH=>(d_c (pad.le hle1) (paf.le hle1) (had.le hle1) (haf.le hle1) (omap_H hA1) hs hn hd hf hl ho hM hH).mono ?_;rintro _ w ⟨bo6,rfl,hH⟩;replace hH:=hB1 _ _ hH;refine ⟨_,rfl,fun a hF=>JL hF hH ?_⟩;refine Jg (PR.lenO u83 rfl (.s .z) rfl) rfl (Jg (Eq rfl rfl) rfl (Jg (Je rfl) rfl (Jf (Ja (hK2 (Jt (Jy rfl (Res.tmp rfl) fun w hH=>?_)))))));replace hH:=hH.tail;replace hH:=hH.tail;replace hH:=hH.tail;exact ⟨rb (by unfold noDf;exact decide_eq_decide.2 (by omega)),hH⟩
theorem IsAlgebra_c {B:World} {H0 H:HP} {L:List SA} {w:World} {qad qaf:Option Addr} {cad caf:Nat} {ad:List Int} {af:List (List Term)} (had:Ints H qad ad) (haf:Forms H qaf af) (hn8:ad.length≤1048576) (hn9:af.length≤1048576) (hl9 : ∀i,i<af.length→(fm af i).length≤1048576) (hH:Hp B H0 H L w):Calls Tryz.prog 21 [.agg [.slice qad ad.length cad,.slice qaf af.length caf].toArray].toArray w fun e w'=>e = .returned (.bool (isAlg ad af))∧Hp B H0 H L w':=by
 refine JD Tryz.func21 rfl 50 rfl rfl [(0,.agg [.slice qad ad.length cad,.slice qaf af.length caf].toArray)] rfl hH ?_;have hw0:=hH.old;have hw1:=hH.le;clear hH;refine Jd fun _ hK1 _=>(Jb (Eo rfl rfl rfl fun g1=>(Jg (Je rfl) rfl (Jf (Ja (hK1 (Jd fun _ hK2 _=>(Jd fun _ hK3 _=>(Jb (Jg (Jq u27 rfl sz24 rfl) rfl (Jg (Jv rfl At.z rfl pl24) rfl (Jz fn38 rfl rfl fun w hH=>(AreDegrees_c had (by omega) hH).mono ?_))))))))))));rintro _ w ⟨rfl,hH⟩;refine ⟨_,rfl,fun a hF=>JL hF hH ?_⟩;refine Jg (Er rfl) rfl (Jg (Jc rfl) rfl (JW (jd:=9) rfl (fun hg9=>?_) (fun hg9=>?_)))
 ·
  try have hg9p:=of_decide_eq_true hg9
  refine JE rfl rfl rfl hg9 (JE rfl rfl rfl hg9 (JE rfl rfl rfl hg9 (JE rfl rfl rfl hg9 (JE rfl rfl rfl hg9 (JE rfl rfl rfl hg9 (JE rfl rfl rfl hg9 (Jg (JN rfl hg9 rfl) rfl (Jf (Ja (hK3 (Ep rfl (Jd fun _ hK4 _=>(Jb (Jg (Je rfl) rfl (Jf ?_)))))))))))))));refine Ja (hK4 (Jt (Jn (Jy rfl (Res.tmp rfl) fun w hH=>?_))));replace hH:=hH.tail;exact ⟨rb (by unfold isAlg;rw [show isDeg ad=false by simpa using hg9];rfl),hH⟩
 ·
  try have hg9p:=of_decide_eq_false hg9
  refine JK (Jq u27 rfl sz25 rfl) rfl rfl rfl hg9 (JK (Jv rfl At.z rfl pl25) rfl rfl rfl hg9 (JK (Jr u25 rfl rfl) rfl rfl rfl hg9 (JK (Jq u27 rfl sz24 rfl) rfl rfl rfl hg9 (JK (Jv rfl At.z rfl pl24) rfl rfl rfl hg9 (JK (Jr u24 rfl rfl) rfl rfl rfl hg9 (JK (Ew rfl rfl) rfl rfl rfl hg9 (Jg (JM rfl hg9 rfl) rfl (Jf (Ja (hK3 (Jp rfl (fun hc19=>?_) (fun hc19=>?_))))))))))))
  ·
   refine Jd fun _ hK5 _=>(Jb (Jg (Je rfl) rfl (Jf (Ja (hK5 (Jt (Jn (Jy rfl (Res.tmp rfl) fun w hH=>?_))))))));replace hH:=hH.tail;exact ⟨rb (by unfold isAlg;rw [decide_eq_false (show ¬af.length=ad.length by omega)];simp),hH⟩
  ·
   have hD:isDeg ad=true:=by simpa using hg9
   have hn:=isDeg_len hD;have hd:=isDeg_bd hD
   have hlen:af.length=ad.length:=by omega
   have hpos9 : ∀j,j<ad.length→0≤ad.getD j 0:=fun j _=>(hd j).1;refine Jo (Ja (hK2 (Jd fun _ hK6 _=>(Jd fun _ hK7 _=>(Jb (Jg (Jq u27 rfl sz25 rfl) rfl (Jg (Jv rfl At.z rfl pl25) rfl (Jg (Jr u25 rfl rfl) rfl (Jg (Jc rfl) rfl (Jf (Ja (hK7 (Jx (JP (σ:=Nat) (fun (k:Nat)=>[(21,.int .i64 (k:Int))]) (fun (k:Nat)=>H) (fun (k:Nat)=>obj g1 (.cells [.slice qad ad.length cad,.slice qaf af.length caf].toArray 27 (0,0))::L) (fun (k:Nat)=>k≤af.length∧∀j,j<k→imOk ad af j=true) (fun (k:Nat)=>af.length - k) 0 ⟨by omega,fun j hj=>by omega⟩ ⟨rfl,trivial⟩ rfl rfl ?_))))))))))))));rintro k ⟨hk,hI⟩ _ hAg0;refine Jd fun _ hK8 _=>(Jb (Jg (JZ rfl rfl) rfl (Jf (Ja (hK8 (Jd fun _ hK9 _=>(Jp rfl (fun hc24=>?_) (fun hc24=>?_))))))))
   ·
    have hl0:=hl9 k (by omega);have hdi:=hd k;refine Jo (Ja (hK9 (Jd fun _ hK10 _=>(Jx (Jd fun _ hK11 _=>(Jb (Jg (Jc rfl) rfl (Jg (Eg u25 sz42 rfl rfl rfl (by omega) haf.sm) rfl ?_))))))));obtain ⟨qe25,ce25,he25,le25,Fe25⟩:=haf k (by omega);refine Jg (JT (cs:=[_]) rfl (one_cell he25) (haf.sm (i:=k) (by omega)) ag42) rfl (JG ze42 rfl fun g4=>(Jg (Je rfl) rfl (Jk rfl rfl (by first | exact bytesC_one _ | exact intsC_one _ | exact Term.c_one _ | simp [Value.oneCell']) (by simpa [*] using sz42) (by simp [*]) At.z (Jf (Ja (hK11 (Jd fun _ hK12 _=>(Ev [[], [0], [], [1,2], [3], [4], [5], [6,5], [5], [5], [9,5], [5], [10,11,5], [12,5], [13,5]] (by kernel_rfl) (JB (fun gh=>Jq u27 rfl sz24 rfl) (JB (fun gh=>Jv rfl (.s .z) rfl pl24) (JB (fun gh=>Jl rfl At.z (by simpa [*] using ag42)) (ES fn56 (fun gh=>rfl) (fun w X hH=>isForm_c had Fe25 (by omega) (by omega) hH) (JB (fun gh=>Er rfl) (JB (fun gh=>Jc rfl) (EY 5 rfl (fun h31=>?_) (fun h31=>?_))))))))))))))))
    ·
     try have h31p:=of_decide_eq_true h31
     refine Ei rfl (fun gh=>rfl) h31 (Ei rfl (fun gh=>rfl) h31 (Ei rfl (fun gh=>rfl) h31 (Ei rfl (fun gh=>rfl) h31 (Ei rfl (fun gh=>rfl) h31 (Ei rfl (fun gh=>rfl) h31 (Ei rfl (fun gh=>rfl) h31 (Ei rfl (fun gh=>rfl) h31 (Ei rfl (fun gh=>rfl) h31 (Ee 15 1 foll0 (by kernel_rfl) rfl rfl fun gh=>(Eu (us':=(26,_)::(27,_)::(28,_)::(29,_)::(30,_)::(31,_)::(32,_)::(33,_)::(34,_)::(35,_)::(36,_)::(37,_)::(38,_)::(39,_)::(40,_)::_) (L':=_) rfl rfl (JE rfl rfl rfl h31 (Jf (Ef (JS.gn rfl rfl rfl h31 ?_))))))))))))));refine JH (JN rfl h31 rfl) rfl (Ej (Ja (hK12 (Ep rfl (Jd fun _ hK13 _=>(Jb (Jg (Je rfl) rfl (Jf (Ja (hK13 (Jt (JU (Jn (Jn (JU (Jn ?_))))))))))))))));refine Jy rfl (Res.tmp rfl) fun w hH=>?_;replace hH:=hH.tail;replace hH:=hH.tail;exact ⟨rb (by unfold isAlg;rw [imsOk_bad (i:=k) (by omega) (imOk_no1 (by simpa using h31))];simp),hH⟩
    ·
     try have h31p:=of_decide_eq_false h31
     refine El (fun gh=>Jq u27 rfl sz24 rfl) rfl (fun gh=>rfl) h31 (El (fun gh=>Jv rfl (.s .z) rfl pl24) rfl (fun gh=>rfl) h31 (El (fun gh=>Jl rfl At.z (by simpa [*] using ag42)) rfl (fun gh=>rfl) h31 (El (fun gh=>Jq u27 rfl sz24 rfl) rfl (fun gh=>rfl) h31 (El (fun gh=>Jv rfl (.s .z) rfl pl24) rfl (fun gh=>rfl) h31 (El (fun gh=>Jc rfl) rfl (fun gh=>rfl) h31 (El (fun gh=>Eg u24 sz2 rfl rfl rfl (by omega) had.sm) rfl (fun gh=>rfl) h31 (El (fun gh=>JX rfl (had _ (by omega)) pl2) rfl (fun gh=>rfl) h31 (El (fun gh=>JF rfl rfl (by first | exact nw _ (by omega) | rfl)) rfl (fun gh=>rfl) h31 (Ee 15 1 foll0 (by kernel_rfl) rfl rfl fun gh=>(Eu (us':=(26,_)::(27,_)::(28,_)::(29,_)::(30,_)::(31,_)::(32,_)::(33,_)::(34,_)::(35,_)::(36,_)::(37,_)::(38,_)::(39,_)::(40,_)::_) (L':=_) rfl rfl (Et fn49 rfl rfl h31 rfl rfl fun w hH=>(isOfDegree_c had Fe25 hn hd (by omega) hH).mono ?_)))))))))));rintro _ w ⟨rfl,hH⟩;refine ⟨_,rfl,fun a hF=>JL hF hH ?_⟩;refine Jf (Ef (JS.gy (Er rfl) rfl rfl rfl h31 (JH (JM rfl h31 rfl) rfl (Ej (Ja (hK12 (Ek rfl (fun h43=>?_) (fun h43=>?_))))))))
     ·
      refine Jd fun _ hK14 _=>(Jb (Jg (Je rfl) rfl (Jf (Ja (hK14 (Jt (JU (Jn (Jn (JU (Jn (Jy rfl (Res.tmp rfl) fun w hH=>?_))))))))))));replace hH:=hH.tail;replace hH:=hH.tail;exact ⟨rb (by unfold isAlg;rw [imsOk_bad (i:=k) (by omega) (by unfold imOk;rw [show degOk ad (fm af k) (ad.getD k 0+1)=false by simpa using h43];simp)];simp),hH⟩
     ·
      refine Jo (JJ (Ja (hK10 (Jb (Jg (JF rfl rfl (by first | exact nw _ (by omega) | rfl)) rfl (Jg (Jc rfl) rfl (Jf (Ja (JC .z ?_)))))))));exact hAg0 (k+1) ⟨by omega,upto hI (by unfold imOk;rw [show isForm ad (fm af k)=true by simpa using h31,show degOk ad (fm af k) (ad.getD k 0+1)=true by simpa using h43];rfl)⟩ (by omega) 27 rfl rfl ⟨rfl,trivial⟩ rfl rfl
   ·
    have hM9:=imsOk_good (ds:=ad) (fs:=af) (fun j hj=>hI j (by omega));have hA:=AlgOk.of hD hlen hM9 haf.wfss;refine JR (Jw (Jw (JY (Ja (hK6 (Jd fun _ hK15 _=>(Jb (Jg (Jq u27 rfl sz25 rfl) rfl (Jg (Jv rfl At.z rfl pl25) rfl (Jg (PR.makeFunc (ys:=[]) (zs:=[_]) rfl rfl) rfl (Kc .z fun H3 hle3 hc3=>?_)))))))))));have had3:=had.le hle3;have haf3:=haf.le hle3;have hcl:ClF B H0 H3 58 #[.pointer (some ⟨g1,0,none⟩)] (fun ts=>isForm ad ts=true∧Wfs ts) (noDf ad af):=fun H' L w q c x hle hS hx hH=>IsAlgebra1_c (Mi:=20) (Ms:=20) hx (CellAt.le (hc3 0 _ rfl) hle) (CellAt.le (hc3 1 _ rfl) hle) (had3.le hle) (haf3.le hle) hn hd hA.fok hA.hl (isForm_sok hS.2 hS.1) (Ex.occ (isForm_kex hd hn hS.2 hS.1) hA.hl) (by omega) (by have:=isForm_len4 hS.1;omega) hH;refine Jz fn57 rfl rfl fun w hH=>(ContainsFuncF_c haf3 fn58 hcl (by omega) (fun i hi=>⟨hA.ok i hi,hA.wf.fm i⟩) hH).mono ?_;rintro _ w ⟨rfl,hH⟩;refine ⟨_,rfl,fun a hF=>JL hF hH ?_⟩;refine Jg (Er rfl) rfl (Jg (Je rfl) rfl (Jf (Ja (hK15 (Jt (Jy rfl (Res.tmp rfl) fun w hH=>?_))))));exact ⟨rb (by unfold isAlg;rw [hD,decide_eq_true hlen,hM9,noD_any];rfl),hH.weaken hle3 hw0 hw1⟩
theorem take_fm {fs:List (List Term)} {k:Nat} (hk:k<fs.length):fs.take (k+1)=fs.take k++[fm fs k]:=by
 rw [List.take_succ_eq_append_getElem hk,fm_eq hk]
theorem tot_pre {fs:List (List Term)} {i:Nat} (hi:i≤fs.length):tot (fs.take i)≤tot fs:=by
 conv=>rhs;rw [← List.take_append_drop i fs,tot_app]
 omega
theorem tot_fm {fs:List (List Term)} {i:Nat} (hi:i<fs.length):(fm fs i).length≤tot fs:=by
 have h1:=tot_succ hi;have h2:=tot_pre (fs:=fs) (i:=i+1) hi
 omega
theorem fn27:Fn Tryz.prog 27:=⟨_,Tryz.func27,by kernel_rfl,rfl⟩
section
variable {P : Program} {n : Nat} {B : World} {H0 H : HP} {us : List (Nat × Value)} {L : List SA} {t : TypeId} {x : Operand}
theorem PR.loadHb {ty:TypeId} {b:Nat} {u v:Value} (hx:opv us x=some (.pointer (some ⟨b,0,none⟩))) (h0:CellAt H b 0 u) (h1:CellAt H b 1 v) (hp:Agg P ty 2):PR P n B H0 us H L (.load ty x) t (.agg [u,v].toArray):=
 JT (q:=some ⟨b,0,none⟩) (k:=0) (cs:=[u,v]) hx (fun j w hj=>by
  match j,hj with
  | 0,hj=>simp at hj;subst hj;exact h0
  | 1,hj=>simp at hj;subst hj;exact h1
  | j+2,hj=>simp at hj) rfl hp
end
def bothC (ds:List Int) (fs:List (List Term)) (ts:List Term):Int:=if isAlg ds fs && isForm ds ts then 0 else 1
theorem isAlg_deg {ds:List Int} {fs:List (List Term)} (h:isAlg ds fs=true):isDeg ds=true:=by
 unfold isAlg at h;simp only [Bool.and_eq_true] at h;exact h.1.1.1
theorem l02Both_c {B:World} {H0 H:HP} {L:List SA} {w:World} {qad qaf:Option Addr} {cad caf:Nat} {ad:List Int} {af:List (List Term)} {qts:Option Addr} {cts:Nat} {ts:List Term} (had:Ints H qad ad) (haf:Forms H qaf af) (hts:Terms H qts ts) (hn8:ad.length≤1048576) (hn9:af.length≤1048576) (hl9 : ∀i,i<af.length→(fm af i).length≤1048576) (hlt:ts.length≤9223372036854775807) (hH:Hp B H0 H L w):Calls Tryz.prog 52 [.agg [.slice qad ad.length cad,.slice qaf af.length caf].toArray,.agg [.slice qts ts.length cts].toArray].toArray w fun e w'=>e = .returned (.int .i64 (bothC ad af ts))∧Hp B H0 H L w':=by
 refine JD Tryz.func52 rfl 15 rfl rfl [(0,.agg [.slice qad ad.length cad,.slice qaf af.length caf].toArray),(1,.agg [.slice qts ts.length cts].toArray)] rfl hH ?_;clear hH;refine Jd fun _ hK1 _=>(Jb (Eo rfl rfl rfl fun g2=>(Eo rfl rfl rfl fun g3=>(Jg (Je rfl) rfl (Jf (Ja (hK1 (Jd fun _ hK2 _=>(Jd fun _ hK3 _=>(Jb (Jg (Jl rfl (.s .z) (by simpa [*] using ag27)) rfl (Jz fn27 rfl rfl fun w hH=>(l02Is_c had haf hn8 hn9 hl9 hH).mono ?_))))))))))));rintro _ w ⟨rfl,hH⟩;refine ⟨_,rfl,fun a hF=>JL hF hH ?_⟩;refine Jg (Er rfl) rfl (Jg (Jc rfl) rfl (JW (jd:=8) rfl (fun h8=>?_) (fun h8=>?_)))
 ·
  try have h8p:=of_decide_eq_true h8
  refine JE rfl rfl rfl h8 (JE rfl rfl rfl h8 (JE rfl rfl rfl h8 (JE rfl rfl rfl h8 (JE rfl rfl rfl h8 (Jg (JN rfl h8 rfl) rfl (Jf (Ja (hK3 (Ep rfl (Jd fun _ hK4 _=>(Jb (Jg (Je rfl) rfl (Jf (Ja (hK4 (Jt ?_))))))))))))))));refine Jn (Jy rfl (Res.tmp rfl) fun w hH=>?_);replace hH:=hH.tail;replace hH:=hH.tail;exact ⟨ri (by unfold bothC;rw [show isAlg ad af=false by simpa using h8];rfl),hH⟩
 ·
  try have h8p:=of_decide_eq_false h8
  refine JK (Jq u27 rfl sz24 rfl) rfl rfl rfl h8 (JK (Jv rfl (.s .z) rfl pl24) rfl rfl rfl h8 (JK (Jl rfl At.z (by simpa [*] using ag42)) rfl rfl rfl h8 (Et fn67 rfl rfl h8 rfl rfl fun w hH=>(l01Is_c had hts hn8 (fun j _=>(isDeg_bd (isAlg_deg (by simpa using h8)) j).1) hlt hH).mono ?_)));rintro _ w ⟨rfl,hH⟩;refine ⟨_,rfl,fun a hF=>JL hF hH ?_⟩;refine JK (Er rfl) rfl rfl rfl h8 (Jg (JM rfl h8 rfl) rfl (Jf (Ja (hK3 (Ek rfl (fun h14=>?_) (fun h14=>?_))))))
  ·
   refine Jd fun _ hK5 _=>(Jb (Jg (Je rfl) rfl (Jf (Ja (hK5 (Jt (Jn (Jy rfl (Res.tmp rfl) fun w hH=>?_))))))));replace hH:=hH.tail;replace hH:=hH.tail;exact ⟨ri (by unfold bothC;rw [show isForm ad ts=false by simpa using h14];simp),hH⟩
  ·
   refine Jo (Ja (hK2 (Jd fun _ hK6 _=>(Jb (Jg (Je rfl) rfl (Jf (Ja (hK6 (Jt (Jy rfl (Res.tmp rfl) fun w hH=>?_))))))))));replace hH:=hH.tail;replace hH:=hH.tail;exact ⟨ri (by unfold bothC;rw [show isAlg ad af=true by simpa using h8,show isForm ad ts=true by simpa using h14];rfl),hH⟩
theorem isClosed_c {B:World} {H0 H:HP} {L:List SA} {w:World} {ba:Nat} {qad qaf:Option Addr} {cad caf:Nat} {ad:List Int} {af:List (List Term)} {qts:Option Addr} {cts:Nat} {ts:List Term} {Mi Ms:Int} (pad:CellAt H ba 0 (.slice qad ad.length cad)) (paf:CellAt H ba 1 (.slice qaf af.length caf)) (had:Ints H qad ad) (haf:Forms H qaf af) (hts:Terms H qts ts) (hn:ad.length≤8) (hd : ∀j,0≤ad.getD j 0∧ad.getD j 0≤12) (hf:Fok Mi af) (hl:af.length=ad.length) (hs:Sok Ms (toS ts)) (ho:Occ af.length (toS ts)) (hM:0≤Mi∧Ms+Mi+Ms≤1000000) (hll:ts.length≤1000000000) (hH:Hp B H0 H L w):Calls Tryz.prog 50 [.pointer (some ⟨ba,0,none⟩),.agg [.slice qts ts.length cts].toArray].toArray w fun e w'=>e = .returned (.bool (decide ((dS ad af (toS ts)).length=0)))∧Hp B H0 H L w':=by
 refine JD Tryz.func50 rfl 11 rfl rfl [(0,.pointer (some ⟨ba,0,none⟩)),(1,.agg [.slice qts ts.length cts].toArray)] rfl hH ?_;clear hH;refine Jd fun _ hK1 _=>(Jb (Eo rfl rfl rfl fun g3=>(Jg (Je rfl) rfl (Jf (Ja (hK1 (Jd fun _ hK2 _=>(Jb (Jg (Jc rfl) rfl (Jg (Jl rfl At.z (by simpa [*] using ag42)) rfl (Jz fn60 rfl rfl fun w hH=>(sumOf_c hts hs (by omega) hH).mono ?_)))))))))));rintro _ w ⟨bo7,rfl,hH⟩;refine ⟨_,rfl,fun a hF=>JL hF hH ?_⟩;refine Jz fn59 rfl rfl fun w hH=>hH.lend .z fun Hl1 hle1 hA1 hB1 hH=>(d_c (pad.le hle1) (paf.le hle1) (had.le hle1) (haf.le hle1) (omap_H hA1) hs hn hd hf hl ho hM hH).mono ?_;rintro _ w ⟨bo8,rfl,hH⟩;replace hH:=hB1 _ _ hH;refine ⟨_,rfl,fun a hF=>JL hF hH ?_⟩;refine Jg (PR.lenO u83 rfl (.s .z) rfl) rfl (Jg (En rfl rfl) rfl (Jg (Je rfl) rfl (Jf (Ja (hK2 (Jt (Jy rfl (Res.tmp rfl) fun w hH=>?_)))))));replace hH:=hH.tail;replace hH:=hH.tail;replace hH:=hH.tail;exact ⟨rb (decide_eq_decide.2 (by omega)),hH⟩
theorem u52:Tryz.prog.underlying 52=some (TypeDesc.pointer 27):=by kernel_rfl
theorem pl52:Plain Tryz.prog 52:=⟨_,u52,rfl⟩
theorem fn21:Fn Tryz.prog 21:=⟨_,Tryz.func21,by kernel_rfl,rfl⟩
theorem fn47:Fn Tryz.prog 47:=⟨_,Tryz.func47,by kernel_rfl,rfl⟩
theorem fn63:Fn Tryz.prog 63:=⟨_,Tryz.func63,by kernel_rfl,rfl⟩
def codeA (ds:List Int) (fs:List (List Term)) (gs:List (List Term)):Int:=if isAlg ds fs && gs.all (isForm ds) then 0 else 1
theorem any_no {ds:List Int} : ∀gs:List (List Term),(gs.any fun ts=>!(isForm ds ts)) = !(gs.all (isForm ds))
 | []=>rfl
 | g::gs=>by simp only [List.any_cons,List.all_cons,any_no gs,Bool.not_and]
theorem codeA_one (ds:List Int) (fs:List (List Term)) (ts:List Term):codeA ds fs [ts]=bothC ds fs ts:=by unfold codeA bothC;simp
theorem bothC_eq {ds:List Int} {fs:List (List Term)} {ts:List Term} (h : ¬bothC ds fs ts≠0):(isAlg ds fs && isForm ds ts)=true:=by
 unfold bothC at h
 cases e:(isAlg ds fs && isForm ds ts) with
 | true=>rfl
 | false=>rw [e] at h;exact absurd (by decide) h
theorem forms_one {H:HP} {g:Nat} {q:Option Addr} {c:Nat} {ts:List Term} (h:cellO H (some ⟨g,0,none⟩) 0=some (.slice q ts.length c)) (hc:ts.length≤c) (ht:Terms H q ts):Forms H (some ⟨g,0,none⟩) [ts]:=fun i hi=>by
 obtain rfl:i=0:=by simp at hi;omega
 exact ⟨q,c,h,hc,ht⟩
theorem len_one {ts:List Term} {M:Nat} (h:ts.length≤M) : ∀i,i<[ts].length→(fm [ts] i).length≤M:=fun i hi=>by
 obtain rfl:i=0:=by simp at hi;omega
 exact h
theorem algebraCode1_c {B:World} {H0 H:HP} {L:List SA} {w:World} {qts:Option Addr} {cts:Nat} {ts:List Term} {bba:Nat} {ba:Nat} {qad qaf:Option Addr} {cad caf:Nat} {ad:List Int} {af:List (List Term)} (hts:Terms H qts ts) (kba:cellO H (some ⟨bba,0,none⟩) 0=some (.pointer (some ⟨ba,0,none⟩))) (pad:CellAt H ba 0 (.slice qad ad.length cad)) (paf:CellAt H ba 1 (.slice qaf af.length caf)) (had:Ints H qad ad) (haf:Forms H qaf af) (hn8:ad.length≤1048576) (hlt:ts.length≤9223372036854775807) (hH:Hp B H0 H L w):Calls Tryz.prog 63 [.agg [.slice qts ts.length cts].toArray,.pointer (some ⟨bba,0,none⟩)].toArray w fun e w'=>e = .returned (.bool (!(isForm ad ts)))∧Hp B H0 H L w':=by
 refine JD Tryz.func63 rfl 11 rfl rfl [(0,.agg [.slice qts ts.length cts].toArray),(1,.pointer (some ⟨bba,0,none⟩))] rfl hH ?_;clear hH;refine Jd fun _ hK1 _=>(Jb (Eo rfl rfl rfl fun g2=>(Jg (Je rfl) rfl (Jf (Ja (hK1 (Jd fun _ hK2 _=>(Ev [[], [0], [1], [2], []] (by kernel_rfl) (JB (fun gh=>JX (q:=some ⟨bba,0,none⟩) (k:=0) rfl kba pl52) (JB (fun gh=>Eh rfl) (JB (fun gh=>Jq u27 rfl sz24 rfl) (JB (fun gh=>JX (q:=some ⟨ba,0,none⟩) (k:=0) rfl pad pl24) (JB (fun gh=>Jl rfl At.z (by simpa [*] using ag42)) (Ee 5 1 foll0 (by kernel_rfl) rfl rfl fun gh=>(Eu (us':=(4,_)::(5,_)::(6,_)::(7,_)::(8,_)::_) (L':=_) rfl rfl ?_)))))))))))))));refine Jz fn56 rfl rfl fun w hH=>(isForm_c had hts hn8 hlt hH).mono ?_;rintro _ w ⟨rfl,hH⟩;refine ⟨_,rfl,fun a hF=>JL hF hH ?_⟩;refine Jf (Ef (JH (Er rfl) rfl (JH (Je rfl) rfl (Ej (Ja (hK2 (Jt (Jy rfl (Res.tmp rfl) fun w hH=>?_))))))));replace hH:=hH.tail;exact ⟨rfl,hH⟩
theorem algebraCode_c {B:World} {H0 H:HP} {L:List SA} {w:World} {ba:Nat} {qad qaf:Option Addr} {cad caf:Nat} {ad:List Int} {af:List (List Term)} {qfs:Option Addr} {cfs:Nat} {fs:List (List Term)} (pad:CellAt H ba 0 (.slice qad ad.length cad)) (paf:CellAt H ba 1 (.slice qaf af.length caf)) (had:Ints H qad ad) (haf:Forms H qaf af) (hfs:Forms H qfs fs) (hn8:ad.length≤1048576) (hn9:af.length≤1048576) (hl9 : ∀i,i<af.length→(fm af i).length≤1048576) (hnf:fs.length≤9223372036854775807) (hlf : ∀i,i<fs.length→(fm fs i).length≤9223372036854775807) (hH:Hp B H0 H L w):Calls Tryz.prog 25 [.pointer (some ⟨ba,0,none⟩),.slice qfs fs.length cfs].toArray w fun e w'=>e = .returned (.int .i64 (codeA ad af fs))∧Hp B H0 H L w':=by
 refine JD Tryz.func25 rfl 18 rfl rfl [(0,.pointer (some ⟨ba,0,none⟩)),(1,.slice qfs fs.length cfs)] rfl hH ?_;have hw0:=hH.old;have hw1:=hH.le;clear hH;refine Jd fun _ hK1 _=>(Jb (Eo rfl rfl rfl fun g2=>(Jg (Je rfl) rfl (Jf (Ja (hK1 (Jd fun _ hK2 _=>(Jb (Jg (Jv rfl At.z rfl pl52) rfl (Jg (Eh rfl) rfl (Jg (PR.loadHb rfl pad paf ag27) rfl (Jz fn21 rfl rfl fun w hH=>(IsAlgebra_c had haf hn8 hn9 hl9 hH).mono ?_))))))))))));rintro _ w ⟨rfl,hH⟩;refine ⟨_,rfl,fun a hF=>JL hF hH ?_⟩;refine Jg (Er rfl) rfl (Jg (Jc rfl) rfl (JW (jd:=11) rfl (fun h11=>?_) (fun h11=>?_)))
 ·
  try have h11p:=of_decide_eq_true h11
  refine JE rfl rfl rfl h11 (JE rfl rfl rfl h11 (JE rfl rfl rfl h11 (Jg (JN rfl h11 rfl) rfl (Jg (Je rfl) rfl (Jf (Ja (hK2 (Jd fun _ hK3 _=>(Jb (Jg (Jc rfl) rfl (Jz fn47 rfl rfl fun w hH=>(when_c hH).mono ?_)))))))))));rintro _ w ⟨rfl,hH⟩;refine ⟨_,rfl,fun a hF=>JL hF hH ?_⟩;refine Jg (Je rfl) rfl (Jf (Ja (hK3 (Jt (Jy rfl (Res.tmp rfl) fun w hH=>?_)))));replace hH:=hH.tail;exact ⟨ri (by unfold codeA;rw [show isAlg ad af=false by simpa using h11];rfl),hH⟩
 ·
  try have h11p:=of_decide_eq_false h11
  refine JK (Jc rfl) rfl rfl rfl h11 (JK (PR.makeFunc (ys:=[]) (zs:=[_]) rfl rfl) rfl rfl rfl h11 (Kc .z fun H3 hle3 hc3=>?_));have hfs3:=hfs.le hle3;have hcl:ClF B H0 H3 63 #[.pointer (some ⟨g2,0,none⟩)] (fun ts=>ts.length≤9223372036854775807) (fun ts=>!(isForm ad ts)):=fun H' L w q c x hle hS hx hH=>algebraCode1_c hx (cellO_le hle (hc3 0 _ rfl)) (pad.le (hle3.trans hle)) (paf.le (hle3.trans hle)) (had.le (hle3.trans hle)) (haf.le (hle3.trans hle)) hn8 hS hH;refine Et fn57 rfl rfl h11 rfl rfl fun w hH=>(ContainsFuncF_c hfs3 fn63 hcl hnf hlf hH).mono ?_;rintro _ w ⟨rfl,hH⟩;refine ⟨_,rfl,fun a hF=>JL hF hH ?_⟩;refine Jg (JM rfl h11 rfl) rfl (Jg (Je rfl) rfl (Jf (Ja (hK2 (Jd fun _ hK4 _=>(Jb (Jg (Jc rfl) rfl (Jz fn47 rfl rfl fun w hH=>(when_c hH).mono ?_))))))));rintro _ w ⟨rfl,hH⟩;refine ⟨_,rfl,fun a hF=>JL hF hH ?_⟩;refine Jg (Je rfl) rfl (Jf (Ja (hK4 (Jt (Jy rfl (Res.tmp rfl) fun w hH=>?_)))));exact ⟨ri (by unfold codeA;rw [show isAlg ad af=true by simpa using h11,any_no];cases fs.all (isForm ad) <;> rfl),hH.weaken hle3 hw0 hw1⟩
def okT (m r:List Int) (n:Nat):Prop:=∀j,j<n→m.getD j 0≠0→r.getD j 0≠0
def okF (ts:List Term) (r:List Int) (k:Nat):Prop:=∀i,i<k→okT (tm ts i).mono r 8
instance (m r:List Int) (n:Nat):Decidable (okT m r n):=Nat.decidableBallLT n _
instance (ts:List Term) (r:List Int) (k:Nat):Decidable (okF ts r k):=Nat.decidableBallLT k _
theorem u156:Tryz.prog.underlying 156=some (TypeDesc.slice 24):=by kernel_rfl
theorem forms_nil (H:HP):Forms H none []:=fun i hi=>by simp at hi
def algC (ds:List Int) (fs:List (List Term)):Int:=if isAlg ds fs then 0 else 1
theorem codeA_nil (ds:List Int) (fs:List (List Term)):codeA ds fs []=algC ds fs:=by unfold codeA algC;simp
theorem algC_ne {ds:List Int} {fs:List (List Term)} (h:algC ds fs≠0):isAlg ds fs=false:=by
 unfold algC at h
 cases e:isAlg ds fs with
 | false=>rfl
 | true=>rw [e,if_pos rfl] at h;exact absurd rfl h
theorem algC_eq {ds:List Int} {fs:List (List Term)} (h : ¬algC ds fs≠0):isAlg ds fs=true:=by
 unfold algC at h
 cases e:isAlg ds fs with
 | false=>rw [e] at h;exact absurd (by decide) h
 | true=>rfl
theorem u22:Tryz.prog.underlying 22=some (TypeDesc.slice 5):=by kernel_rfl
theorem shifted_c {B:World} {H0 H:HP} {L:List SA} {w:World} {qts:Option Addr} {cts:Nat} {ts:List Term} {b:Nat} (hts:Terms H qts ts) (hb:b<8) (hl:ts.length≤1048576) (hH:Hp B H0 H L w):Calls Tryz.prog 84 [.agg [.slice qts ts.length cts].toArray,.int .i64 (b:Int)].toArray w fun e w'=>∃q c,e = .returned (.agg [.slice q (shF b ts).length c].toArray)∧Hp B H0 H (own 89 9 q (shF b ts).length c (tsC (shF b ts))::L) w':=by
 refine JD Tryz.func84 rfl 34 rfl rfl [(0,.agg [.slice qts ts.length cts].toArray),(1,.int .i64 (b:Int))] rfl hH ?_;clear hH;refine Jd fun _ hK1 _=>(Jb (Eo rfl rfl rfl fun g2=>(JG ze42 rfl fun g4=>(Jf (Ja (hK1 (Jd fun _ hK2 _=>(Jb (EG 89 9 (Jg (JQ bz42) rfl (JG ze42 rfl fun g5=>(Jk rfl rfl (by first | exact bytesC_one _ | exact intsC_one _ | exact Term.c_one _ | simp [Value.oneCell']) (by simpa [*] using sz42) (by simp [*]) At.z (Jf (Ja (hK2 (Jd fun _ hK3 _=>?_))))))))))))))));refine Jd fun _ hK4 _=>(Jb (Jg (Jq u42 rfl sz40 rfl) rfl (Jg (Jv rfl (.s (.s (.s .z))) rfl pl40) rfl (Jg (Jr u40 rfl rfl) rfl (Jg (Jc rfl) rfl (Jf (Ja (hK4 (Jx (JP (σ:=Option Addr × Nat × Nat) (fun ⟨q,c,k⟩=>[(13,.int .i64 (k:Int))]) (fun ⟨q,c,k⟩=>H) (fun ⟨q,c,k⟩=>obj g5 (.cells [.slice q (shK b ts k).length c].toArray 42 (0,0))::own 89 9 q (shK b ts k).length c (tsC (shK b ts k))::obj g4 (.cells [.slice none 0 0].toArray 42 (0,0))::obj g2 (.cells [.slice qts ts.length cts].toArray 42 (0,0))::L) (fun ⟨q,c,k⟩=>k≤ts.length) (fun ⟨q,c,k⟩=>ts.length - k) (none,0,0) (by show 0≤ts.length;omega) ⟨rfl,trivial⟩ rfl rfl ?_))))))))));rintro ⟨q,c,k⟩ hI _ hAg0;have hk:=hI;have hpl:=shK_len (b:=b) hk;refine Jd fun _ hK5 _=>(Jb (Jg (JZ rfl rfl) rfl (Jf (Ja (hK5 (Jd fun _ hK6 _=>(Jp rfl (fun hc14=>?_) (fun hc14=>?_))))))))
 ·
  refine Jo (Ja (hK6 (Jd fun _ hK7 _=>(Jx (Jd fun _ hK8 _=>(Jb (Jg (EA u40 sz89 rfl rfl rfl (by omega) hts.sm) rfl (Jg (JT rfl (hts.cell _ (by omega)) (hts.sm (i:=k) (by omega)) (by rw [Term.c_length (hts.wf _ (by omega))];exact ag89)) rfl (JG (cs:=(default:Term).c) ze89 rfl fun g7=>(J.stTerm rfl rfl sz89 zero_wf (hts.wf k (by omega)) At.z (Jf (Ja (hK8 (Jd fun _ hK9 _=>(Jb (Jg (JQ bz87) rfl ?_))))))))))))))));refine JG ze87 rfl fun g8=>(Jk rfl rfl (by first | exact bytesC_one _ | exact intsC_one _ | exact Term.c_one _ | simp [Value.oneCell']) (by simpa [*] using sz87) (by simp [*]) At.z (Jf (Ja (hK9 (Jd fun _ hK10 _=>(Ed (Rs:=[_,_,_,_,_,_]) 5 [[], [0], [], [2], [0,1,2,3]] [[], [], [], [], [6]] [[], [], [], [], [5]] rfl rfl (by kernel_rfl) ?_))))));apply Jm 1 rfl
  iterate 3 focus (intros;(conv=>lhs;simp only [Jh,Js,JO,Ju,JI,eq_self,reduceEqDiff,reduceIte,reduceSub,reduceAdd,JxA,JxB]);all_goals rfl)
  ·
   intro gh X K zq zc zq2 zc2 zb zv hK;refine Jg (Jc rfl) rfl (Jj ?_);exact hK zq zc zq2 zc2 zb zv
  ·
   intro gh gh' h
   rfl
  apply Jm 2 rfl
  iterate 3 focus (intros;(conv=>lhs;simp only [Jh,Js,JO,Ju,JI,eq_self,reduceEqDiff,reduceIte,reduceSub,reduceAdd,JxA,JxB]);all_goals rfl)
  ·
   intro gh X K zq zc zq2 zc2 zb zv hK;refine Jg (PR.sliceArrL (i':=b) u87 sz5 rfl rfl rfl (by omega)) rfl (Jj ?_);exact hK zq zc zq2 zc2 zb zv
  ·
   intro gh gh' h
   rfl
  apply Jm 3 rfl
  iterate 3 focus (intros;(conv=>lhs;simp only [Jh,Js,JO,Ju,JI,eq_self,reduceEqDiff,reduceIte,reduceSub,reduceAdd,JxA,JxB]);all_goals rfl)
  ·
   intro gh X K zq zc zq2 zc2 zb zv hK;refine Jg (Jq u89 rfl sz87 rfl) rfl (Jj ?_);exact hK zq zc zq2 zc2 zb zv
  ·
   intro gh gh' h
   rfl
  apply Jm 4 rfl
  iterate 3 focus (intros;(conv=>lhs;simp only [Jh,Js,JO,Ju,JI,eq_self,reduceEqDiff,reduceIte,reduceSub,reduceAdd,JxA,JxB]);all_goals rfl)
  ·
   intro gh X K zq zc zq2 zc2 zb zv hK;refine Jg (PR.sliceArr u87 sz5 rfl) rfl (Jj ?_);exact hK zq zc zq2 zc2 zb zv
  ·
   intro gh gh' h
   rfl
  apply Eb 5 rfl
  iterate 3 focus (intros;(conv=>lhs;simp only [Jh,Js,JO,Ju,JI,eq_self,reduceEqDiff,reduceIte,reduceSub,reduceAdd,JxA,JxB]);all_goals rfl)
  ·
   intro gh X K zq zc zq2 zc2 zb zv hK;refine J.copyB u22 sz5 rfl rfl (by omega) (by simp;omega) (by rw [Term.c_length (hts.wf k (by omega))];show 0+0+(8 - b)≤9;omega) (Term.c_one _) (shM_copy hb (hts.wf k (by omega))) (.s .z) At.z rfl (Jj ?_);exact hK zq zc zq2 zc2 zb zv
  ·
   intro gh gh' h;refine ⟨?_,?_⟩ <;> rfl
  apply Ec [0,1,2,3,4] [0,1,2,3,4,6,7,8,9,10] foll0 rfl rfl rfl (by rfl)
  iterate 2 focus (intros;(conv=>lhs;simp only [Jh,Js,JO,Ju,JI,eq_self,reduceEqDiff,reduceIte,reduceSub,reduceAdd,JxA,JxB]);all_goals rfl)
  intro gh;clear gh;refine Ja (hK10 (Jb (Jg (Jq u42 rfl sz40 rfl) rfl (Jg (Jv rfl (.s (.s .z)) rfl pl40) rfl (Jg (Jl rfl At.z (by simpa [*] using ag87)) rfl (Jg (Jq u89 rfl sz2 rfl) rfl (Jg (PR.ldFac rfl (.s .z) (hts.wf k (by omega)) pl2) rfl (Jg (EO rfl rfl (fun w=>bt89 _ _ (shM_mono (hts.wf k (by omega)).mono).len w)) rfl (EX (Ka u40 ze89 sz89 (Term.wf.of (shM_mono (hts.wf k (by omega)).mono) (hts.wf k (by omega)).fac) rfl) rfl fun qo29 co29=>(EQ u40 ze89 sz89 by89 rfl rfl (by simp only [List.length_cons,List.length_nil];omega) .z (.s (.s (.s .z))) (fun _ _=>(.s (.s (.s .z)))) rfl fun qo30 co30=>(Jg (Jq u42 rfl sz40 rfl) rfl (Ez rfl rfl rfl rfl sz40 (by simp [*]) (.s (.s (.s .z))) (Jf (JJ (Ja (hK7 ?_))))))))))))))));refine Jb (Jg (JF rfl rfl (by first | exact nw _ (by omega) | rfl)) rfl (Jg (Jc rfl) rfl (Jf (Ja (JC .z (JC .z (JC .z ?_)))))));exact hAg0 (qo30,co30,k+1) (by show k+1≤ts.length;omega) (by show ts.length - (k+1)<ts.length - k;omega) 23 rfl rfl ⟨rfl,trivial⟩ rfl (by dsimp only;rw [shK_succ (by omega)];rfl)
 ·
  refine JR (Jw (Jw (JY (Ja (hK3 (Jd fun _ hK11 _=>(Jb (Jg (Jl rfl At.z (by simpa [*] using ag42)) rfl (Jk rfl rfl (by first | exact bytesC_one _ | exact intsC_one _ | exact Term.c_one _ | simp [Value.oneCell']) (by simpa [*] using sz42) (by simp [*]) (.s (.s .z)) (Jf (Ja (hK11 (Jt (Jy rfl (Res.agg rfl (.s (.s .z)) (by simpa [*] using ag42)) fun w hH=>?_))))))))))))));replace hH:=hH.sublist (.cons _ (.cons_cons _ (.cons _ (.cons _ (List.Sublist.refl _)))))
  obtain rfl:k=ts.length:=by omega
  rw [shK_end] at hH ⊢;exact ⟨_,_,rfl,hH⟩
theorem l02Copy_c {B:World} {H0 H:HP} {L:List SA} {w:World} {qts:Option Addr} {cts:Nat} {ts:List Term} {b:Nat} (hts:Terms H qts ts) (hb:b<8) (hl:ts.length≤1048576) (hH:Hp B H0 H L w):Calls Tryz.prog 86 [.agg [.slice qts ts.length cts].toArray,.int .i64 (b:Int)].toArray w fun e w'=>∃q c,e = .returned (.agg [.slice q (shF b ts).length c].toArray)∧Hp B H0 H (own 89 9 q (shF b ts).length c (tsC (shF b ts))::L) w':=by
 refine JD Tryz.func86 rfl 50 rfl rfl [(0,.agg [.slice qts ts.length cts].toArray),(1,.int .i64 (b:Int))] rfl hH ?_;clear hH;refine Jd fun _ hK1 _=>(Jb (Eo rfl rfl rfl fun g2=>(JG ze42 rfl fun g4=>(Jf (Ja (hK1 (Jd fun _ hK2 _=>(Jb (EG 89 9 (Jg (JQ bz42) rfl (JG ze42 rfl fun g5=>(Jk rfl rfl (by first | exact bytesC_one _ | exact intsC_one _ | exact Term.c_one _ | simp [Value.oneCell']) (by simpa [*] using sz42) (by simp [*]) At.z (Jf (Ja (hK2 (Jd fun _ hK3 _=>?_))))))))))))))));refine Jd fun _ hK4 _=>(Jb (Jg (Je rfl) rfl (Jf (Ja (hK4 (Jx (JP (σ:=Option Addr × Nat × Nat) (fun ⟨q,c,k⟩=>[(6,.int .i64 (k:Int))]) (fun ⟨q,c,k⟩=>H) (fun ⟨q,c,k⟩=>obj g5 (.cells [.slice q (shK b ts k).length c].toArray 42 (0,0))::own 89 9 q (shK b ts k).length c (tsC (shK b ts k))::obj g4 (.cells [.slice none 0 0].toArray 42 (0,0))::obj g2 (.cells [.slice qts ts.length cts].toArray 42 (0,0))::L) (fun ⟨q,c,k⟩=>k≤ts.length) (fun ⟨q,c,k⟩=>ts.length - k) (none,0,0) (by show 0≤ts.length;omega) ⟨rfl,trivial⟩ rfl rfl ?_)))))));rintro ⟨q,c,k⟩ hI _ hAg0;have hk:=hI;have hpl:=shK_len (b:=b) hk;refine Jd fun _ hK5 _=>(Jd fun _ hK6 _=>(Jb (Jg (Jc rfl) rfl (Jg (Jq u42 rfl sz40 rfl) rfl (Jg (Jv rfl (.s (.s (.s .z))) rfl pl40) rfl (Jg (Jr u40 rfl rfl) rfl (Jg (JZ rfl rfl) rfl (Jf (Ja (hK6 (Jp rfl (fun hc14=>?_) (fun hc14=>?_))))))))))))
 ·
  refine Jo (Ja (hK5 (Jd fun _ hK7 _=>(Jx (Jd fun _ hK8 _=>(Jb (Jg (JQ bz87) rfl (JG ze87 rfl fun g7=>(Jk rfl rfl (by first | exact bytesC_one _ | exact intsC_one _ | exact Term.c_one _ | simp [Value.oneCell']) (by simpa [*] using sz87) (by simp [*]) At.z (Jf (Ja (hK8 (Jd fun _ hK9 _=>(Jd fun _ hK10 _=>(Jb (Jg (Je rfl) rfl ?_))))))))))))))));refine Jf (Ja (hK10 (Jx (JP (σ:=Nat) (fun (i:Nat)=>[(8,.int .i64 (i:Int))]) (fun (i:Nat)=>H) (fun (i:Nat)=>obj g7 (.cells (bytesC (shP b (tm ts k).mono i)).toArray 87 (0,0))::obj g5 (.cells [.slice q (shK b ts k).length c].toArray 42 (0,0))::own 89 9 q (shK b ts k).length c (tsC (shK b ts k))::obj g4 (.cells [.slice none 0 0].toArray 42 (0,0))::obj g2 (.cells [.slice qts ts.length cts].toArray 42 (0,0))::L) (fun (i:Nat)=>i≤8) (fun (i:Nat)=>8 - i) 0 (by omega) ⟨rfl,trivial⟩ rfl (by rw [shP_zero];rfl) ?_))));rintro i hi _ hAg1;refine Jd fun _ hK11 _=>(Jd fun _ hK12 _=>(Jb (Jg (Jc rfl) rfl (Jg (Jc rfl) rfl (Jg (JF rfl rfl (by first | exact nw _ (by omega) | rfl)) rfl (Jg (JZ rfl rfl) rfl (Jf (Ja (hK12 (Jp rfl (fun hc21=>?_) (fun hc21=>?_)))))))))))
  ·
   refine Jo (Ja (hK11 (Jd fun _ hK13 _=>(Jx (Jb (Jg (Jc rfl) rfl (Jg (Jc rfl) rfl (Jg (JF rfl rfl (by first | exact nw _ (by omega) | rfl)) rfl (Jg (Jq u42 rfl sz40 rfl) rfl (Jg (Jv rfl (.s (.s (.s (.s .z)))) rfl pl40) rfl (Jg (Jc rfl) rfl (Jg (Jc rfl) rfl (Jg (EA u40 sz89 rfl rfl rfl (by omega) hts.sm) rfl (Jg (EC u89 rfl sz87 rfl (hts.sm (i:=k) (by omega))) rfl (Jg (PR.idxP1 u87 sz5 rfl (hts.sm (i:=k) (by omega)) rfl rfl (by omega)) rfl ?_)))))))))))))));refine Jg (JX rfl (hts.byte (by omega) (by omega)) pl5) rfl (Jg (Ea (i':=(i+b)) u87 sz5 rfl rfl (by omega) (by omega)) rfl (EV rfl rfl sz5 (by simp [*];omega) At.z (Jf (JJ (Ja (hK13 (Jb (Jg (Jc rfl) rfl (Jg (JF rfl rfl (by first | exact nw _ (by omega) | rfl)) rfl (Jg (Je rfl) rfl (Jf (Ja ?_))))))))))));exact hAg1 (i+1) (by omega) (by omega) 20 rfl rfl ⟨rfl,trivial⟩ rfl (by rw [shP_succ (by omega)])
  ·
   refine JR (Jw (Jw (JY (Ja (hK9 (Ev [[], [0], [], [], [3], [], [4,5], [6], [7], [2,8], [9]] (by kernel_rfl) (JB (fun gh=>Jq u42 rfl sz40 rfl) (JB (fun gh=>Jv rfl (.s .z) rfl pl40) (JB (fun gh=>Jl rfl At.z (by simpa [*] using ag87)) (JB (fun gh=>Jq u42 rfl sz40 rfl) (JB (fun gh=>Jv rfl (.s (.s (.s (.s .z)))) rfl pl40) (JB (fun gh=>Jc rfl) (JB (fun gh=>EA u40 sz89 rfl rfl rfl (by omega) hts.sm) (JB (fun gh=>EC u89 rfl sz2 rfl (hts.sm (i:=k) (by omega))) (JB (fun gh=>JX rfl (hts.fac (by omega)) pl2) ?_)))))))))))))));refine JB (fun gh=>EO rfl rfl (fun w=>bt89 _ _ (shP_mono (i:=i) (b:=b) (hts.wf k (by omega)).mono).len w)) (HJ.mk (fun gh=>Ka u40 ze89 sz89 (Term.wf.of (shP_mono (i:=i) (b:=b) (hts.wf k (by omega)).mono) (hts.wf k (by omega)).fac) rfl) (Ee 11 3 foll0 (by kernel_rfl) rfl rfl fun gh=>(Eu (us':=(36,_)::(37,_)::(38,_)::(39,_)::(40,_)::(41,_)::(42,_)::(43,_)::(44,_)::(45,_)::(46,_)::_) (L':=_::_) rfl rfl (EQ u40 ze89 sz89 by89 rfl rfl (by simp only [List.length_cons,List.length_nil];omega) .z (.s (.s .z)) (fun _ _=>(.s (.s .z))) rfl fun qo47 co47=>(Jg (Jq u42 rfl sz40 rfl) rfl (Ez rfl rfl rfl rfl sz40 (by simp [*]) (.s (.s .z)) (Jf (Ef (Ej (JJ (Ja (hK7 (Jb (Jg (Jc rfl) rfl (Jg (JF rfl rfl (by first | exact nw _ (by omega) | rfl)) rfl ?_)))))))))))))));refine Jg (Je rfl) rfl (Jf (Ja (JC .z (JC .z ?_))));exact hAg0 (qo47,co47,k+1) (by show k+1≤ts.length;omega) (by show ts.length - (k+1)<ts.length - k;omega) 30 rfl rfl ⟨rfl,trivial⟩ rfl (by dsimp only;rw [shK_succ (by omega),shP_end (by omega)];rfl)
 ·
  refine JR (Jw (Jw (JY (Ja (hK3 (Jd fun _ hK14 _=>(Jb (Jg (Jl rfl At.z (by simpa [*] using ag42)) rfl (Jk rfl rfl (by first | exact bytesC_one _ | exact intsC_one _ | exact Term.c_one _ | simp [Value.oneCell']) (by simpa [*] using sz42) (by simp [*]) (.s (.s .z)) (Jf (Ja (hK14 (Jt (Jy rfl (Res.agg rfl (.s (.s .z)) (by simpa [*] using ag42)) fun w hH=>?_))))))))))))));replace hH:=hH.sublist (.cons _ (.cons_cons _ (.cons _ (.cons _ (List.Sublist.refl _)))))
  obtain rfl:k=ts.length:=by omega
  rw [shK_end] at hH ⊢;exact ⟨_,_,rfl,hH⟩
theorem shifted_0 {B:World} {H0 H:HP} {L:List SA} {w:World} {qts:Option Addr} {cts:Nat} {ts:List Term} (hts:Terms H qts ts) (hl:ts.length≤1048576) (hH:Hp B H0 H L w):Calls Tryz.prog 84 [.agg [.slice qts ts.length cts].toArray,.int .i64 0].toArray w fun e w'=>∃q c,e = .returned (.agg [.slice q ts.length c].toArray)∧Hp B H0 H (own 89 9 q ts.length c (tsC ts)::L) w':=by
 have h:=shifted_c (b:=0) (cts:=cts) hts (by omega) hl hH;rw [shF_zero hts.wfs] at h;exact h
theorem l02Copy_0 {B:World} {H0 H:HP} {L:List SA} {w:World} {qts:Option Addr} {cts:Nat} {ts:List Term} (hts:Terms H qts ts) (hl:ts.length≤1048576) (hH:Hp B H0 H L w):Calls Tryz.prog 86 [.agg [.slice qts ts.length cts].toArray,.int .i64 0].toArray w fun e w'=>∃q c,e = .returned (.agg [.slice q ts.length c].toArray)∧Hp B H0 H (own 89 9 q ts.length c (tsC ts)::L) w':=by
 have h:=l02Copy_c (b:=0) (cts:=cts) hts (by omega) hl hH;rw [shF_zero hts.wfs] at h;exact h
theorem fn44:Fn Tryz.prog 44:=⟨_,Tryz.func44,by kernel_rfl,rfl⟩
theorem fn85:Fn Tryz.prog 85:=⟨_,Tryz.func85,by kernel_rfl,rfl⟩
theorem fn86:Fn Tryz.prog 86:=⟨_,Tryz.func86,by kernel_rfl,rfl⟩
theorem bd27_0 : ∀(q0:Option Addr) (m0 c0:Nat) w,(Instr.build 27 #[(0,.slice q0 m0 c0)]).run Tryz.prog w = .ok (.agg [.slice q0 m0 c0,.slice none 0 0].toArray) w:=fun q0 m0 c0 _=>by kernel_rfl
def cpA (b:Nat) (fs:List (List Term)):List (List Term):=fs.map (shF b)
def cpK (b:Nat) (fs:List (List Term)) (k:Nat):List (List Term):=(fs.take k).map (shF b)
@[simp] theorem cpA_len (b:Nat) (fs:List (List Term)):(cpA b fs).length=fs.length:=by simp [cpA]
theorem cpK_len {b:Nat} {fs:List (List Term)} {k:Nat} (hk:k≤fs.length):(cpK b fs k).length=k:=by simp [cpK];omega
theorem cpK_succ {b:Nat} {fs:List (List Term)} {k:Nat} (hk:k<fs.length):cpK b fs (k+1)=cpK b fs k++[shF b (fm fs k)]:=by
 unfold cpK;rw [take_fm hk,List.map_append]
 rfl
theorem cpK_end (b:Nat) (fs:List (List Term)):cpK b fs fs.length=cpA b fs:=by simp [cpK,cpA]
theorem cpA_wf {b:Nat} {fs:List (List Term)} (h:Wfss fs):Wfss (cpA b fs):=fun f hf=>by
 obtain ⟨ts,ht,rfl⟩:=List.mem_map.1 hf
 exact shF_wf (h ts ht)
theorem cpA_tot (b:Nat) : ∀fs:List (List Term),tot (cpA b fs)=tot fs
 | []=>rfl
 | f::fs=>by
  have h1:=cpA_tot b fs
  simp only [cpA,List.map_cons,tot,shF_len] at h1 ⊢
  omega
theorem Wfss.snoc {fs:List (List Term)} {f:List Term} (h:Wfss fs) (hf:Wfs f):Wfss (fs++[f]):=fun g hg=>by
 rcases List.mem_append.1 hg with h1 | h1
 ·exact h g h1
 ·rw [List.mem_singleton.1 h1];exact hf
theorem Wfss.app {fs gs:List (List Term)} (h:Wfss fs) (h2:Wfss gs):Wfss (fs++gs):=fun g hg=>by
 rcases List.mem_append.1 hg with h1 | h1
 ·exact h g h1
 ·exact h2 g h1
section
variable {P : Program} {ops : Array Oper} {Q : Exit → Act → World → Prop} {n : Nat} {B : World} {H0 H : HP} {rest : List Oper} {us : List (Nat × Value)} {L L1 : List SA} {R : Act → World → Prop} {w : World}
theorem J.unFs {E T:TypeId} {q:Option Addr} {c:Nat} {vs:Vs} {fs:List (List Term)} (hr:Rm L (ownFs E T q c vs fs) L1) (k:J P ops Q n B H0 rest us H (ownTs T vs fs::own E 1 q fs.length c (slicesC vs fs)::L1)):J P ops Q n B H0 rest us H L:=fun a w hF hH=>k a w hF ((hH.front hr).unstar.front (.s .z))
theorem Hp.fsDone {E T:TypeId} {q q':Option Addr} {c c' m:Nat} {vs:Vs} {fs:List (List Term)} {f:List Term} (hm:fs.length=m) (h:Hp B H0 H (own T 9 q' f.length c' (tsC f)::ownTs T vs fs::own E 1 q (m+1) c (slicesC vs fs++[.slice q' f.length c'])::L) w):Hp B H0 H (ownFs E T q c (setV vs m (q',c')) (fs++[f])::L) w:=by
 subst hm
 have e : ∀j,j<fs.length→setV vs fs.length (q',c') j=vs j:=fun j hj=>by unfold setV;rw [if_neg (by omega)]
 have e0:setV vs fs.length (q',c') fs.length=(q',c'):=by simp [setV]
 have h2:Hp B H0 H (ownTs T (setV vs fs.length (q',c')) (fs++[f])::own E 1 q (fs.length+1) c (slicesC vs fs++[.slice q' f.length c'])::L) w:=by
  refine Hp.fsOut ?_;rw [e0,ownTs_cong e];exact h
 unfold ownFs;rw [slicesC_set rfl,List.length_append];exact (h2.front (.s .z)).star
end
theorem l02Own_c {B:World} {H0 H:HP} {L:List SA} {w:World} {qad qaf:Option Addr} {cad caf:Nat} {ad:List Int} {af:List (List Term)} (had:Ints H qad ad) (haf:Forms H qaf af) (hn:ad.length≤1048576∧af.length≤1048576) (hl : ∀i,i<af.length→(fm af i).length≤1048576) (hH:Hp B H0 H L w):Calls Tryz.prog 85 [.agg [.slice qad ad.length cad,.slice qaf af.length caf].toArray].toArray w fun e w'=>∃qd cd qf cf vs,e = .returned (.agg [.slice qd ad.length cd,.slice qf af.length cf].toArray)∧Hp B H0 H (own 2 1 qd ad.length cd (intsC ad)::ownFs 42 89 qf cf vs af::L) w':=by
 refine JD Tryz.func85 rfl 28 rfl rfl [(0,.agg [.slice qad ad.length cad,.slice qaf af.length caf].toArray)] rfl hH ?_;clear hH;refine Jd fun _ hK1 _=>(Jb (Eo rfl rfl rfl fun g1=>(JG ze27 rfl fun g2=>(Jf (Ja (hK1 (Jd fun _ hK2 _=>(Jb (Jg (Jq u27 rfl sz24 rfl) rfl (Jg (Jv rfl (.s .z) rfl pl24) rfl (Jz fn82 rfl rfl fun w hH=>(l01Own_c had (by omega) hH).mono ?_)))))))))));rintro _ w ⟨qo7,co7,rfl,hH⟩;refine ⟨_,rfl,fun a hF=>JL hF hH ?_⟩;refine EG 42 1 (J.ts0 89 (Jg (PR.build1 rfl (fun w=>bd27_0 _ _ _ w)) rfl (JG ze27 rfl fun g3=>(Jk rfl rfl (by first | exact bytesC_one _ | exact intsC_one _ | exact Term.c_one _ | simp [Value.oneCell']) (by simpa [*] using sz27) (by simp [*]) At.z (Jf (Ja (hK2 (Jd fun _ hK3 _=>(Jd fun _ hK4 _=>(Jb (Jg (Je rfl) rfl (Jf (Ja (hK4 (Jx (JP (σ:=Option Addr × Nat × Vs × Nat) (fun ⟨q,c,vs,k⟩=>[(4,.int .i64 (k:Int))]) (fun ⟨q,c,vs,k⟩=>H) (fun ⟨q,c,vs,k⟩=>obj g3 (.cells [.slice qo7 ad.length co7,.slice q k c].toArray 27 (0,0))::ownTs 89 vs (af.take k)::own 42 1 q k c (slicesC vs (af.take k))::own 2 1 qo7 ad.length co7 (intsC ad)::obj g2 (.cells [.slice none 0 0,.slice none 0 0].toArray 27 (0,0))::obj g1 (.cells [.slice qad ad.length cad,.slice qaf af.length caf].toArray 27 (0,0))::L) (fun ⟨q,c,vs,k⟩=>k≤af.length) (fun ⟨q,c,vs,k⟩=>af.length - k) (none,0,nilVs,0) (by show 0≤af.length;omega) ⟨rfl,trivial⟩ rfl rfl ?_))))))))))))))));rintro ⟨q,c,vs,k⟩ hk _ hAg0;have hlk:=hl k;refine Jd fun _ hK5 _=>(Jd fun _ hK6 _=>(Jb (Jg (Jc rfl) rfl (Jg (Jq u27 rfl sz25 rfl) rfl (Jg (Jv rfl (.s (.s (.s (.s (.s .z))))) rfl pl25) rfl (Jg (Jr u25 rfl rfl) rfl (Jg (JZ rfl rfl) rfl (Jf (Ja (hK6 (Jp rfl (fun hc13=>?_) (fun hc13=>?_))))))))))))
 ·
  refine Jo (Ja (hK5 (Jd fun _ hK7 _=>(Jx (Ed (Rs:=[_,_,_,_,_,_]) 12 [[], [0], [], [2], [], [2,3,4], [2,3,4,5], [2,3,4,5,6], [2,3,4,5,6,7], [0,1,2,3,4,5,6,7,8], [0,1,2,3,4,5,6,7,8,9], [0,1,2,3,4,5,6,7,8,9,10]] [[], [12], [], [17], [], [], [], [], [], [8], [], []] [[], [], [], [], [], [], [], [], [], [14], [], [12]] rfl rfl (by kernel_rfl) ?_)))));apply Jm 1 rfl
  iterate 3 focus (intros;(conv=>lhs;simp only [Jh,Js,JO,Ju,JI,eq_self,reduceEqDiff,reduceIte,reduceSub,reduceAdd,JxA,JxB]);all_goals rfl)
  ·
   intro gh X K zq zc zq2 zc2 zb zv hK;refine Jg (Jq u27 rfl sz25 rfl) rfl (Jj ?_);exact hK zq zc zq2 zc2 zb zv
  ·
   intro gh gh' h
   rfl
  apply Jm 2 rfl
  iterate 3 focus (intros;(conv=>lhs;simp only [Jh,Js,JO,Ju,JI,eq_self,reduceEqDiff,reduceIte,reduceSub,reduceAdd,JxA,JxB]);all_goals rfl)
  ·
   intro gh X K zq zc zq2 zc2 zb zv hK;refine Jg (Jv rfl At.z rfl pl25) rfl (Jj ?_);exact hK zq zc zq2 zc2 zb zv
  ·
   intro gh gh' h
   rfl
  apply Jm 3 rfl
  iterate 3 focus (intros;(conv=>lhs;simp only [Jh,Js,JO,Ju,JI,eq_self,reduceEqDiff,reduceIte,reduceSub,reduceAdd,JxA,JxB]);all_goals rfl)
  ·
   intro gh X K zq zc zq2 zc2 zb zv hK;refine Jg (Jq u27 rfl sz25 rfl) rfl (Jj ?_);exact hK zq zc zq2 zc2 zb zv
  ·
   intro gh gh' h
   rfl
  apply Jm 4 rfl
  iterate 3 focus (intros;(conv=>lhs;simp only [Jh,Js,JO,Ju,JI,eq_self,reduceEqDiff,reduceIte,reduceSub,reduceAdd,JxA,JxB]);all_goals rfl)
  ·
   intro gh X K zq zc zq2 zc2 zb zv hK;refine Jg (Jv rfl At.z rfl pl25) rfl (Jj ?_);exact hK zq zc zq2 zc2 zb zv
  ·
   intro gh gh' h
   rfl
  apply Jm 5 rfl
  iterate 3 focus (intros;(conv=>lhs;simp only [Jh,Js,JO,Ju,JI,eq_self,reduceEqDiff,reduceIte,reduceSub,reduceAdd,JxA,JxB]);all_goals rfl)
  ·
   intro gh X K zq zc zq2 zc2 zb zv hK;refine Jg (Jc rfl) rfl (Jj ?_);exact hK zq zc zq2 zc2 zb zv
  ·
   intro gh gh' h
   rfl
  apply Jm 6 rfl
  iterate 3 focus (intros;(conv=>lhs;simp only [Jh,Js,JO,Ju,JI,eq_self,reduceEqDiff,reduceIte,reduceSub,reduceAdd,JxA,JxB]);all_goals rfl)
  ·
   intro gh X K zq zc zq2 zc2 zb zv hK;refine Jg (Eg u25 sz42 rfl rfl rfl (by omega) haf.sm) rfl (Jj ?_);exact hK zq zc zq2 zc2 zb zv
  ·
   intro gh gh' h
   rfl
  obtain ⟨qe22,ce22,he22,le22,Fe22⟩:=haf k (by omega);apply Jm 7 rfl
  iterate 3 focus (intros;(conv=>lhs;simp only [Jh,Js,JO,Ju,JI,eq_self,reduceEqDiff,reduceIte,reduceSub,reduceAdd,JxA,JxB]);all_goals rfl)
  ·
   intro gh X K zq zc zq2 zc2 zb zv hK;refine Jg (JT (cs:=[_]) rfl (one_cell he22) (haf.sm (i:=k) (by omega)) ag42) rfl (Jj ?_);exact hK zq zc zq2 zc2 zb zv
  ·
   intro gh gh' h
   rfl
  apply Eb 8 rfl
  iterate 3 focus (intros;(conv=>lhs;simp only [Jh,Js,JO,Ju,JI,eq_self,reduceEqDiff,reduceIte,reduceSub,reduceAdd,JxA,JxB]);all_goals rfl)
  ·
   intro gh X K zq zc zq2 zc2 zb zv hK;refine Jz fn86 rfl rfl fun w hH=>(l02Copy_0 Fe22 (hlk (by omega)) hH).mono ?_;rintro _ w ⟨qo23,co23,rfl,hH⟩;refine ⟨_,rfl,fun a hF=>JL hF hH ?_⟩;refine Jj ?_;exact hK qo23 co23 zq2 zc2 zb zv
  ·
   intro gh gh' h;refine ⟨?_,?_⟩ <;> rfl
  apply Eb 9 rfl
  iterate 3 focus (intros;(conv=>lhs;simp only [Jh,Js,JO,Ju,JI,eq_self,reduceEqDiff,reduceIte,reduceSub,reduceAdd,JxA,JxB]);all_goals rfl)
  ·
   intro gh X K zq zc zq2 zc2 zb zv hK;refine EX (EI u25 ze42 sz42 rfl rfl) rfl fun qo24 co24=>(Jj ?_);exact hK qo24 co24 zq2 zc2 zb zv
  ·
   intro gh gh' h;refine ⟨?_,?_⟩ <;> (first | simp only [h 7 rfl] | rfl)
  apply Eb 10 rfl
  iterate 3 focus (intros;(conv=>lhs;simp only [Jh,Js,JO,Ju,JI,eq_self,reduceEqDiff,reduceIte,reduceSub,reduceAdd,JxA,JxB]);all_goals rfl)
  ·
   intro gh X K zq zc zq2 zc2 zb zv hK;refine EK u25 ze42 sz42 by42 rfl rfl rfl rfl (by omega) (.s .z) At.z (fun _ _=>At.z) rfl fun qo25 co25=>(Ji .z (Ji (.s .z) (Jj ?_)));exact hK qo25 co25 zq2 zc2 zb zv
  ·
   intro gh gh' h;refine ⟨?_,?_⟩ <;> (first | simp only [h 7 rfl,h 8 rfl] | rfl)
  apply Jm 11 rfl
  iterate 3 focus (intros;(conv=>lhs;simp only [Jh,Js,JO,Ju,JI,eq_self,reduceEqDiff,reduceIte,reduceSub,reduceAdd,JxA,JxB]);all_goals rfl)
  ·
   intro gh X K zq zc zq2 zc2 zb zv hK;refine Jg (Jq u27 rfl sz25 rfl) rfl (Jj ?_);exact hK zq zc zq2 zc2 zb zv
  ·
   intro gh gh' h
   first | simp only [h 7 rfl,h 8 rfl,h 9 rfl] | rfl
  apply Es 12 rfl
  iterate 3 focus (intros;(conv=>lhs;simp only [Jh,Js,JO,Ju,JI,eq_self,reduceEqDiff,reduceIte,reduceSub,reduceAdd,JxA,JxB]);all_goals rfl)
  ·
   intro gh X K hK;refine Ez rfl rfl rfl rfl sz25 (by simp [*]) At.z (Jj ?_);exact hK
  ·
   intro gh gh' h
   first | simp only [h 7 rfl,h 8 rfl,h 9 rfl] | rfl
  apply Ec [0,1,2,3,4,5,6,7,8,9,10,11] [0,1,2,3,4,5,6,7,8,9,10,11,13,15,16,17] foll0 rfl rfl rfl (by rfl)
  iterate 2 focus (intros;(conv=>lhs;simp only [Jh,Js,JO,Ju,JI,eq_self,reduceEqDiff,reduceIte,reduceSub,reduceAdd,JxA,JxB]);all_goals rfl)
  intro gh;generalize (gh 7).c=co23;generalize (gh 7).q=qo23;generalize (gh 8).c=co24;generalize (gh 8).q=qo24;generalize (gh 9).c=co25;generalize (gh 9).q=qo25;clear gh;refine JJ (Ja (hK7 (Jb (Jg (Jc rfl) rfl (Jg (JF rfl rfl (by first | exact nw _ (by omega) | rfl)) rfl (Jg (Je rfl) rfl (Jf (Ja (Ji (.s (.s (.s (.s (.s (.s (.s .z))))))) (Ji (.s (.s (.s (.s (.s (.s (.s .z))))))) (Ji (.s (.s (.s (.s (.s (.s (.s .z))))))) (Ji (.s (.s (.s (.s (.s (.s .z)))))) (Ji (.s (.s (.s (.s (.s (.s .z)))))) (Ji (.s (.s (.s (.s (.s (.s .z)))))) (Ji (.s (.s (.s (.s (.s (.s (.s .z))))))) ?_)))))))))))))));refine Ji (.s (.s (.s (.s (.s (.s (.s .z))))))) (EJ.fsSnoc (fs:=af.take k) (List.length_take_of_le (by omega)) rfl (JC (.s .z) (Ji (.s (.s (.s (.s (.s .z))))) (Ji (.s (.s (.s (.s (.s .z))))) (Ji (.s (.s (.s (.s (.s .z))))) (Ji (.s (.s (.s (.s .z)))) (Ji (.s (.s (.s (.s .z)))) (Ji (.s (.s (.s (.s (.s .z))))) ?_))))))));exact hAg0 (qo25,co25,setV vs k (qo23,co23),k+1) (by show k+1≤af.length;omega) (by show af.length - (k+1)<af.length - k;omega) 20 rfl rfl ⟨rfl,trivial⟩ rfl (by dsimp only;rw [take_fm (by omega),slicesC_set (List.length_take_of_le (by omega))];rfl)
 ·
  refine JR (Jw (Jw (JY (Ja (hK3 (Jd fun _ hK8 _=>(Jb (Jg (Jl rfl At.z (by simpa [*] using ag27)) rfl (Jk rfl rfl (by first | exact bytesC_one _ | exact intsC_one _ | exact Term.c_one _ | simp [Value.oneCell']) (by simpa [*] using sz27) (by simp [*]) (.s (.s (.s (.s .z)))) (Jf (Ja (hK8 (Jt (Jy rfl (Res.agg rfl (.s (.s (.s (.s .z)))) (by simpa [*] using ag27)) fun w hH=>?_))))))))))))));replace hH:=hH.sublist (.cons _ (.cons_cons _ (.cons_cons _ (.cons_cons _ (.cons _ (.cons _ (List.Sublist.refl _)))))))
  obtain rfl:k=af.length:=by omega
  rw [List.take_length] at hH;exact ⟨_,_,q,c,vs,rfl,by unfold ownFs;exact ((hH.front (.s .z)).star.front (.s .z))⟩
theorem l02With_c {B:World} {H0 H:HP} {L:List SA} {w:World} {qad qaf:Option Addr} {cad caf:Nat} {ad:List Int} {af:List (List Term)} {n:Int} {qts:Option Addr} {cts:Nat} {ts:List Term} (had:Ints H qad ad) (haf:Forms H qaf af) (hts:Terms H qts ts) (hn:ad.length≤1048576∧af.length≤1048576) (hl : ∀i,i<af.length→(fm af i).length≤1048576) (hlt:ts.length≤1048576) (hH:Hp B H0 H L w):Calls Tryz.prog 55 [.agg [.slice qad ad.length cad,.slice qaf af.length caf].toArray,.int .i64 n,.agg [.slice qts ts.length cts].toArray].toArray w fun e w'=>∃qd cd qf cf vs,e = .returned (.agg [.slice qd (ad++[n]).length cd,.slice qf (af++[ts]).length cf].toArray)∧Hp B H0 H (own 2 1 qd (ad++[n]).length cd (intsC (ad++[n]))::ownFs 42 89 qf cf vs (af++[ts])::L) w':=by
 refine JD Tryz.func55 rfl 24 rfl rfl [(0,.agg [.slice qad ad.length cad,.slice qaf af.length caf].toArray),(1,.int .i64 n),(2,.agg [.slice qts ts.length cts].toArray)] rfl hH ?_;clear hH;refine Jd fun _ hK1 _=>(Jb (Eo rfl rfl rfl fun g3=>(Eo rfl rfl rfl fun g5=>(JG ze27 rfl fun g6=>(Jf (Ja (hK1 (Jd fun _ hK2 _=>(Jb (Jg (Jl rfl (.s (.s .z)) (by simpa [*] using ag27)) rfl (Jz fn85 rfl rfl fun w hH=>(l02Own_c had haf (by omega) hl hH).mono ?_)))))))))));rintro _ w ⟨qdo9,cdo9,qfo9,cfo9,vso9,rfl,hH⟩;refine ⟨_,rfl,fun a hF=>JL hF hH ?_⟩;refine JG ze27 rfl fun g7=>(J.unFs (.s (.s .z)) (Jk rfl rfl (by first | exact bytesC_one _ | exact intsC_one _ | exact Term.c_one _ | simp [Value.oneCell']) (by simpa [*] using sz27) (by simp [*]) (.s (.s .z)) (Jf (Ja (hK2 (Jd fun _ hK3 _=>(Jb (Jg (Jq u27 rfl sz24 rfl) rfl (Jg (Jv rfl (.s (.s .z)) rfl pl24) rfl (Jg (Jc rfl) rfl (EX (MK.lit1I u24 ze2 sz2 rfl) rfl fun qo13 co13=>(Kb u24 ze2 sz2 by2 rfl rfl (by simp only [List.length_cons,List.length_nil];omega) .z (.s (.s (.s .z))) (fun _ _=>(.s (.s (.s .z)))) rfl fun qo14 co14=>(Jg (Jq u27 rfl sz24 rfl) rfl (Ez rfl rfl rfl rfl sz24 (by simp [*]) (.s (.s (.s .z))) (Jf ?_)))))))))))))));refine Ja (hK3 (Jd fun _ hK4 _=>(Ed (Rs:=[_,_,_,_,_,_,_,_]) 8 [[], [0], [], [2], [2,3], [0,1,2,3,4], [0,1,2,3,4,5], [0,1,2,3,4,5,6]] [[], [11], [14], [], [], [4], [], []] [[], [], [], [], [], [10], [], [11]] rfl rfl (by kernel_rfl) ?_)));apply Jm 1 rfl
 iterate 3 focus (intros;(conv=>lhs;simp only [Jh,Js,JO,Ju,JI,eq_self,reduceEqDiff,reduceIte,reduceSub,reduceAdd,JxA,JxB]);all_goals rfl)
 ·
  intro gh X K zq zc zq2 zc2 zb zv hK;refine Jg (Jq u27 rfl sz25 rfl) rfl (Jj ?_);exact hK zq zc zq2 zc2 zb zv
 ·
  intro gh gh' h
  rfl
 apply Jm 2 rfl
 iterate 3 focus (intros;(conv=>lhs;simp only [Jh,Js,JO,Ju,JI,eq_self,reduceEqDiff,reduceIte,reduceSub,reduceAdd,JxA,JxB]);all_goals rfl)
 ·
  intro gh X K zq zc zq2 zc2 zb zv hK;refine Jg (Jv rfl At.z rfl pl25) rfl (Jj ?_);exact hK zq zc zq2 zc2 zb zv
 ·
  intro gh gh' h
  rfl
 apply Jm 3 rfl
 iterate 3 focus (intros;(conv=>lhs;simp only [Jh,Js,JO,Ju,JI,eq_self,reduceEqDiff,reduceIte,reduceSub,reduceAdd,JxA,JxB]);all_goals rfl)
 ·
  intro gh X K zq zc zq2 zc2 zb zv hK;refine Jg (Jl rfl At.z (by simpa [*] using ag42)) rfl (Jj ?_);exact hK zq zc zq2 zc2 zb zv
 ·
  intro gh gh' h
  rfl
 apply Eb 4 rfl
 iterate 3 focus (intros;(conv=>lhs;simp only [Jh,Js,JO,Ju,JI,eq_self,reduceEqDiff,reduceIte,reduceSub,reduceAdd,JxA,JxB]);all_goals rfl)
 ·
  intro gh X K zq zc zq2 zc2 zb zv hK;refine Jz fn86 rfl rfl fun w hH=>(l02Copy_0 hts (by omega) hH).mono ?_;rintro _ w ⟨qo19,co19,rfl,hH⟩;refine ⟨_,rfl,fun a hF=>JL hF hH ?_⟩;refine Jj ?_;exact hK qo19 co19 zq2 zc2 zb zv
 ·
  intro gh gh' h;refine ⟨?_,?_⟩ <;> rfl
 apply Eb 5 rfl
 iterate 3 focus (intros;(conv=>lhs;simp only [Jh,Js,JO,Ju,JI,eq_self,reduceEqDiff,reduceIte,reduceSub,reduceAdd,JxA,JxB]);all_goals rfl)
 ·
  intro gh X K zq zc zq2 zc2 zb zv hK;refine EX (EI u25 ze42 sz42 rfl rfl) rfl fun qo20 co20=>(Jj ?_);exact hK qo20 co20 zq2 zc2 zb zv
 ·
  intro gh gh' h;refine ⟨?_,?_⟩ <;> (first | simp only [h 3 rfl] | rfl)
 apply Eb 6 rfl
 iterate 3 focus (intros;(conv=>lhs;simp only [Jh,Js,JO,Ju,JI,eq_self,reduceEqDiff,reduceIte,reduceSub,reduceAdd,JxA,JxB]);all_goals rfl)
 ·
  intro gh X K zq zc zq2 zc2 zb zv hK;refine EK u25 ze42 sz42 by42 rfl rfl rfl rfl (by omega) (.s .z) At.z (fun _ _=>At.z) rfl fun qo21 co21=>(Ji .z (Ji (.s .z) (Jj ?_)));exact hK qo21 co21 zq2 zc2 zb zv
 ·
  intro gh gh' h;refine ⟨?_,?_⟩ <;> (first | simp only [h 3 rfl,h 4 rfl] | rfl)
 apply Jm 7 rfl
 iterate 3 focus (intros;(conv=>lhs;simp only [Jh,Js,JO,Ju,JI,eq_self,reduceEqDiff,reduceIte,reduceSub,reduceAdd,JxA,JxB]);all_goals rfl)
 ·
  intro gh X K zq zc zq2 zc2 zb zv hK;refine Jg (Jq u27 rfl sz25 rfl) rfl (Jj ?_);exact hK zq zc zq2 zc2 zb zv
 ·
  intro gh gh' h
  first | simp only [h 3 rfl,h 4 rfl,h 5 rfl] | rfl
 apply Es 8 rfl
 iterate 3 focus (intros;(conv=>lhs;simp only [Jh,Js,JO,Ju,JI,eq_self,reduceEqDiff,reduceIte,reduceSub,reduceAdd,JxA,JxB]);all_goals rfl)
 ·
  intro gh X K hK;refine Ez rfl rfl rfl rfl sz25 (by simp [*]) At.z (Jj ?_);exact hK
 ·
  intro gh gh' h
  first | simp only [h 3 rfl,h 4 rfl,h 5 rfl] | rfl
 apply Ec [0,1,2,3,4,5,6,7] [0,1,2,3,4,5,6,7,8,9,12,13,14,15] foll0 rfl rfl rfl (by rfl)
 iterate 2 focus (intros;(conv=>lhs;simp only [Jh,Js,JO,Ju,JI,eq_self,reduceEqDiff,reduceIte,reduceSub,reduceAdd,JxA,JxB]);all_goals rfl)
 intro gh;generalize (gh 3).c=co19;generalize (gh 3).q=qo19;generalize (gh 4).c=co20;generalize (gh 4).q=qo20;generalize (gh 5).c=co21;generalize (gh 5).q=qo21;clear gh;refine Ja (hK4 (Jd fun _ hK5 _=>(Jb (Jg (Jl rfl (.s (.s (.s .z))) (by simpa [*] using ag27)) rfl (Jk rfl rfl (by first | exact bytesC_one _ | exact intsC_one _ | exact Term.c_one _ | simp [Value.oneCell']) (by simpa [*] using sz27) (by simp [*]) (.s (.s (.s (.s (.s (.s (.s .z))))))) (Jf (Ja (hK5 (Jt (Jy rfl (Res.agg rfl (.s (.s (.s (.s (.s (.s (.s .z))))))) (by simpa [*] using ag27)) fun w hH=>?_))))))))));replace hH:=hH.sublist (.cons_cons _ (.cons _ (.cons_cons _ (.cons _ (.cons _ (.cons_cons _ (.cons_cons _ (.cons _ (.cons _ (.cons _ (List.Sublist.refl _)))))))))));exact ⟨_,_,_,_,_,(have e:(af++[ts]).length=af.length+1:=(by simp);by rw [e];rfl),(Hp.fsDone rfl ((hH.front (.s (.s .z))).front (.s .z))).front (.s .z)⟩
theorem tk_ints {xs:List Int} {i:Nat} (hi:i<xs.length) (ys:List Int):ys++xs.take (i+1)=ys++xs.take i++[xs.getD i 0]:=by
 rw [List.take_succ_eq_append_getElem hi,List.append_assoc]
 congr 3
 rw [List.getD_eq_getElem?_getD,List.getElem?_eq_getElem hi]
 rfl
theorem cp_snoc {n i:Nat} {fs gs:List (List Term)} (hi:i<gs.length):fs++cpK n gs (i+1)=fs++cpK n gs i++[shF n (fm gs i)]:=by rw [cpK_succ hi,List.append_assoc]
theorem cp_len {n i:Nat} {fs gs:List (List Term)} (hi:i≤gs.length):(fs++cpK n gs i).length=fs.length+i:=by rw [List.length_append,cpK_len hi]
theorem l02Product_c {B:World} {H0 H:HP} {L:List SA} {w:World} {qad qaf:Option Addr} {cad caf:Nat} {ad:List Int} {af:List (List Term)} {qbd qbf:Option Addr} {cbd cbf:Nat} {bd:List Int} {bf:List (List Term)} (had:Ints H qad ad) (haf:Forms H qaf af) (hbd:Ints H qbd bd) (hbf:Forms H qbf bf) (hn:ad.length≤1048576∧af.length≤1048576) (hl : ∀i,i<af.length→(fm af i).length≤1048576) (bn:bd.length≤1048576∧bf.length≤1048576) (bl : ∀i,i<bf.length→(fm bf i).length≤1048576) (hs:ad.length+bd.length≤8) (hbl:bf.length=bd.length) (hal:af.length=ad.length) (hH:Hp B H0 H L w):Calls Tryz.prog 44 [.agg [.slice qad ad.length cad,.slice qaf af.length caf].toArray,.agg [.slice qbd bd.length cbd,.slice qbf bf.length cbf].toArray].toArray w fun e w'=>∃qd cd qf cf vs,e = .returned (.agg [.slice qd (ad++bd).length cd,.slice qf (af++cpA ad.length bf).length cf].toArray)∧Hp B H0 H (own 2 1 qd (ad++bd).length cd (intsC (ad++bd))::ownFs 42 89 qf cf vs (af++cpA ad.length bf)::L) w':=by
 refine JD Tryz.func44 rfl 41 rfl rfl [(0,.agg [.slice qad ad.length cad,.slice qaf af.length caf].toArray),(1,.agg [.slice qbd bd.length cbd,.slice qbf bf.length cbf].toArray)] rfl hH ?_;clear hH;refine Jd fun _ hK1 _=>(Jb (Eo rfl rfl rfl fun g2=>(Eo rfl rfl rfl fun g3=>(JG ze27 rfl fun g4=>(Jf (Ja (hK1 (Jd fun _ hK2 _=>(Jb (Jg (Jl rfl (.s (.s .z)) (by simpa [*] using ag27)) rfl (Jz fn85 rfl rfl fun w hH=>(l02Own_c had haf (by omega) hl hH).mono ?_)))))))))));rintro _ w ⟨qdo8,cdo8,qfo8,cfo8,vso8,rfl,hH⟩;refine ⟨_,rfl,fun a hF=>JL hF hH ?_⟩;refine JG ze27 rfl fun g5=>(J.unFs (.s (.s .z)) (Jk rfl rfl (by first | exact bytesC_one _ | exact intsC_one _ | exact Term.c_one _ | simp [Value.oneCell']) (by simpa [*] using sz27) (by simp [*]) (.s (.s .z)) (Jf (Ja (hK2 (Jd fun _ hK3 _=>(Jd fun _ hK4 _=>(Jb (Jg (Je rfl) rfl (Jf (Ja (hK4 (Jx (JP (σ:=Option Addr × Nat × Option Addr × Nat × Vs × Nat) (fun ⟨qd,cd,q,c,vs,i⟩=>[(6,.int .i64 (i:Int))]) (fun ⟨qd,cd,q,c,vs,i⟩=>H) (fun ⟨qd,cd,q,c,vs,i⟩=>ownTs 89 vs (af++cpK ad.length bf i)::own 42 1 q (af.length+i) c (slicesC vs (af++cpK ad.length bf i))::obj g5 (.cells [.slice qd (ad++bd.take i).length cd,.slice q (af.length+i) c].toArray 27 (0,0))::own 2 1 qd (ad++bd.take i).length cd (intsC (ad++bd.take i))::obj g4 (.cells [.slice none 0 0,.slice none 0 0].toArray 27 (0,0))::obj g3 (.cells [.slice qbd bd.length cbd,.slice qbf bf.length cbf].toArray 27 (0,0))::obj g2 (.cells [.slice qad ad.length cad,.slice qaf af.length caf].toArray 27 (0,0))::L) (fun ⟨qd,cd,q,c,vs,i⟩=>i≤bd.length) (fun ⟨qd,cd,q,c,vs,i⟩=>bd.length - i) (qdo8,cdo8,qfo8,cfo8,vso8,0) (by show 0≤bd.length;omega) ⟨rfl,trivial⟩ rfl (by simp [cpK]) ?_))))))))))))));rintro ⟨qd,cd,q,c,vs,i⟩ hi _ hAg0;have blk:=bl i
 have hdl:(ad++bd.take i).length=ad.length+i:=by rw [List.length_append,List.length_take_of_le hi]
 refine Jd fun _ hK5 _=>(Jd fun _ hK6 _=>(Jb (Jg (Jc rfl) rfl (Jg (Jq u27 rfl sz24 rfl) rfl (Jg (Jv rfl (.s (.s (.s (.s (.s .z))))) rfl pl24) rfl (Jg (Jr u24 rfl rfl) rfl (Jg (JZ rfl rfl) rfl (Jf (Ja (hK6 (Jp rfl (fun hc13=>?_) (fun hc13=>?_))))))))))))
 ·
  refine Jo (Ja (hK5 (Jd fun _ hK7 _=>(Jx (Jd fun _ hK8 _=>(Ed (Rs:=[_,_,_,_,_,_,_]) 11 [[], [0], [], [2], [], [2,3,4], [2,3,4,5], [2,3,4,5,6], [0,1,2,3,4,5,6,7], [0,1,2,3,4,5,6,7,8], [0,1,2,3,4,5,6,7,8,9]] [[], [13], [], [16], [], [], [], [], [7], [], []] [[], [], [], [], [], [], [], [], [14], [], [13]] rfl rfl (by kernel_rfl) ?_))))));apply Jm 1 rfl
  iterate 3 focus (intros;(conv=>lhs;simp only [Jh,Js,JO,Ju,JI,eq_self,reduceEqDiff,reduceIte,reduceSub,reduceAdd,JxA,JxB]);all_goals rfl)
  ·
   intro gh X K zq zc zq2 zc2 zb zv hK;refine Jg (Jq u27 rfl sz24 rfl) rfl (Jj ?_);exact hK zq zc zq2 zc2 zb zv
  ·
   intro gh gh' h
   rfl
  apply Jm 2 rfl
  iterate 3 focus (intros;(conv=>lhs;simp only [Jh,Js,JO,Ju,JI,eq_self,reduceEqDiff,reduceIte,reduceSub,reduceAdd,JxA,JxB]);all_goals rfl)
  ·
   intro gh X K zq zc zq2 zc2 zb zv hK;refine Jg (Jv rfl At.z rfl pl24) rfl (Jj ?_);exact hK zq zc zq2 zc2 zb zv
  ·
   intro gh gh' h
   rfl
  apply Jm 3 rfl
  iterate 3 focus (intros;(conv=>lhs;simp only [Jh,Js,JO,Ju,JI,eq_self,reduceEqDiff,reduceIte,reduceSub,reduceAdd,JxA,JxB]);all_goals rfl)
  ·
   intro gh X K zq zc zq2 zc2 zb zv hK;refine Jg (Jq u27 rfl sz24 rfl) rfl (Jj ?_);exact hK zq zc zq2 zc2 zb zv
  ·
   intro gh gh' h
   rfl
  apply Jm 4 rfl
  iterate 3 focus (intros;(conv=>lhs;simp only [Jh,Js,JO,Ju,JI,eq_self,reduceEqDiff,reduceIte,reduceSub,reduceAdd,JxA,JxB]);all_goals rfl)
  ·
   intro gh X K zq zc zq2 zc2 zb zv hK;refine Jg (Jv rfl At.z rfl pl24) rfl (Jj ?_);exact hK zq zc zq2 zc2 zb zv
  ·
   intro gh gh' h
   rfl
  apply Jm 5 rfl
  iterate 3 focus (intros;(conv=>lhs;simp only [Jh,Js,JO,Ju,JI,eq_self,reduceEqDiff,reduceIte,reduceSub,reduceAdd,JxA,JxB]);all_goals rfl)
  ·
   intro gh X K zq zc zq2 zc2 zb zv hK;refine Jg (Jc rfl) rfl (Jj ?_);exact hK zq zc zq2 zc2 zb zv
  ·
   intro gh gh' h
   rfl
  apply Jm 6 rfl
  iterate 3 focus (intros;(conv=>lhs;simp only [Jh,Js,JO,Ju,JI,eq_self,reduceEqDiff,reduceIte,reduceSub,reduceAdd,JxA,JxB]);all_goals rfl)
  ·
   intro gh X K zq zc zq2 zc2 zb zv hK;refine Jg (Eg u24 sz2 rfl rfl rfl (by omega) hbd.sm) rfl (Jj ?_);exact hK zq zc zq2 zc2 zb zv
  ·
   intro gh gh' h
   rfl
  apply Jm 7 rfl
  iterate 3 focus (intros;(conv=>lhs;simp only [Jh,Js,JO,Ju,JI,eq_self,reduceEqDiff,reduceIte,reduceSub,reduceAdd,JxA,JxB]);all_goals rfl)
  ·
   intro gh X K zq zc zq2 zc2 zb zv hK;refine Jg (JX rfl (hbd _ (by omega)) pl2) rfl (Jj ?_);exact hK zq zc zq2 zc2 zb zv
  ·
   intro gh gh' h
   rfl
  apply Eb 8 rfl
  iterate 3 focus (intros;(conv=>lhs;simp only [Jh,Js,JO,Ju,JI,eq_self,reduceEqDiff,reduceIte,reduceSub,reduceAdd,JxA,JxB]);all_goals rfl)
  ·
   intro gh X K zq zc zq2 zc2 zb zv hK;refine EX (MK.lit1I u24 ze2 sz2 rfl) rfl fun qo23 co23=>(Jj ?_);exact hK qo23 co23 zq2 zc2 zb zv
  ·
   intro gh gh' h;refine ⟨?_,?_⟩ <;> rfl
  apply Eb 9 rfl
  iterate 3 focus (intros;(conv=>lhs;simp only [Jh,Js,JO,Ju,JI,eq_self,reduceEqDiff,reduceIte,reduceSub,reduceAdd,JxA,JxB]);all_goals rfl)
  ·
   intro gh X K zq zc zq2 zc2 zb zv hK;refine Kb u24 ze2 sz2 by2 rfl rfl (by simp only [List.length_cons,List.length_nil];omega) (.s .z) At.z (fun _ _=>At.z) rfl fun qo24 co24=>(Ji .z (Ji (.s .z) (Jj ?_)));exact hK qo24 co24 zq2 zc2 zb zv
  ·
   intro gh gh' h;refine ⟨?_,?_⟩ <;> (first | simp only [h 7 rfl] | rfl)
  apply Jm 10 rfl
  iterate 3 focus (intros;(conv=>lhs;simp only [Jh,Js,JO,Ju,JI,eq_self,reduceEqDiff,reduceIte,reduceSub,reduceAdd,JxA,JxB]);all_goals rfl)
  ·
   intro gh X K zq zc zq2 zc2 zb zv hK;refine Jg (Jq u27 rfl sz24 rfl) rfl (Jj ?_);exact hK zq zc zq2 zc2 zb zv
  ·
   intro gh gh' h
   first | simp only [h 7 rfl,h 8 rfl] | rfl
  apply Es 11 rfl
  iterate 3 focus (intros;(conv=>lhs;simp only [Jh,Js,JO,Ju,JI,eq_self,reduceEqDiff,reduceIte,reduceSub,reduceAdd,JxA,JxB]);all_goals rfl)
  ·
   intro gh X K hK;refine Ez rfl rfl rfl rfl sz24 (by simp [*]) At.z (Jj ?_);exact hK
  ·
   intro gh gh' h
   first | simp only [h 7 rfl,h 8 rfl] | rfl
  apply Ec [0,1,2,3,4,5,6,7,8,9,10] [0,1,2,3,4,5,6,7,8,9,10,11,12,15,16,17] foll0 rfl rfl rfl (by rfl)
  iterate 2 focus (intros;(conv=>lhs;simp only [Jh,Js,JO,Ju,JI,eq_self,reduceEqDiff,reduceIte,reduceSub,reduceAdd,JxA,JxB]);all_goals rfl)
  intro gh;generalize (gh 7).c=co23;generalize (gh 7).q=qo23;generalize (gh 8).c=co24;generalize (gh 8).q=qo24;clear gh;refine Ja (hK8 (Ed (Rs:=[_,_,_,_,_,_,_,_]) 15 [[], [0], [], [2], [], [2,3,4], [2,3,4,5], [], [7], [7,8], [2,3,4,5,6,7,8,9], [2,3,4,5,6,7,8,9,10], [0,1,2,3,4,5,6,7,8,9,10,11], [0,1,2,3,4,5,6,7,8,9,10,11,12], [0,1,2,3,4,5,6,7,8,9,10,11,12,13]] [[], [17], [], [21], [], [], [], [], [22], [], [], [], [11], [], []] [[], [], [], [], [], [], [], [], [], [], [], [], [19], [], [17]] rfl rfl (by kernel_rfl) ?_));apply Jm 1 rfl
  iterate 3 focus (intros;(conv=>lhs;simp only [Jh,Js,JO,Ju,JI,eq_self,reduceEqDiff,reduceIte,reduceSub,reduceAdd,JxA,JxB]);all_goals rfl)
  ·
   intro gh X K zq zc zq2 zc2 zb zv hK;refine Jg (Jq u27 rfl sz25 rfl) rfl (Jj ?_);exact hK zq zc zq2 zc2 zb zv
  ·
   intro gh gh' h
   rfl
  apply Jm 2 rfl
  iterate 3 focus (intros;(conv=>lhs;simp only [Jh,Js,JO,Ju,JI,eq_self,reduceEqDiff,reduceIte,reduceSub,reduceAdd,JxA,JxB]);all_goals rfl)
  ·
   intro gh X K zq zc zq2 zc2 zb zv hK;refine Jg (Jv rfl At.z rfl pl25) rfl (Jj ?_);exact hK zq zc zq2 zc2 zb zv
  ·
   intro gh gh' h
   rfl
  apply Jm 3 rfl
  iterate 3 focus (intros;(conv=>lhs;simp only [Jh,Js,JO,Ju,JI,eq_self,reduceEqDiff,reduceIte,reduceSub,reduceAdd,JxA,JxB]);all_goals rfl)
  ·
   intro gh X K zq zc zq2 zc2 zb zv hK;refine Jg (Jq u27 rfl sz25 rfl) rfl (Jj ?_);exact hK zq zc zq2 zc2 zb zv
  ·
   intro gh gh' h
   rfl
  apply Jm 4 rfl
  iterate 3 focus (intros;(conv=>lhs;simp only [Jh,Js,JO,Ju,JI,eq_self,reduceEqDiff,reduceIte,reduceSub,reduceAdd,JxA,JxB]);all_goals rfl)
  ·
   intro gh X K zq zc zq2 zc2 zb zv hK;refine Jg (Jv rfl At.z rfl pl25) rfl (Jj ?_);exact hK zq zc zq2 zc2 zb zv
  ·
   intro gh gh' h
   rfl
  apply Jm 5 rfl
  iterate 3 focus (intros;(conv=>lhs;simp only [Jh,Js,JO,Ju,JI,eq_self,reduceEqDiff,reduceIte,reduceSub,reduceAdd,JxA,JxB]);all_goals rfl)
  ·
   intro gh X K zq zc zq2 zc2 zb zv hK;refine Jg (Jc rfl) rfl (Jj ?_);exact hK zq zc zq2 zc2 zb zv
  ·
   intro gh gh' h
   rfl
  apply Jm 6 rfl
  iterate 3 focus (intros;(conv=>lhs;simp only [Jh,Js,JO,Ju,JI,eq_self,reduceEqDiff,reduceIte,reduceSub,reduceAdd,JxA,JxB]);all_goals rfl)
  ·
   intro gh X K zq zc zq2 zc2 zb zv hK;refine Jg (Eg u25 sz42 rfl rfl rfl (by omega) hbf.sm) rfl (Jj ?_);exact hK zq zc zq2 zc2 zb zv
  ·
   intro gh gh' h
   rfl
  obtain ⟨qe32,ce32,he32,le32,Fe32⟩:=hbf i (by omega);apply Jm 7 rfl
  iterate 3 focus (intros;(conv=>lhs;simp only [Jh,Js,JO,Ju,JI,eq_self,reduceEqDiff,reduceIte,reduceSub,reduceAdd,JxA,JxB]);all_goals rfl)
  ·
   intro gh X K zq zc zq2 zc2 zb zv hK;refine Jg (JT (cs:=[_]) rfl (one_cell he32) (hbf.sm (i:=i) (by omega)) ag42) rfl (Jj ?_);exact hK zq zc zq2 zc2 zb zv
  ·
   intro gh gh' h
   rfl
  apply Jm 8 rfl
  iterate 3 focus (intros;(conv=>lhs;simp only [Jh,Js,JO,Ju,JI,eq_self,reduceEqDiff,reduceIte,reduceSub,reduceAdd,JxA,JxB]);all_goals rfl)
  ·
   intro gh X K zq zc zq2 zc2 zb zv hK;refine Jg (Jq u27 rfl sz24 rfl) rfl (Jj ?_);exact hK zq zc zq2 zc2 zb zv
  ·
   intro gh gh' h
   rfl
  apply Jm 9 rfl
  iterate 3 focus (intros;(conv=>lhs;simp only [Jh,Js,JO,Ju,JI,eq_self,reduceEqDiff,reduceIte,reduceSub,reduceAdd,JxA,JxB]);all_goals rfl)
  ·
   intro gh X K zq zc zq2 zc2 zb zv hK;refine Jg (Jv rfl At.z rfl pl24) rfl (Jj ?_);exact hK zq zc zq2 zc2 zb zv
  ·
   intro gh gh' h
   rfl
  apply Jm 10 rfl
  iterate 3 focus (intros;(conv=>lhs;simp only [Jh,Js,JO,Ju,JI,eq_self,reduceEqDiff,reduceIte,reduceSub,reduceAdd,JxA,JxB]);all_goals rfl)
  ·
   intro gh X K zq zc zq2 zc2 zb zv hK;refine Jg (Jr u24 rfl rfl) rfl (Jj ?_);exact hK zq zc zq2 zc2 zb zv
  ·
   intro gh gh' h
   rfl
  apply Eb 11 rfl
  iterate 3 focus (intros;(conv=>lhs;simp only [Jh,Js,JO,Ju,JI,eq_self,reduceEqDiff,reduceIte,reduceSub,reduceAdd,JxA,JxB]);all_goals rfl)
  ·
   intro gh X K zq zc zq2 zc2 zb zv hK;refine Jz fn86 rfl rfl fun w hH=>(l02Copy_c (b:=ad.length) Fe32 (by omega) (blk (by omega)) hH).mono ?_;rintro _ w ⟨qo36,co36,rfl,hH⟩;refine ⟨_,rfl,fun a hF=>JL hF hH ?_⟩;refine Jj ?_;exact hK qo36 co36 zq2 zc2 zb zv
  ·
   intro gh gh' h;refine ⟨?_,?_⟩ <;> rfl
  apply Eb 12 rfl
  iterate 3 focus (intros;(conv=>lhs;simp only [Jh,Js,JO,Ju,JI,eq_self,reduceEqDiff,reduceIte,reduceSub,reduceAdd,JxA,JxB]);all_goals rfl)
  ·
   intro gh X K zq zc zq2 zc2 zb zv hK;refine EX (EI u25 ze42 sz42 rfl rfl) rfl fun qo37 co37=>(Jj ?_);exact hK qo37 co37 zq2 zc2 zb zv
  ·
   intro gh gh' h;refine ⟨?_,?_⟩ <;> (first | simp only [h 10 rfl] | rfl)
  apply Eb 13 rfl
  iterate 3 focus (intros;(conv=>lhs;simp only [Jh,Js,JO,Ju,JI,eq_self,reduceEqDiff,reduceIte,reduceSub,reduceAdd,JxA,JxB]);all_goals rfl)
  ·
   intro gh X K zq zc zq2 zc2 zb zv hK;refine EK u25 ze42 sz42 by42 rfl rfl rfl rfl (by omega) (.s .z) At.z (fun _ _=>At.z) rfl fun qo38 co38=>(Ji .z (Ji (.s .z) (Jj ?_)));exact hK qo38 co38 zq2 zc2 zb zv
  ·
   intro gh gh' h;refine ⟨?_,?_⟩ <;> (first | simp only [h 10 rfl,h 11 rfl] | rfl)
  apply Jm 14 rfl
  iterate 3 focus (intros;(conv=>lhs;simp only [Jh,Js,JO,Ju,JI,eq_self,reduceEqDiff,reduceIte,reduceSub,reduceAdd,JxA,JxB]);all_goals rfl)
  ·
   intro gh X K zq zc zq2 zc2 zb zv hK;refine Jg (Jq u27 rfl sz25 rfl) rfl (Jj ?_);exact hK zq zc zq2 zc2 zb zv
  ·
   intro gh gh' h
   first | simp only [h 10 rfl,h 11 rfl,h 12 rfl] | rfl
  apply Es 15 rfl
  iterate 3 focus (intros;(conv=>lhs;simp only [Jh,Js,JO,Ju,JI,eq_self,reduceEqDiff,reduceIte,reduceSub,reduceAdd,JxA,JxB]);all_goals rfl)
  ·
   intro gh X K hK;refine Ez rfl rfl rfl rfl sz25 (by simp [*]) At.z (Jj ?_);exact hK
  ·
   intro gh gh' h
   first | simp only [h 10 rfl,h 11 rfl,h 12 rfl] | rfl
  apply Ec [0,1,2,3,4,5,6,7,8,9,10,11,12,13,14] [0,1,2,3,4,5,6,7,8,9,10,11,12,13,14,15,16,18,20,21,22] foll0 rfl rfl rfl (by rfl)
  iterate 2 focus (intros;(conv=>lhs;simp only [Jh,Js,JO,Ju,JI,eq_self,reduceEqDiff,reduceIte,reduceSub,reduceAdd,JxA,JxB]);all_goals rfl)
  intro gh;generalize (gh 10).c=co36;generalize (gh 10).q=qo36;generalize (gh 11).c=co37;generalize (gh 11).q=qo37;generalize (gh 12).c=co38;generalize (gh 12).q=qo38;clear gh;refine JJ (Ja (hK7 (Jb (Jg (Jc rfl) rfl (Jg (JF rfl rfl (by first | exact nw _ (by omega) | rfl)) rfl (Jg (Je rfl) rfl (Jf (Ja (Ji (.s (.s (.s (.s (.s (.s (.s (.s (.s .z))))))))) (Ji (.s (.s (.s (.s (.s (.s (.s (.s (.s .z))))))))) (Ji (.s (.s (.s (.s (.s (.s (.s (.s (.s .z))))))))) (Ji (.s (.s (.s (.s (.s (.s (.s (.s .z)))))))) (Ji (.s (.s (.s (.s (.s (.s (.s (.s .z)))))))) (Ji (.s (.s (.s (.s (.s (.s (.s (.s .z)))))))) (Ji (.s (.s (.s (.s (.s (.s (.s (.s .z)))))))) ?_)))))))))))))));refine Ji (.s (.s (.s (.s (.s (.s (.s (.s .z)))))))) (Ji (.s (.s (.s (.s (.s (.s (.s (.s (.s .z))))))))) (Ji (.s (.s (.s (.s (.s (.s (.s (.s (.s .z))))))))) (EJ.fsSnoc (fs:=af++cpK ad.length bf i) (cp_len (by omega)) rfl (JC (.s .z) (JC (.s (.s (.s .z))) ?_)))));exact hAg0 (qo24,co24,qo38,co38,setV vs (af.length+i) (qo36,co36),i+1) (by show i+1≤bd.length;omega) (by show bd.length - (i+1)<bd.length - i;omega) 33 rfl rfl ⟨rfl,trivial⟩ rfl (by dsimp only;rw [tk_ints (by omega),cp_snoc (by omega),slicesC_set (cp_len (by omega))];rfl)
 ·
  refine JR (Jw (Jw (JY (Ja (hK3 (Jd fun _ hK9 _=>(Jb (Jg (Jl rfl (.s (.s .z)) (by simpa [*] using ag27)) rfl (Jk rfl rfl (by first | exact bytesC_one _ | exact intsC_one _ | exact Term.c_one _ | simp [Value.oneCell']) (by simpa [*] using sz27) (by simp [*]) (.s (.s (.s (.s .z)))) (Jf (Ja (hK9 (Jt (Jy rfl (Res.agg rfl (.s (.s (.s (.s .z)))) (by simpa [*] using ag27)) fun w hH=>?_))))))))))))));replace hH:=hH.sublist (.cons_cons _ (.cons_cons _ (.cons _ (.cons_cons _ (.cons _ (.cons _ (.cons _ (List.Sublist.refl _))))))));have e1:bd.take i=bd:=List.take_of_length_le (by omega)
  have e2:cpK ad.length bf i=cpA ad.length bf:=by rw [show i=bf.length by omega];exact cpK_end _ _
  have e3:(af++cpA ad.length bf).length=af.length+i:=by rw [List.length_append,cpA_len];omega
  rw [e1,e2] at hH;exact ⟨_,_,q,c,vs,by rw [e1,e3],by unfold ownFs;rw [e3];exact ((hH.front (.s .z)).star.front (.s .z))⟩
def prOk (ad:List Int) (af:List (List Term)) (bd:List Int) (bf:List (List Term)):Bool:=isAlg ad af && isAlg bd bf
def prLe (ad bd:List Int):Bool:=decide (ad.length+bd.length≤8)
def prD (ad:List Int) (af:List (List Term)) (bd:List Int) (bf:List (List Term)):List Int:=if prOk ad af bd bf && prLe ad bd then ad++bd else []
def prF (ad:List Int) (af:List (List Term)) (bd:List Int) (bf:List (List Term)):List (List Term):=if prOk ad af bd bf && prLe ad bd then af++cpA ad.length bf else []
def prC (ad:List Int) (af:List (List Term)) (bd:List Int) (bf:List (List Term)):Int:=if prOk ad af bd bf then (if prLe ad bd then 0 else 3) else 1
theorem pr_bad {ad:List Int} {af:List (List Term)} {bd:List Int} {bf:List (List Term)} (h:prOk ad af bd bf=false):prD ad af bd bf=[]∧prF ad af bd bf=[]∧prC ad af bd bf=1:=by unfold prD prF prC;rw [h];exact ⟨rfl,rfl,rfl⟩
theorem pr_big {ad:List Int} {af:List (List Term)} {bd:List Int} {bf:List (List Term)} (h:prOk ad af bd bf=true) (h2 : ¬ad.length+bd.length≤8):prD ad af bd bf=[]∧prF ad af bd bf=[]∧prC ad af bd bf=3:=by
 unfold prD prF prC;rw [h,show prLe ad bd=false from decide_eq_false h2];exact ⟨rfl,rfl,rfl⟩
theorem pr_yes {ad:List Int} {af:List (List Term)} {bd:List Int} {bf:List (List Term)} (h:prOk ad af bd bf=true) (h2:ad.length+bd.length≤8):prD ad af bd bf=ad++bd∧prF ad af bd bf=af++cpA ad.length bf∧prC ad af bd bf=0:=by
 unfold prD prF prC;rw [h,show prLe ad bd=true from decide_eq_true h2];exact ⟨rfl,rfl,rfl⟩
theorem isAlg_len {ds:List Int} {fs:List (List Term)} (h:isAlg ds fs=true):ds.length≤8∧fs.length=ds.length:=by
 unfold isAlg at h;simp only [Bool.and_eq_true,decide_eq_true_eq] at h;exact ⟨isDeg_len h.1.1.1,h.1.1.2⟩
theorem prF_wf {ad:List Int} {af:List (List Term)} {bd:List Int} {bf:List (List Term)} (h:Wfss af) (h2:Wfss bf):Wfss (prF ad af bd bf):=by
 unfold prF
 split
 ·exact Wfss.app h (cpA_wf h2)
 ·exact fun f hf=>by simp at hf
theorem pr_len (ad:List Int) (af:List (List Term)) (bd:List Int) (bf:List (List Term)):(prD ad af bd bf).length≤8∧(prF ad af bd bf).length≤16∧tot (prF ad af bd bf)≤tot af+tot bf:=by
 cases h:prOk ad af bd bf with
 | false=>
  obtain ⟨e1,e2,_⟩:=pr_bad h;rw [e1,e2]
  simp [tot]
 | true=>
  have h1:=Bool.and_eq_true_iff.1 h;have h2:=isAlg_len h1.1;have h3:=isAlg_len h1.2
  rcases Nat.lt_or_ge 8 (ad.length+bd.length) with h4 | h4
  ·obtain ⟨e1,e2,_⟩:=pr_big (af:=af) (bf:=bf) h (by omega);rw [e1,e2]
   simp [tot]
  ·obtain ⟨e1,e2,_⟩:=pr_yes h h4;rw [e1,e2];simp only [List.length_append,cpA_len,tot_app,cpA_tot]
   omega
theorem sProduct_c {B:World} {H0 H:HP} {L:List SA} {w:World} {qad qaf:Option Addr} {cad caf:Nat} {ad:List Int} {af:List (List Term)} {qbd qbf:Option Addr} {cbd cbf:Nat} {bd:List Int} {bf:List (List Term)} (had:Ints H qad ad) (haf:Forms H qaf af) (hbd:Ints H qbd bd) (hbf:Forms H qbf bf) (hn8:ad.length≤1048576) (hn9:af.length≤1048576) (hl9 : ∀i,i<af.length→(fm af i).length≤1048576) (bn8:bd.length≤1048576) (bn9:bf.length≤1048576) (bl9 : ∀i,i<bf.length→(fm bf i).length≤1048576) (hH:Hp B H0 H L w):Calls Tryz.prog 17 [.agg [.slice qad ad.length cad,.slice qaf af.length caf].toArray,.agg [.slice qbd bd.length cbd,.slice qbf bf.length cbf].toArray].toArray w fun e w'=>∃qd cd qf cf vs,e = .returned (.tuple #[.agg [.slice qd (prD ad af bd bf).length cd,.slice qf (prF ad af bd bf).length cf].toArray,.int .i64 (prC ad af bd bf)])∧Hp B H0 H (own 2 1 qd (prD ad af bd bf).length cd (intsC (prD ad af bd bf))::ownFs 42 89 qf cf vs (prF ad af bd bf)::L) w':=by
 refine JD Tryz.func17 rfl 29 rfl rfl [(0,.agg [.slice qad ad.length cad,.slice qaf af.length caf].toArray),(1,.agg [.slice qbd bd.length cbd,.slice qbf bf.length cbf].toArray)] rfl hH ?_;clear hH;refine Jd fun _ hK1 _=>(Jb (Eo rfl rfl rfl fun g2=>(Eo rfl rfl rfl fun g3=>(JG ze27 rfl fun g4=>(Jg (Je rfl) rfl (Jf (Ja (hK1 (Jd fun _ hK2 _=>(Jx (Jd fun _ hK3 _=>(Jb (Jg (Jl rfl (.s (.s .z)) (by simpa [*] using ag27)) rfl (Jz fn27 rfl rfl fun w hH=>(l02Is_c had haf hn8 hn9 hl9 hH).mono ?_))))))))))))));rintro _ w ⟨rfl,hH⟩;refine ⟨_,rfl,fun a hF=>JL hF hH ?_⟩;refine Jg (Er rfl) rfl (Jg (Jc rfl) rfl (JW (jd:=10) rfl (fun h10=>?_) (fun h10=>?_)))
 ·
  try have h10p:=of_decide_eq_true h10
  refine JE rfl rfl rfl h10 (JE rfl rfl rfl h10 (JE rfl rfl rfl h10 (Jg (JN rfl h10 rfl) rfl (Jg (Je rfl) rfl (Jf (Ja (hK3 (Ep rfl (Jd fun _ hK4 _=>(Jb (Jg (JQ bz27) rfl (Jk rfl rfl (by first | exact bytesC_one _ | exact intsC_one _ | exact Term.c_one _ | simp [Value.oneCell']) (by simpa [*] using sz27) (by simp [*]) At.z (Jg (Je rfl) rfl (Jf (Ja (hK4 ?_))))))))))))))));refine Jt (JU (Jn (JV rfl (Res.agg rfl At.z (by simpa [*] using ag27)) (Res.tmp rfl) fun w hH=>?_)));replace hH:=hH.sublist (.cons _ (.cons _ (.cons _ (List.Sublist.refl _))));obtain ⟨e1,e2,e3⟩:=pr_bad (bd:=bd) (bf:=bf) (show prOk ad af bd bf=false by unfold prOk;rw [show isAlg ad af=false by simpa using h10];rfl);rw [e1,e2,e3];exact ⟨none,0,none,0,nilVs,rfl,((hH.ownFsNil 42 89).own0 2 1)⟩
 ·
  try have h10p:=of_decide_eq_false h10
  refine JK (Jl rfl (.s .z) (by simpa [*] using ag27)) rfl rfl rfl h10 (Et fn27 rfl rfl h10 rfl rfl fun w hH=>(l02Is_c hbd hbf bn8 bn9 bl9 hH).mono ?_);rintro _ w ⟨rfl,hH⟩;refine ⟨_,rfl,fun a hF=>JL hF hH ?_⟩;refine JK (Er rfl) rfl rfl rfl h10 (Jg (JM rfl h10 rfl) rfl (Jg (Je rfl) rfl (Jf (Ja (hK3 (Ek rfl (fun h6=>?_) (fun h6=>?_)))))))
  ·
   refine Jd fun _ hK5 _=>(Jb (Jg (JQ bz27) rfl (Jk rfl rfl (by first | exact bytesC_one _ | exact intsC_one _ | exact Term.c_one _ | simp [Value.oneCell']) (by simpa [*] using sz27) (by simp [*]) At.z (Jg (Je rfl) rfl (Jf (Ja (hK5 (Jt (JU (Jn (JV rfl (Res.agg rfl At.z (by simpa [*] using ag27)) (Res.tmp rfl) fun w hH=>?_)))))))))));replace hH:=hH.sublist (.cons _ (.cons _ (.cons _ (List.Sublist.refl _))));obtain ⟨e1,e2,e3⟩:=pr_bad (show prOk ad af bd bf=false by unfold prOk;rw [show isAlg bd bf=false by simpa using h6,Bool.and_false]);rw [e1,e2,e3];exact ⟨none,0,none,0,nilVs,rfl,((hH.ownFsNil 42 89).own0 2 1)⟩
  ·
   have hPa:isAlg ad af=true:=by simpa using h10
   have hPb:isAlg bd bf=true:=by simpa using h6
   have hPo:prOk ad af bd bf=true:=by unfold prOk;rw [hPa,hPb];rfl
   have hPl:=isAlg_len hPa;have hPm:=isAlg_len hPb;refine Jd fun _ hK6 _=>(Jb (Jg (Jq u27 rfl sz24 rfl) rfl (Jg (Jv rfl (.s (.s .z)) rfl pl24) rfl (Jg (Jr u24 rfl rfl) rfl (Jg (Jq u27 rfl sz24 rfl) rfl (Jg (Jv rfl (.s .z) rfl pl24) rfl (Jg (Jr u24 rfl rfl) rfl (Jg (JF rfl rfl (by first | exact nw _ (by omega) | rfl)) rfl (Jg (Eq rfl rfl) rfl (Jg (Je rfl) rfl (Jf (Ja (hK6 (Jp rfl (fun h16=>?_) (fun h16=>?_)))))))))))))))
   ·
    refine Jd fun _ hK7 _=>(Jb (Jg (JQ bz27) rfl (Jk rfl rfl (by first | exact bytesC_one _ | exact intsC_one _ | exact Term.c_one _ | simp [Value.oneCell']) (by simpa [*] using sz27) (by simp [*]) At.z (Jg (Je rfl) rfl (Jf (Ja (hK7 (Jt (JU (Jn (JV rfl (Res.agg rfl At.z (by simpa [*] using ag27)) (Res.tmp rfl) fun w hH=>?_)))))))))));replace hH:=hH.sublist (.cons _ (.cons _ (.cons _ (List.Sublist.refl _))));obtain ⟨e1,e2,e3⟩:=pr_big hPo (by omega);rw [e1,e2,e3];exact ⟨none,0,none,0,nilVs,rfl,((hH.ownFsNil 42 89).own0 2 1)⟩
   ·
    refine Jo (JJ (Ja (hK2 (Jd fun _ hK8 _=>(Jb (Jg (Jl rfl (.s (.s .z)) (by simpa [*] using ag27)) rfl (Jg (Jl rfl (.s .z) (by simpa [*] using ag27)) rfl (Jz fn44 rfl rfl fun w hH=>(l02Product_c had haf hbd hbf (by omega) hl9 (by omega) bl9 (by omega) (by omega) (by omega) hH).mono ?_))))))));rintro _ w ⟨qdo28,cdo28,qfo28,cfo28,vso28,rfl,hH⟩;refine ⟨_,rfl,fun a hF=>JL hF hH ?_⟩;refine Jk rfl rfl (by first | exact bytesC_one _ | exact intsC_one _ | exact Term.c_one _ | simp [Value.oneCell']) (by simpa [*] using sz27) (by simp [*]) (.s (.s .z)) (Jg (Je rfl) rfl (Jf (Ja (hK8 (Jt (JV rfl (Res.agg rfl (.s (.s .z)) (by simpa [*] using ag27)) (Res.tmp rfl) fun w hH=>?_))))));replace hH:=hH.sublist (.cons_cons _ (.cons_cons _ (.cons _ (.cons _ (.cons _ (List.Sublist.refl _))))));obtain ⟨e1,e2,e3⟩:=pr_yes hPo (by omega);rw [e1,e2,e3];exact ⟨_,_,_,_,_,rfl,hH⟩
theorem fn122:Fn Tryz.prog 122:=⟨_,Tryz.func122,by kernel_rfl,rfl⟩
theorem GrowI_c {B:World} {H0 H:HP} {L:List SA} {w:World} {n:Nat} (hn:n≤1048576) (hH:Hp B H0 H L w):Calls Tryz.prog 122 [.slice none 0 0,.int .i64 (n:Int)].toArray w fun e w'=>∃q c,e = .returned (.slice q ([]:List Int).length c)∧Hp B H0 H (own 2 1 q ([]:List Int).length c (intsC [])::L) w':=by
 refine JD Tryz.func122 rfl 27 rfl rfl [(0,.slice none 0 0),(1,.int .i64 (n:Int))] rfl hH ?_;clear hH;refine Jd fun _ hK1 _=>(Jb (Jg (Je rfl) rfl (Jf (Ja (hK1 (Jd fun _ hK2 _=>(Jd fun _ hK3 _=>(Jb (Jg (Jc rfl) rfl (Jg (JZ rfl rfl) rfl (Jf (Ja (hK3 (Jp rfl (fun h6=>?_) (fun h6=>?_)))))))))))))))
 ·
  exact absurd h6 (by omega)
 ·
  refine Jo (Ja (hK2 (Jd fun _ hK4 _=>(Jd fun _ hK5 _=>(Jb (Jg (Jc rfl) rfl (Jg (Jc rfl) rfl (Jg (PR.capS u24 rfl) rfl (Jg (Jc rfl) rfl (Jg (Jr u24 rfl rfl) rfl (Jg (ET rfl rfl (by first | exact nw _ (by omega) | rfl)) rfl (Jg (ET rfl rfl (by first | exact nw _ (by omega) | rfl)) rfl (Jg (Je rfl) rfl (Jf (Ja (hK5 ?_))))))))))))))));refine Jd fun _ hK6 _=>(Jb (Jg (Jc rfl) rfl (Jg (Eq rfl rfl) rfl (Jf (Ja (hK6 (Jp rfl (fun h16=>?_) (fun h16=>?_))))))))
  ·
   refine Jb (Jg (Jc rfl) rfl (Jg (Jc rfl) rfl (Jg (PR.capS u24 rfl) rfl (Jg (PR.sliceHi (i':=0) u24 sz2 rfl rfl rfl (by omega)) rfl (Jg (Jc rfl) rfl (J.appendMk (m:=n) u24 u3 ze2 sz2 by2 rfl rfl rfl (by omega) (by omega) (by omega) rfl fun gG cG=>(Jg (Jc rfl) rfl (Jg (Jr u24 rfl rfl) rfl (Jg (PR.sliceHi (i':=0) u24 sz2 rfl rfl rfl (by omega)) rfl (Jg (Je rfl) rfl (Jf (Ja (hK4 (Jd fun _ hK7 _=>(Jb ?_)))))))))))))));refine Jg (Jc rfl) rfl (Jg (Je rfl) rfl (Jf (Ja (hK7 (Jt (Jy rfl (Res.tmp rfl) fun w hH=>?_))))));replace hH:=hH.sublist (.cons_cons _ (List.Sublist.refl _));exact ⟨some ⟨gG,0,none⟩,cG,rfl,hH⟩
  ·
   refine Jo (Ja (hK4 (Jd fun _ hK8 _=>(Jb (Jg (Jc rfl) rfl (Jg (Je rfl) rfl (Jf (Ja (hK8 (Jt (Jy rfl (Res.tmp rfl) fun w hH=>?_)))))))))));replace hH:=hH.sublist (List.Sublist.refl _);exact ⟨none,0,rfl,hH.own0 2 1⟩
theorem ConcatI_c {B:World} {H0 H:HP} {L:List SA} {w:World} {qrs:Option Addr} {crs:Nat} {rs:List (List Int)} (hrs:RowsR H qrs rs) (hn:rs.length≤1048576) (ht:totI rs≤1048576) (hH:Hp B H0 H L w):Calls Tryz.prog 83 [.slice qrs rs.length crs].toArray w fun e w'=>∃q c,e = .returned (.slice q rs.flatten.length c)∧Hp B H0 H (own 2 1 q rs.flatten.length c (intsC rs.flatten)::L) w':=by
 refine JD Tryz.func83 rfl 36 rfl rfl [(0,.slice qrs rs.length crs)] rfl hH ?_;clear hH;refine Jd fun _ hK1 _=>(Jb (Jg (Je rfl) rfl (Jf (Ja (hK1 (Jd fun _ hK2 _=>(Jb (Jg (Je rfl) rfl (Jf (Ja (hK2 (Jd fun _ hK3 _=>(Jd fun _ hK4 _=>(Jb (Jg (Jc rfl) rfl (Jg (Jr u156 rfl rfl) rfl ?_))))))))))))))));refine Jg (Jc rfl) rfl (Jf (Ja (hK4 (Jx (JP (σ:=Nat) (fun (k:Nat)=>[(11,.int .i64 (k:Int)),(3,.int .i64 ((totI (rs.take k):Nat):Int))]) (fun (k:Nat)=>H) (fun (k:Nat)=>L) (fun (k:Nat)=>k≤rs.length) (fun (k:Nat)=>rs.length - k) 0 (by omega) ⟨rfl,⟨(vi (by simp [totI])),trivial⟩⟩ rfl rfl ?_)))));rintro k hk _ hAg0;have htl:k<rs.length→totI (rs.take k)+(rw_ rs k).length≤totI rs:=fun h=>totI_take_le h;have hts:k<rs.length→totI (rs.take (k+1))=totI (rs.take k)+(rw_ rs k).length:=fun h=>totI_succ h;refine Jd fun _ hK5 _=>(Jb (Jg (JZ rfl rfl) rfl (Jf (Ja (hK5 (Jd fun _ hK6 _=>(Jp rfl (fun hc12=>?_) (fun hc12=>?_))))))))
 ·
  refine Jo (Ja (hK6 (Jd fun _ hK7 _=>(Jx (Jd fun _ hK8 _=>(Jb (Jg (Eg u156 sz24 rfl rfl rfl (by omega) hrs.sm) rfl ?_)))))));obtain ⟨qe14,ce14,he14,le14,Fe14⟩:=hrs k (by omega);refine Jg (JX rfl he14 pl24) rfl (Jg (Je rfl) rfl (Jf (Ja (hK8 (Jd fun _ hK9 _=>(Jb (Jg (Jc rfl) rfl (Jg (Jc rfl) rfl (Jg (Jr u24 rfl rfl) rfl (Jg (JF rfl rfl (by first | exact nw _ (by omega) | rfl)) rfl (Jg (Je rfl) rfl (Jf (Ja (hK9 (Jd fun _ hK10 _=>(Jb ?_))))))))))))))));refine Jg (Jc rfl) rfl (Jg (JZ rfl rfl) rfl (Jf (Ja (hK10 (Jp rfl (fun h20=>?_) (fun h20=>?_))))))
  ·
   exact absurd h20 (by omega)
  ·
   refine Jo (JJ (Ja (hK7 (Jb (Jg (JF rfl rfl (by first | exact nw _ (by omega) | rfl)) rfl (Jg (Jc rfl) rfl (Jf (Ja ?_))))))));exact hAg0 (k+1) (by omega) (by omega) 15 rfl rfl ⟨rfl,⟨(vi (by rw [hts (by omega)];omega)),trivial⟩⟩ rfl rfl
 ·
  refine JR (Jw (Jw (JY (Ja (hK3 (Jd fun _ hK11 _=>(Jb (Jg (Jc (by rw [show k=rs.length by omega,List.take_length];rfl)) rfl (Jz fn122 rfl rfl fun w hH=>(GrowI_c (n:=totI rs) (by omega) hH).mono ?_)))))))));rintro _ w ⟨qo24,co24,rfl,hH⟩;refine ⟨_,rfl,fun a hF=>JL hF hH ?_⟩;refine Jg (Je rfl) rfl (Jf (Ja (hK11 (Jd fun _ hK12 _=>(Jd fun _ hK13 _=>(Jb (Jg (Jc rfl) rfl (Jg (Jr u156 rfl rfl) rfl (Jg (Jc rfl) rfl (Jf (Ja (hK13 (Jx (JP (σ:=Option Addr × Nat × Nat) (fun ⟨q,c,k⟩=>[(27,.int .i64 (k:Int)),(6,.slice q (flK rs k).length c)]) (fun ⟨q,c,k⟩=>H) (fun ⟨q,c,k⟩=>own 2 1 q (flK rs k).length c (intsC (flK rs k))::L) (fun ⟨q,c,k⟩=>k≤rs.length) (fun ⟨q,c,k⟩=>rs.length - k) (qo24,co24,0) (by show 0≤rs.length;omega) ⟨rfl,⟨rfl,trivial⟩⟩ rfl rfl ?_))))))))))))));rintro ⟨q,c,k⟩ hk2 _ hAg1;have hfl:=flK_len rs k;have htl:k<rs.length→totI (rs.take k)+(rw_ rs k).length≤totI rs:=fun h=>totI_take_le h;refine Jd fun _ hK14 _=>(Jb (Jg (JZ rfl rfl) rfl (Jf (Ja (hK14 (Jd fun _ hK15 _=>(Jp rfl (fun hc28=>?_) (fun hc28=>?_))))))))
  ·
   refine Jo (Ja (hK15 (Jd fun _ hK16 _=>(Jx (Jd fun _ hK17 _=>(Jb (Jg (Eg u156 sz24 rfl rfl rfl (by omega) hrs.sm) rfl ?_)))))));obtain ⟨qe30,ce30,he30,le30,Fe30⟩:=hrs k (by omega);refine Jg (JX rfl he30 pl24) rfl (Jg (Je rfl) rfl (Jf (Ja (hK17 (Jb (Jg (Jc rfl) rfl (Jg (Jc rfl) rfl (J.appendHI u24 ze2 sz2 by2 rfl rfl Fe30 (by omega) At.z (fun _ _=>At.z) rfl fun qo33 co33=>(Jg (Je rfl) rfl (Jf (JJ (Ja (hK16 (Jb (Jg (JF rfl rfl (by first | exact nw _ (by omega) | rfl)) rfl (Jg (Jc rfl) rfl ?_))))))))))))))));refine Jf (Ja ?_);exact hAg1 (qo33,co33,k+1) (by show k+1≤rs.length;omega) (by show rs.length - (k+1)<rs.length - k;omega) 12 rfl rfl ⟨rfl,⟨(by dsimp only;rw [flK_succ (by omega)];rfl),trivial⟩⟩ rfl (by dsimp only;rw [flK_succ (by omega)])
  ·
   refine JR (Jw (Jw (JY (Ja (hK12 (Jd fun _ hK18 _=>(Jb (Jg (Jc rfl) rfl (Jg (Je rfl) rfl (Jf (Ja (hK18 (Jt (Jy rfl (Res.tmp rfl) fun w hH=>?_))))))))))))));replace hH:=hH.sublist (.cons_cons _ (List.Sublist.refl _))
   obtain rfl:k=rs.length:=by omega
   rw [flK_end] at hH ⊢;exact ⟨_,_,rfl,hH⟩
theorem ze24:Zero Tryz.prog 24 [.slice none 0 0]:=by unfold Zero;kernel_rfl
theorem fn83:Fn Tryz.prog 83:=⟨_,Tryz.func83,by kernel_rfl,rfl⟩
theorem fn84:Fn Tryz.prog 84:=⟨_,Tryz.func84,by kernel_rfl,rfl⟩
def poD (ad bd:List Int):List Int:=if prLe ad bd then ad++bd else []
def poF (ad:List Int) (af:List (List Term)) (bd:List Int) (bf:List (List Term)):List (List Term):=if prLe ad bd then af++cpA ad.length bf else []
def poC (ad bd:List Int):Int:=if prLe ad bd then 0 else 3
theorem po_big {ad:List Int} {af:List (List Term)} {bd:List Int} {bf:List (List Term)} (h2 : ¬ad.length+bd.length≤8):poD ad bd=[]∧poF ad af bd bf=[]∧poC ad bd=3:=by
 unfold poD poF poC;rw [show prLe ad bd=false from decide_eq_false h2];exact ⟨rfl,rfl,rfl⟩
theorem po_yes {ad:List Int} {af:List (List Term)} {bd:List Int} {bf:List (List Term)} (h2:ad.length+bd.length≤8):poD ad bd=ad++bd∧poF ad af bd bf=af++cpA ad.length bf∧poC ad bd=0:=by
 unfold poD poF poC;rw [show prLe ad bd=true from decide_eq_true h2];exact ⟨rfl,rfl,rfl⟩
theorem po_pr {ad:List Int} {af:List (List Term)} {bd:List Int} {bf:List (List Term)} (h:prOk ad af bd bf=true):prD ad af bd bf=poD ad bd∧prF ad af bd bf=poF ad af bd bf∧prC ad af bd bf=poC ad bd:=by
 unfold prD prF prC poD poF poC;rw [h];exact ⟨rfl,rfl,rfl⟩
theorem ConcatI_2 {B:World} {H0 H:HP} {L:List SA} {w:World} {q:Option Addr} {c:Nat} {xs ys:List Int} (h:RowsR H q [xs,ys]) (hn:xs.length+ys.length≤1000000) (hH:Hp B H0 H L w):Calls Tryz.prog 83 [.slice q 2 c].toArray w fun e w'=>∃q c,e = .returned (.slice q (xs++ys).length c)∧Hp B H0 H (own 2 1 q (xs++ys).length c (intsC (xs++ys))::L) w':=by
 have h1:=ConcatI_c (crs:=c) (rs:=[xs,ys]) h (by simp) (by simp [totI];omega) hH
 have e:[xs,ys].flatten=xs++ys:=by simp
 rw [e] at h1;exact h1
theorem productOf_c {B:World} {H0 H:HP} {L:List SA} {w:World} {ba:Nat} {qad qaf:Option Addr} {cad caf:Nat} {ad:List Int} {af:List (List Term)} {bb:Nat} {qbd qbf:Option Addr} {cbd cbf:Nat} {bd:List Int} {bf:List (List Term)} (pad:CellAt H ba 0 (.slice qad ad.length cad)) (paf:CellAt H ba 1 (.slice qaf af.length caf)) (had:Ints H qad ad) (haf:Forms H qaf af) (pbd:CellAt H bb 0 (.slice qbd bd.length cbd)) (pbf:CellAt H bb 1 (.slice qbf bf.length cbf)) (hbd:Ints H qbd bd) (hbf:Forms H qbf bf) (hal:af.length=ad.length) (hbl:bf.length=bd.length) (ha8:ad.length≤8) (hb8:bd.length≤8) (hl : ∀i,i<af.length→(fm af i).length≤1048576) (bl : ∀i,i<bf.length→(fm bf i).length≤1048576) (hca:ad.length≤cad) (hcb:bd.length≤cbd) (hH:Hp B H0 H L w):Calls Tryz.prog 43 [.pointer (some ⟨ba,0,none⟩),.pointer (some ⟨bb,0,none⟩)].toArray w fun e w'=>∃qd cd qf cf vs,e = .returned (.tuple #[.agg [.slice qd (poD ad bd).length cd,.slice qf (poF ad af bd bf).length cf].toArray,.int .i64 (poC ad bd)])∧Hp B H0 H (own 2 1 qd (poD ad bd).length cd (intsC (poD ad bd))::ownFs 42 89 qf cf vs (poF ad af bd bf)::L) w':=by
 refine JD Tryz.func43 rfl 73 rfl rfl [(0,.pointer (some ⟨ba,0,none⟩)),(1,.pointer (some ⟨bb,0,none⟩))] rfl hH ?_;clear hH;refine Jd fun _ hK1 _=>(Jb (JG ze27 rfl fun g4=>(Jg (Je rfl) rfl (Jf (Ja (hK1 (Jd fun _ hK2 _=>(Jb (Jg (Jc rfl) rfl (Jg (Eh rfl) rfl (Jg (Jq u27 rfl sz24 rfl) rfl (Jg (JX (q:=some ⟨ba,0,none⟩) (k:=0) rfl pad pl24) rfl (Jg (Jr u24 rfl rfl) rfl (Jg (Je rfl) rfl (Jf ?_)))))))))))))));refine Ja (hK2 (Jd fun _ hK3 _=>(Jd fun _ hK4 _=>(Jb (Jg (Jc rfl) rfl (Jg (Jc rfl) rfl (Jg (Eh rfl) rfl (Jg (Jq u27 rfl sz24 rfl) rfl (Jg (JX (q:=some ⟨bb,0,none⟩) (k:=0) rfl pbd pl24) rfl (Jg (Jr u24 rfl rfl) rfl (Jg (JF rfl rfl (by first | exact nw _ (by omega) | rfl)) rfl (Jg (Eq rfl rfl) rfl (Jf (Ja (hK4 (Jp rfl (fun h24=>?_) (fun h24=>?_)))))))))))))))))
 ·
  refine Jd fun _ hK5 _=>(Jb (Jg (JQ bz27) rfl (Jk rfl rfl (by first | exact bytesC_one _ | exact intsC_one _ | exact Term.c_one _ | simp [Value.oneCell']) (by simpa [*] using sz27) (by simp [*]) At.z (Jg (Je rfl) rfl (Jf (Ja (hK5 (Jt (Jn (JV rfl (Res.agg rfl At.z (by simpa [*] using ag27)) (Res.tmp rfl) fun w hH=>?_))))))))));replace hH:=hH.sublist (.cons _ (List.Sublist.refl _));obtain ⟨e1,e2,e3⟩:=po_big (ad:=ad) (bd:=bd) (af:=af) (bf:=bf) (by omega);rw [e1,e2,e3];exact ⟨none,0,none,0,nilVs,rfl,((hH.ownFsNil 42 89).own0 2 1)⟩
 ·
  refine Jo (Ja (hK3 (Jd fun _ hK6 _=>(Ed (Rs:=[_]) 13 [[], [0], [0,1], [0,1,2], [], [4], [4,5], [4,5,6], [0,1,2,3,4,5,6,7], [0,1,2,3,4,5,6,7,8], [0,1,2,3,4,5,6,7,8,9], [], [0,1,2,3,4,5,6,7,8,9,10,11]] [[], [], [], [], [], [], [], [], [], [8], [], [], []] [[], [], [], [], [], [], [], [], [], [], [], [], [11]] rfl rfl (by kernel_rfl) ?_))));apply Jm 1 rfl
  iterate 3 focus (intros;(conv=>lhs;simp only [Jh,Js,JO,Ju,JI,eq_self,reduceEqDiff,reduceIte,reduceSub,reduceAdd,JxA,JxB]);all_goals rfl)
  ·
   intro gh X K zq zc zq2 zc2 zb zv hK;refine Jg (Jc rfl) rfl (Jj ?_);exact hK zq zc zq2 zc2 zb zv
  ·
   intro gh gh' h
   rfl
  apply Jm 2 rfl
  iterate 3 focus (intros;(conv=>lhs;simp only [Jh,Js,JO,Ju,JI,eq_self,reduceEqDiff,reduceIte,reduceSub,reduceAdd,JxA,JxB]);all_goals rfl)
  ·
   intro gh X K zq zc zq2 zc2 zb zv hK;refine Jg (Eh rfl) rfl (Jj ?_);exact hK zq zc zq2 zc2 zb zv
  ·
   intro gh gh' h
   rfl
  apply Jm 3 rfl
  iterate 3 focus (intros;(conv=>lhs;simp only [Jh,Js,JO,Ju,JI,eq_self,reduceEqDiff,reduceIte,reduceSub,reduceAdd,JxA,JxB]);all_goals rfl)
  ·
   intro gh X K zq zc zq2 zc2 zb zv hK;refine Jg (Jq u27 rfl sz24 rfl) rfl (Jj ?_);exact hK zq zc zq2 zc2 zb zv
  ·
   intro gh gh' h
   rfl
  apply Jm 4 rfl
  iterate 3 focus (intros;(conv=>lhs;simp only [Jh,Js,JO,Ju,JI,eq_self,reduceEqDiff,reduceIte,reduceSub,reduceAdd,JxA,JxB]);all_goals rfl)
  ·
   intro gh X K zq zc zq2 zc2 zb zv hK;refine Jg (JX (q:=some ⟨ba,0,none⟩) (k:=0) rfl pad pl24) rfl (Jj ?_);exact hK zq zc zq2 zc2 zb zv
  ·
   intro gh gh' h
   rfl
  apply Jm 5 rfl
  iterate 3 focus (intros;(conv=>lhs;simp only [Jh,Js,JO,Ju,JI,eq_self,reduceEqDiff,reduceIte,reduceSub,reduceAdd,JxA,JxB]);all_goals rfl)
  ·
   intro gh X K zq zc zq2 zc2 zb zv hK;refine Jg (Jc rfl) rfl (Jj ?_);exact hK zq zc zq2 zc2 zb zv
  ·
   intro gh gh' h
   rfl
  apply Jm 6 rfl
  iterate 3 focus (intros;(conv=>lhs;simp only [Jh,Js,JO,Ju,JI,eq_self,reduceEqDiff,reduceIte,reduceSub,reduceAdd,JxA,JxB]);all_goals rfl)
  ·
   intro gh X K zq zc zq2 zc2 zb zv hK;refine Jg (Eh rfl) rfl (Jj ?_);exact hK zq zc zq2 zc2 zb zv
  ·
   intro gh gh' h
   rfl
  apply Jm 7 rfl
  iterate 3 focus (intros;(conv=>lhs;simp only [Jh,Js,JO,Ju,JI,eq_self,reduceEqDiff,reduceIte,reduceSub,reduceAdd,JxA,JxB]);all_goals rfl)
  ·
   intro gh X K zq zc zq2 zc2 zb zv hK;refine Jg (Jq u27 rfl sz24 rfl) rfl (Jj ?_);exact hK zq zc zq2 zc2 zb zv
  ·
   intro gh gh' h
   rfl
  apply Jm 8 rfl
  iterate 3 focus (intros;(conv=>lhs;simp only [Jh,Js,JO,Ju,JI,eq_self,reduceEqDiff,reduceIte,reduceSub,reduceAdd,JxA,JxB]);all_goals rfl)
  ·
   intro gh X K zq zc zq2 zc2 zb zv hK;refine Jg (JX (q:=some ⟨bb,0,none⟩) (k:=0) rfl pbd pl24) rfl (Jj ?_);exact hK zq zc zq2 zc2 zb zv
  ·
   intro gh gh' h
   rfl
  apply Eb 9 rfl
  iterate 3 focus (intros;(conv=>lhs;simp only [Jh,Js,JO,Ju,JI,eq_self,reduceEqDiff,reduceIte,reduceSub,reduceAdd,JxA,JxB]);all_goals rfl)
  ·
   intro gh X K zq zc zq2 zc2 zb zv hK;refine J.lit2 u156 ze24 sz24 rfl rfl rfl rfl rfl fun g34=>(Jj ?_);exact hK zq zc zq2 zc2 g34 zv
  ·
   intro gh gh' h;refine ⟨?_,?_⟩ <;> rfl
  apply Eb 10 rfl
  iterate 3 focus (intros;(conv=>lhs;simp only [Jh,Js,JO,Ju,JI,eq_self,reduceEqDiff,reduceIte,reduceSub,reduceAdd,JxA,JxB]);all_goals rfl)
  ·
   intro gh X K zq zc zq2 zc2 zb zv hK;refine Jz fn83 rfl rfl fun w hH=>hH.lend .z fun Hl1 hle1 hA1 hB1 hH=>(ConcatI_2 (xs:=ad) (ys:=bd) (obj_rows2 hA1 (had.le hle1) (hbd.le hle1) hca hcb) (by omega) hH).mono ?_;rintro _ w ⟨qo35,co35,rfl,hH⟩;replace hH:=hB1 _ _ hH;refine ⟨_,rfl,fun a hF=>JL hF hH ?_⟩;refine Ji .z (Ji (.s .z) (Jj ?_));exact hK qo35 co35 zq2 zc2 zb zv
  ·
   intro gh gh' h;refine ⟨?_,?_⟩ <;> (first | simp only [h 8 rfl] | rfl)
  apply GJ.st2 11 rfl
  iterate 3 focus (intros;(conv=>lhs;simp only [Jh,Js,JO,Ju,JI,eq_self,reduceEqDiff,reduceIte,reduceSub,reduceAdd,JxA,JxB]);all_goals rfl)
  ·
   intro gh X K zq zc zq2 zc2 zb zv hK;refine EG 42 1 (J.ts0 89 (Jg (PR.build1 rfl (fun w=>bd27_0 _ _ _ w)) rfl (Jj ?_)));exact hK zq zc zq2 zc2 zb zv
  ·
   intro gh gh' h;refine ⟨?_,?_,?_⟩ <;> (first | simp only [h 8 rfl,h 9 rfl] | rfl)
  apply Eb 12 rfl
  iterate 3 focus (intros;(conv=>lhs;simp only [Jh,Js,JO,Ju,JI,eq_self,reduceEqDiff,reduceIte,reduceSub,reduceAdd,JxA,JxB]);all_goals rfl)
  ·
   intro gh X K zq zc zq2 zc2 zb zv hK;refine JG ze27 rfl fun g7=>(Jj ?_);exact hK zq zc zq2 zc2 g7 zv
  ·
   intro gh gh' h;refine ⟨?_,?_⟩ <;> rfl
  apply Es 13 rfl
  iterate 3 focus (intros;(conv=>lhs;simp only [Jh,Js,JO,Ju,JI,eq_self,reduceEqDiff,reduceIte,reduceSub,reduceAdd,JxA,JxB]);all_goals rfl)
  ·
   intro gh X K hK;refine Jk rfl rfl (by first | exact bytesC_one _ | exact intsC_one _ | exact Term.c_one _ | simp [Value.oneCell']) (by simpa [*] using sz27) (by simp [*]) At.z (Jj ?_);exact hK
  ·
   intro gh gh' h
   first | simp only [h 8 rfl,h 9 rfl,h 11 rfl] | rfl
  apply Ec [0,1,2,3,4,5,6,7,8,9,10,11,12] [0,1,2,3,4,5,6,7,8,9,10,12,13] foll0 rfl rfl rfl (by rfl)
  iterate 2 focus (intros;(conv=>lhs;simp only [Jh,Js,JO,Ju,JI,eq_self,reduceEqDiff,reduceIte,reduceSub,reduceAdd,JxA,JxB]);all_goals rfl)
  intro gh;generalize (gh 8).b=g34;generalize (gh 9).c=co35;generalize (gh 9).q=qo35;generalize (gh 11).b=g7;clear gh;refine Ja (hK6 (Jd fun _ hK7 _=>(Jd fun _ hK8 _=>(Jb (Jg (Jc rfl) rfl (Jg (Eh rfl) rfl (Jg (Jq u27 rfl sz25 rfl) rfl (Jg (JX (q:=some ⟨ba,0,none⟩) (k:=1) rfl paf pl25) rfl (Jg (Jr u25 rfl rfl) rfl (Jg (Jc rfl) rfl (Jf (Ja (hK8 (Jx (JP (σ:=Option Addr × Nat × Vs × Nat) (fun ⟨q,c,vs,k⟩=>[(42,.int .i64 (k:Int))]) (fun ⟨q,c,vs,k⟩=>H) (fun ⟨q,c,vs,k⟩=>obj g34 (.cells [.slice qad ad.length cad,.slice qbd bd.length cbd].toArray 24 (0,0))::own 2 1 qo35 (ad++bd).length co35 (intsC (ad++bd))::ownTs 89 vs (af.take k)::own 42 1 q k c (slicesC vs (af.take k))::obj g7 (.cells [.slice qo35 (ad++bd).length co35,.slice q k c].toArray 27 (0,0))::obj g4 (.cells [.slice none 0 0,.slice none 0 0].toArray 27 (0,0))::L) (fun ⟨q,c,vs,k⟩=>k≤af.length) (fun ⟨q,c,vs,k⟩=>af.length - k) (none,0,nilVs,0) (by show 0≤af.length;omega) ⟨rfl,trivial⟩ rfl rfl ?_)))))))))))))));rintro ⟨q,c,vs,k⟩ hk _ hAg0;have hlk:=hl k;refine Jd fun _ hK9 _=>(Jb (Jg (JZ rfl rfl) rfl (Jf (Ja (hK9 (Jd fun _ hK10 _=>(Jp rfl (fun hc43=>?_) (fun hc43=>?_))))))))
  ·
   refine Jo (Ja (hK10 (Jd fun _ hK11 _=>(Jx (Jd fun _ hK12 _=>(Jb (Jg (Eg u25 sz42 rfl rfl rfl (by omega) haf.sm) rfl ?_)))))));obtain ⟨qe45,ce45,he45,le45,Fe45⟩:=haf k (by omega);refine Jg (JT (cs:=[_]) rfl (one_cell he45) (haf.sm (i:=k) (by omega)) ag42) rfl (JG ze42 rfl fun g9=>(Jk rfl rfl (by first | exact bytesC_one _ | exact intsC_one _ | exact Term.c_one _ | simp [Value.oneCell']) (by simpa [*] using sz42) (by simp [*]) At.z (Jf (Ja (hK12 (Ed (Rs:=[_,_,_,_,_,_,_]) 8 [[], [0], [], [2], [2,3], [0,1,2,3,4], [0,1,2,3,4,5], [0,1,2,3,4,5,6]] [[], [13], [8], [], [], [4], [], []] [[], [], [], [], [], [12], [], [13]] rfl rfl (by kernel_rfl) ?_))))));apply Jm 1 rfl
   iterate 3 focus (intros;(conv=>lhs;simp only [Jh,Js,JO,Ju,JI,eq_self,reduceEqDiff,reduceIte,reduceSub,reduceAdd,JxA,JxB]);all_goals rfl)
   ·
    intro gh X K zq zc zq2 zc2 zb zv hK;refine Jg (Jq u27 rfl sz25 rfl) rfl (Jj ?_);exact hK zq zc zq2 zc2 zb zv
   ·
    intro gh gh' h
    rfl
   apply Jm 2 rfl
   iterate 3 focus (intros;(conv=>lhs;simp only [Jh,Js,JO,Ju,JI,eq_self,reduceEqDiff,reduceIte,reduceSub,reduceAdd,JxA,JxB]);all_goals rfl)
   ·
    intro gh X K zq zc zq2 zc2 zb zv hK;refine Jg (Jv rfl At.z rfl pl25) rfl (Jj ?_);exact hK zq zc zq2 zc2 zb zv
   ·
    intro gh gh' h
    rfl
   apply Jm 3 rfl
   iterate 3 focus (intros;(conv=>lhs;simp only [Jh,Js,JO,Ju,JI,eq_self,reduceEqDiff,reduceIte,reduceSub,reduceAdd,JxA,JxB]);all_goals rfl)
   ·
    intro gh X K zq zc zq2 zc2 zb zv hK;refine Jg (Jl rfl At.z (by simpa [*] using ag42)) rfl (Jj ?_);exact hK zq zc zq2 zc2 zb zv
   ·
    intro gh gh' h
    rfl
   apply Eb 4 rfl
   iterate 3 focus (intros;(conv=>lhs;simp only [Jh,Js,JO,Ju,JI,eq_self,reduceEqDiff,reduceIte,reduceSub,reduceAdd,JxA,JxB]);all_goals rfl)
   ·
    intro gh X K zq zc zq2 zc2 zb zv hK;refine Jz fn84 rfl rfl fun w hH=>(shifted_0 Fe45 (hlk (by omega)) hH).mono ?_;rintro _ w ⟨qo49,co49,rfl,hH⟩;refine ⟨_,rfl,fun a hF=>JL hF hH ?_⟩;refine Jj ?_;exact hK qo49 co49 zq2 zc2 zb zv
   ·
    intro gh gh' h;refine ⟨?_,?_⟩ <;> rfl
   apply Eb 5 rfl
   iterate 3 focus (intros;(conv=>lhs;simp only [Jh,Js,JO,Ju,JI,eq_self,reduceEqDiff,reduceIte,reduceSub,reduceAdd,JxA,JxB]);all_goals rfl)
   ·
    intro gh X K zq zc zq2 zc2 zb zv hK;refine EX (EI u25 ze42 sz42 rfl rfl) rfl fun qo50 co50=>(Jj ?_);exact hK qo50 co50 zq2 zc2 zb zv
   ·
    intro gh gh' h;refine ⟨?_,?_⟩ <;> (first | simp only [h 3 rfl] | rfl)
   apply Eb 6 rfl
   iterate 3 focus (intros;(conv=>lhs;simp only [Jh,Js,JO,Ju,JI,eq_self,reduceEqDiff,reduceIte,reduceSub,reduceAdd,JxA,JxB]);all_goals rfl)
   ·
    intro gh X K zq zc zq2 zc2 zb zv hK;refine EK u25 ze42 sz42 by42 rfl rfl rfl rfl (by omega) (.s .z) At.z (fun _ _=>At.z) rfl fun qo51 co51=>(Ji .z (Ji (.s .z) (Jj ?_)));exact hK qo51 co51 zq2 zc2 zb zv
   ·
    intro gh gh' h;refine ⟨?_,?_⟩ <;> (first | simp only [h 3 rfl,h 4 rfl] | rfl)
   apply Jm 7 rfl
   iterate 3 focus (intros;(conv=>lhs;simp only [Jh,Js,JO,Ju,JI,eq_self,reduceEqDiff,reduceIte,reduceSub,reduceAdd,JxA,JxB]);all_goals rfl)
   ·
    intro gh X K zq zc zq2 zc2 zb zv hK;refine Jg (Jq u27 rfl sz25 rfl) rfl (Jj ?_);exact hK zq zc zq2 zc2 zb zv
   ·
    intro gh gh' h
    first | simp only [h 3 rfl,h 4 rfl,h 5 rfl] | rfl
   apply Es 8 rfl
   iterate 3 focus (intros;(conv=>lhs;simp only [Jh,Js,JO,Ju,JI,eq_self,reduceEqDiff,reduceIte,reduceSub,reduceAdd,JxA,JxB]);all_goals rfl)
   ·
    intro gh X K hK;refine Ez rfl rfl rfl rfl sz25 (by simp [*]) At.z (Jj ?_);exact hK
   ·
    intro gh gh' h
    first | simp only [h 3 rfl,h 4 rfl,h 5 rfl] | rfl
   apply Ec [0,1,2,3,4,5,6,7] [0,1,2,3,4,5,6,7,8,9,10,11,14] foll0 rfl rfl rfl (by rfl)
   iterate 2 focus (intros;(conv=>lhs;simp only [Jh,Js,JO,Ju,JI,eq_self,reduceEqDiff,reduceIte,reduceSub,reduceAdd,JxA,JxB]);all_goals rfl)
   intro gh;generalize (gh 3).c=co49;generalize (gh 3).q=qo49;generalize (gh 4).c=co50;generalize (gh 4).q=qo50;generalize (gh 5).c=co51;generalize (gh 5).q=qo51;clear gh;refine JJ (Ja (hK11 (Jb (Jg (JF rfl rfl (by first | exact nw _ (by omega) | rfl)) rfl (Jg (Jc rfl) rfl (Jf (Ja (Ji (.s (.s (.s (.s (.s (.s (.s (.s .z)))))))) (Ji (.s (.s (.s (.s (.s (.s (.s .z))))))) (Ji (.s (.s (.s (.s (.s (.s (.s .z))))))) (Ji (.s (.s (.s (.s (.s (.s (.s .z))))))) (Ji (.s (.s (.s (.s (.s (.s (.s .z))))))) (Ji (.s (.s (.s (.s (.s (.s (.s .z))))))) (Ji (.s (.s (.s (.s (.s (.s (.s .z))))))) (Ji (.s (.s (.s (.s (.s (.s (.s (.s .z)))))))) ?_)))))))))))))));refine Ji (.s (.s (.s (.s (.s (.s (.s (.s .z)))))))) (EJ.fsSnoc (fs:=af.take k) (List.length_take_of_le (by omega)) rfl (JC (.s .z) (JC (.s (.s (.s .z))) (Ji (.s (.s (.s (.s (.s .z))))) (Ji (.s (.s (.s .z))) (Ji (.s (.s (.s .z))) (Ji (.s (.s (.s .z))) (Ji (.s (.s (.s (.s (.s .z))))) (Ji (.s (.s (.s (.s (.s .z))))) ?_)))))))));exact hAg0 (qo51,co51,setV vs k (qo49,co49),k+1) (by show k+1≤af.length;omega) (by show af.length - (k+1)<af.length - k;omega) 14 rfl rfl ⟨rfl,trivial⟩ rfl (by dsimp only;rw [take_fm (by omega),slicesC_set (List.length_take_of_le (by omega))];rfl)
  ·
   refine JR (Jw (Jw (JY (Ja (hK7 (Jd fun _ hK13 _=>(Jd fun _ hK14 _=>(Jb (Jg (Jc rfl) rfl (Jg (Eh rfl) rfl (Jg (Jq u27 rfl sz25 rfl) rfl (Jg (JX (q:=some ⟨bb,0,none⟩) (k:=1) rfl pbf pl25) rfl (Jg (Jr u25 rfl rfl) rfl (Jg (Jc rfl) rfl (Jf ?_)))))))))))))));refine Ja (hK14 (Jx (JP (σ:=Option Addr × Nat × Vs × Nat) (fun ⟨q,c,vs,i⟩=>[(59,.int .i64 (i:Int))]) (fun ⟨q,c,vs,i⟩=>H) (fun ⟨q,c,vs,i⟩=>obj g34 (.cells [.slice qad ad.length cad,.slice qbd bd.length cbd].toArray 24 (0,0))::own 2 1 qo35 (ad++bd).length co35 (intsC (ad++bd))::ownTs 89 vs (af++cpK ad.length bf i)::own 42 1 q (af.length+i) c (slicesC vs (af++cpK ad.length bf i))::obj g7 (.cells [.slice qo35 (ad++bd).length co35,.slice q (af.length+i) c].toArray 27 (0,0))::obj g4 (.cells [.slice none 0 0,.slice none 0 0].toArray 27 (0,0))::L) (fun ⟨q,c,vs,i⟩=>i≤bf.length) (fun ⟨q,c,vs,i⟩=>bf.length - i) (q,c,vs,0) (by show 0≤bf.length;omega) ⟨rfl,trivial⟩ rfl (by dsimp only;rw [show k=af.length by omega];simp [cpK]) ?_)));rintro ⟨q,c,vs,i⟩ hi _ hAg1;have blk:=bl i;refine Jd fun _ hK15 _=>(Jb (Jg (JZ rfl rfl) rfl (Jf (Ja (hK15 (Jd fun _ hK16 _=>(Jp rfl (fun hc60=>?_) (fun hc60=>?_))))))))
   ·
    refine Jo (Ja (hK16 (Jd fun _ hK17 _=>(Jx (Jd fun _ hK18 _=>(Jb (Jg (Eg u25 sz42 rfl rfl rfl (by omega) hbf.sm) rfl ?_)))))));obtain ⟨qe62,ce62,he62,le62,Fe62⟩:=hbf i (by omega);refine Jg (JT (cs:=[_]) rfl (one_cell he62) (hbf.sm (i:=i) (by omega)) ag42) rfl (JG ze42 rfl fun g11=>(Jk rfl rfl (by first | exact bytesC_one _ | exact intsC_one _ | exact Term.c_one _ | simp [Value.oneCell']) (by simpa [*] using sz42) (by simp [*]) At.z (Jf (Ja (hK18 (Ed (Rs:=[_,_,_,_,_,_,_]) 9 [[], [0], [], [], [2,3], [2,3,4], [0,1,2,3,4,5], [0,1,2,3,4,5,6], [0,1,2,3,4,5,6,7]] [[], [14], [9], [], [], [], [5], [], []] [[], [], [], [], [], [], [13], [], [14]] rfl rfl (by kernel_rfl) ?_))))));apply Jm 1 rfl
    iterate 3 focus (intros;(conv=>lhs;simp only [Jh,Js,JO,Ju,JI,eq_self,reduceEqDiff,reduceIte,reduceSub,reduceAdd,JxA,JxB]);all_goals rfl)
    ·
     intro gh X K zq zc zq2 zc2 zb zv hK;refine Jg (Jq u27 rfl sz25 rfl) rfl (Jj ?_);exact hK zq zc zq2 zc2 zb zv
    ·
     intro gh gh' h
     rfl
    apply Jm 2 rfl
    iterate 3 focus (intros;(conv=>lhs;simp only [Jh,Js,JO,Ju,JI,eq_self,reduceEqDiff,reduceIte,reduceSub,reduceAdd,JxA,JxB]);all_goals rfl)
    ·
     intro gh X K zq zc zq2 zc2 zb zv hK;refine Jg (Jv rfl At.z rfl pl25) rfl (Jj ?_);exact hK zq zc zq2 zc2 zb zv
    ·
     intro gh gh' h
     rfl
    apply Jm 3 rfl
    iterate 3 focus (intros;(conv=>lhs;simp only [Jh,Js,JO,Ju,JI,eq_self,reduceEqDiff,reduceIte,reduceSub,reduceAdd,JxA,JxB]);all_goals rfl)
    ·
     intro gh X K zq zc zq2 zc2 zb zv hK;refine Jg (Jl rfl At.z (by simpa [*] using ag42)) rfl (Jj ?_);exact hK zq zc zq2 zc2 zb zv
    ·
     intro gh gh' h
     rfl
    apply Jm 4 rfl
    iterate 3 focus (intros;(conv=>lhs;simp only [Jh,Js,JO,Ju,JI,eq_self,reduceEqDiff,reduceIte,reduceSub,reduceAdd,JxA,JxB]);all_goals rfl)
    ·
     intro gh X K zq zc zq2 zc2 zb zv hK;refine Jg (Jc rfl) rfl (Jj ?_);exact hK zq zc zq2 zc2 zb zv
    ·
     intro gh gh' h
     rfl
    apply Eb 5 rfl
    iterate 3 focus (intros;(conv=>lhs;simp only [Jh,Js,JO,Ju,JI,eq_self,reduceEqDiff,reduceIte,reduceSub,reduceAdd,JxA,JxB]);all_goals rfl)
    ·
     intro gh X K zq zc zq2 zc2 zb zv hK;refine Jz fn84 rfl rfl fun w hH=>(shifted_c (b:=ad.length) Fe62 (by omega) (blk (by omega)) hH).mono ?_;rintro _ w ⟨qo67,co67,rfl,hH⟩;refine ⟨_,rfl,fun a hF=>JL hF hH ?_⟩;refine Jj ?_;exact hK qo67 co67 zq2 zc2 zb zv
    ·
     intro gh gh' h;refine ⟨?_,?_⟩ <;> rfl
    apply Eb 6 rfl
    iterate 3 focus (intros;(conv=>lhs;simp only [Jh,Js,JO,Ju,JI,eq_self,reduceEqDiff,reduceIte,reduceSub,reduceAdd,JxA,JxB]);all_goals rfl)
    ·
     intro gh X K zq zc zq2 zc2 zb zv hK;refine EX (EI u25 ze42 sz42 rfl rfl) rfl fun qo68 co68=>(Jj ?_);exact hK qo68 co68 zq2 zc2 zb zv
    ·
     intro gh gh' h;refine ⟨?_,?_⟩ <;> (first | simp only [h 4 rfl] | rfl)
    apply Eb 7 rfl
    iterate 3 focus (intros;(conv=>lhs;simp only [Jh,Js,JO,Ju,JI,eq_self,reduceEqDiff,reduceIte,reduceSub,reduceAdd,JxA,JxB]);all_goals rfl)
    ·
     intro gh X K zq zc zq2 zc2 zb zv hK;refine EK u25 ze42 sz42 by42 rfl rfl rfl rfl (by omega) (.s .z) At.z (fun _ _=>At.z) rfl fun qo69 co69=>(Ji .z (Ji (.s .z) (Jj ?_)));exact hK qo69 co69 zq2 zc2 zb zv
    ·
     intro gh gh' h;refine ⟨?_,?_⟩ <;> (first | simp only [h 4 rfl,h 5 rfl] | rfl)
    apply Jm 8 rfl
    iterate 3 focus (intros;(conv=>lhs;simp only [Jh,Js,JO,Ju,JI,eq_self,reduceEqDiff,reduceIte,reduceSub,reduceAdd,JxA,JxB]);all_goals rfl)
    ·
     intro gh X K zq zc zq2 zc2 zb zv hK;refine Jg (Jq u27 rfl sz25 rfl) rfl (Jj ?_);exact hK zq zc zq2 zc2 zb zv
    ·
     intro gh gh' h
     first | simp only [h 4 rfl,h 5 rfl,h 6 rfl] | rfl
    apply Es 9 rfl
    iterate 3 focus (intros;(conv=>lhs;simp only [Jh,Js,JO,Ju,JI,eq_self,reduceEqDiff,reduceIte,reduceSub,reduceAdd,JxA,JxB]);all_goals rfl)
    ·
     intro gh X K hK;refine Ez rfl rfl rfl rfl sz25 (by simp [*]) At.z (Jj ?_);exact hK
    ·
     intro gh gh' h
     first | simp only [h 4 rfl,h 5 rfl,h 6 rfl] | rfl
    apply Ec [0,1,2,3,4,5,6,7,8] [0,1,2,3,4,5,6,7,8,9,10,11,12,15] foll0 rfl rfl rfl (by rfl)
    iterate 2 focus (intros;(conv=>lhs;simp only [Jh,Js,JO,Ju,JI,eq_self,reduceEqDiff,reduceIte,reduceSub,reduceAdd,JxA,JxB]);all_goals rfl)
    intro gh;generalize (gh 4).c=co67;generalize (gh 4).q=qo67;generalize (gh 5).c=co68;generalize (gh 5).q=qo68;generalize (gh 6).c=co69;generalize (gh 6).q=qo69;clear gh;refine JJ (Ja (hK17 (Jb (Jg (JF rfl rfl (by first | exact nw _ (by omega) | rfl)) rfl (Jg (Jc rfl) rfl (Jf (Ja (Ji (.s (.s (.s (.s (.s (.s (.s (.s .z)))))))) (Ji (.s (.s (.s (.s (.s (.s (.s .z))))))) (Ji (.s (.s (.s (.s (.s (.s (.s .z))))))) (Ji (.s (.s (.s (.s (.s (.s (.s .z))))))) (Ji (.s (.s (.s (.s (.s (.s (.s .z))))))) (Ji (.s (.s (.s (.s (.s (.s (.s .z))))))) (Ji (.s (.s (.s (.s (.s (.s (.s .z))))))) (Ji (.s (.s (.s (.s (.s (.s (.s (.s .z)))))))) ?_)))))))))))))));refine Ji (.s (.s (.s (.s (.s (.s (.s (.s .z)))))))) (EJ.fsSnoc (fs:=af++cpK ad.length bf i) (cp_len (by omega)) rfl (JC (.s .z) (JC (.s (.s (.s .z))) (Ji (.s (.s (.s (.s (.s .z))))) (Ji (.s (.s (.s .z))) (Ji (.s (.s (.s .z))) (Ji (.s (.s (.s .z))) (Ji (.s (.s (.s (.s (.s .z))))) (Ji (.s (.s (.s (.s (.s .z))))) ?_)))))))));exact hAg1 (qo69,co69,setV vs (af.length+i) (qo67,co67),i+1) (by show i+1≤bf.length;omega) (by show bf.length - (i+1)<bf.length - i;omega) 15 rfl rfl ⟨rfl,trivial⟩ rfl (by dsimp only;rw [cp_snoc (by omega),slicesC_set (cp_len (by omega))];rfl)
   ·
    refine JR (Jw (Jw (JY (Ja (hK13 (Jd fun _ hK19 _=>(Jb (Jg (Jl rfl (.s (.s (.s (.s .z)))) (by simpa [*] using ag27)) rfl (Jk rfl rfl (by first | exact bytesC_one _ | exact intsC_one _ | exact Term.c_one _ | simp [Value.oneCell']) (by simpa [*] using sz27) (by simp [*]) (.s (.s (.s (.s (.s .z))))) (Jg (Je rfl) rfl (Jf (Ja (hK19 (Jt (JV rfl (Res.agg rfl (.s (.s (.s (.s (.s .z))))) (by simpa [*] using ag27)) (Res.tmp rfl) fun w hH=>?_)))))))))))))));replace hH:=hH.sublist (.cons _ (.cons_cons _ (.cons_cons _ (.cons_cons _ (.cons _ (.cons _ (List.Sublist.refl _)))))));obtain ⟨e1,e2,e3⟩:=po_yes (af:=af) (bf:=bf) (show ad.length+bd.length≤8 by omega)
    have f2:cpK ad.length bf i=cpA ad.length bf:=by rw [show i=bf.length by omega];exact cpK_end _ _
    have f3:(af++cpA ad.length bf).length=af.length+i:=by rw [List.length_append,cpA_len];omega
    rw [f2] at hH;rw [e1,e2,e3];exact ⟨_,_,q,c,vs,by rw [f3],by unfold ownFs;rw [f3];exact ((((hH.front (.s .z)).front (.s (.s .z))).star).front (.s .z))⟩
end Go.Proofs.YtffgojlocbafhaaGreatDoor.G
