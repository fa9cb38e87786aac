/- A part of the walk of one law: what the functions compute. No condition. -/
import Derived.Test.YtefpohpaliocaaaGreatDoorRows
import Derived.Test.YtefpohpaliocaaaGreatDoorProg
import Derived.WalkKit
import Derived.KernelRfl
import Derived.JoinedOf
import Derived.Maps.AppendAt
import Derived.Still
import Derived.ProofKit
import Derived.OpenShut
import Derived.StillTail
import Derived.Deep.Upon
import Derived.WalkSpells
import Derived.Maps.Range
import Derived.Laws.Concat
import Derived.Laws.IdiomStrings
import Derived.Laws.Strings
import Derived.Lib.ItoaNum
import Derived.Lib.Join
import Derived.Lib.LaidTab
import Derived.Laws.Strings2
import Derived.Laws.Strings3
import Derived.Laws.Slices
import Derived.DeepKeys4
import Derived.Lib.SplitLaws
import Derived.Lib.AtoiTie
import Derived.Lib.ParseIntBTie
import Derived.Shelf.Strings.Builder1
import Derived.Shelf.Strings.Builder2
import Derived.Shelf.Strings.OnBuilder
import Derived.Shelf.Strings.BuilderF
import Derived.Shelf.Strings.BuilderK
import Derived.Shelf.Utf8.RuneCount
import Derived.Shelf.Strconv.Atoi
import Derived.Shelf.Strconv.Itoa0
import Derived.Shelf.Strconv.Itoa1
import Derived.Shelf.LaysM
import Derived.Shelf.Strconv.Itoa2
import Derived.Shelf.Strconv.Itoa3
import Derived.Shelf.Strconv.Itoa4
import Derived.Shelf.Strconv.AtoiErrFast
import Derived.Shelf.Strconv.ParseIntEmpty
import Derived.Shelf.Strconv.AtoiFail
import Derived.Shelf.Strconv.Clone
import Derived.Shelf.Strconv.SyntaxError
import Derived.Shelf.LaysC
import Derived.Shelf.Strconv.ToError
import Derived.Shelf.Strconv.Lower
import Derived.Shelf.Strconv.ParseUint10
import Derived.Shelf.Strconv.ParseUint10Empty
import Derived.Shelf.Strconv.ParseUint10Any
import Derived.Shelf.Strconv.ParseInt10
import Derived.Shelf.Strconv.AtoiLong
import Derived.Shelf.Strconv.AtoiInnerAll
import Derived.Shelf.Strconv.RangeError
import Derived.Shelf.Strconv.ToErrorRange
import Derived.Shelf.Strconv.AtoiAll
import Derived.Shelf.Strconv.ErrVarAll
import Derived.Shelf.Strconv.ParseUintEmpty
import Derived.Shelf.Strconv.ParseUint10b64
import Derived.Shelf.Strconv.ParseUint10b32
import Derived.Shelf.Strconv.ParseUint10b16
import Derived.Shelf.Strconv.ParseUint10b8
import Derived.Shelf.Strconv.ParseUint10At
import Derived.Shelf.Strconv.ParseInt10At64
import Derived.Shelf.Strconv.ParseInt10At32
import Derived.Shelf.Strconv.ParseInt10At16
import Derived.Shelf.Strconv.ParseInt10At8
import Derived.Shelf.Strconv.ParseInt10All
import Derived.Shelf.Strconv.ParseIntPublic10
import Derived.Shelf.Strconv.ErrVarParseInt
import Derived.Shelf.Strings.Search1
import Derived.Shelf.Strings.Search2
import Derived.Shelf.Strings.Search3
import Derived.Shelf.Strings.Cut
import Derived.Shelf.Strings.Count
import Derived.Shelf.Strings.Shaped
import Derived.Shelf.Strings.Split
import Derived.Shelf.Strings.SplitShaped
import Derived.Shelf.Unicode.Decode
import Derived.Shelf.Strings.RuneCount
import Derived.Shelf.Strings.Explode
import Derived.Shelf.Unicode.DecodeSlow
import Derived.Shelf.Unicode.DecodeAny
import Derived.Lib.AtoiErrMem
import Derived.Lib.SmallJoins
import Derived.WalkSmall
import Derived.WideLaws
import Derived.Lib.AppendIntMem
import Derived.Test.YtefpohpaliocaaaGreatDoorCards
import Derived.Test.YtefpohpaliocaaaGreatDoorTie
import Derived.LaidMore
import Derived.Stop.Joined
import Derived.Stop.LaidErr
import Derived.SevenTiedAt
import Derived.MakeChecks
import Derived.Shelf.Vars
import Derived.Lay
import Derived.ChangeOld
import Derived.Below
import Derived.SizedLaws
import Derived.Test.YtefpohpaliocaaaGreatDoorPPalc
set_option linter.unusedVariables false
set_option linter.unusedSimpArgs false
set_option maxRecDepth 10000
set_option maxHeartbeats 8000000
open Nat (reduceEqDiff reduceSub reduceAdd)
namespace Go.Proofs.YtefpohpaliocaaaGreatDoor.G
open Go Go.RowKit
theorem fn76:Fn Tryz.prog 76:=⟨_,Tryz.func76,by kernel_rfl,rfl⟩
theorem fn77:Fn Tryz.prog 77:=⟨_,Tryz.func77,by kernel_rfl,rfl⟩
def frK (p:Pw) (k j:Nat):Pw:=(List.range 8).map fun t=>if t<j∧k≤t then 0 else p.getD t 0
def bkK (p:Pw) (k j:Nat):Pw:=(List.range 8).map fun t=>if t<j∧t≤k then 0 else p.getD t 0
@[simp] theorem frK_len (p:Pw) (k j:Nat):(frK p k j).length=8:=by simp [frK]
@[simp] theorem bkK_len (p:Pw) (k j:Nat):(bkK p k j).length=8:=by simp [bkK]
theorem frK_get {p:Pw} {k j t:Nat} (h:t<8):(frK p k j).getD t 0=if t<j∧k≤t then 0 else p.getD t 0:=by simp [frK,List.getD_eq_getElem?_getD,h]
theorem bkK_get {p:Pw} {k j t:Nat} (h:t<8):(bkK p k j).getD t 0=if t<j∧t≤k then 0 else p.getD t 0:=by simp [bkK,List.getD_eq_getElem?_getD,h]
theorem frK_zero {p:Pw} (hp:p.length=8) (k:Nat):frK p k 0=p:=list8 (by simp) hp fun t ht=>by rw [frK_get ht,if_neg (by omega)]
theorem bkK_zero {p:Pw} (hp:p.length=8) (k:Nat):bkK p k 0=p:=list8 (by simp) hp fun t ht=>by rw [bkK_get ht,if_neg (by omega)]
theorem frK_end (p:Pw) (k:Nat):frK p k 8=aheadP p k:=list8 (by simp) (by simp) fun t ht=>by
 rw [frK_get ht,aheadP_get ht]
 by_cases h:t<k
 ·rw [if_neg (by omega),if_pos h]
 ·rw [if_pos (by omega),if_neg h]
theorem bkK_end (p:Pw) (k:Nat):bkK p k 8=behP p (k+1):=list8 (by simp) (by simp) fun t ht=>by
 rw [bkK_get ht,behP_get ht]
 by_cases h:t<k+1
 ·rw [if_pos (by omega),if_pos h]
 ·rw [if_neg (by omega),if_neg h]
theorem frK_yes {p:Pw} {k j:Nat} (hj:j<8) (h:k≤j):(frK p k j).set j 0=frK p k (j+1):=list8 (by simp) (by simp) fun t ht=>by
 rw [getD_set8,frK_get ht,frK_get ht]
 by_cases e:j=t
 ·subst e
  rw [if_pos ⟨rfl,by simpa using hj⟩,if_pos (by omega)]
 ·rw [if_neg fun h=>e h.1]
  by_cases h2:t<j∧k≤t
  ·rw [if_pos h2,if_pos (by omega)]
  ·rw [if_neg h2,if_neg (by omega)]
theorem frK_no {p:Pw} {k j:Nat} (h : ¬k≤j):frK p k j=frK p k (j+1):=list8 (by simp) (by simp) fun t ht=>by
 rw [frK_get ht,frK_get ht,if_neg (by omega),if_neg (by omega)]
theorem bkK_yes {p:Pw} {k j:Nat} (hj:j<8) (h:j≤k):(bkK p k j).set j 0=bkK p k (j+1):=list8 (by simp) (by simp) fun t ht=>by
 rw [getD_set8,bkK_get ht,bkK_get ht]
 by_cases e:j=t
 ·subst e
  rw [if_pos ⟨rfl,by simpa using hj⟩,if_pos (by omega)]
 ·rw [if_neg fun h=>e h.1]
  by_cases h2:t<j∧t≤k
  ·rw [if_pos h2,if_pos (by omega)]
  ·rw [if_neg h2,if_neg (by omega)]
theorem bkK_no {p:Pw} {k j:Nat} (h : ¬j≤k):bkK p k j=bkK p k (j+1):=list8 (by simp) (by simp) fun t ht=>by
 rw [bkK_get ht,bkK_get ht]
 by_cases h2:t<j∧t≤k
 ·rw [if_pos h2,if_pos (by omega)]
 ·rw [if_neg h2,if_neg (by omega)]
theorem aheadP_pok {M:Int} {p:Pw} (h:Pok M p) (k:Nat):Pok M (aheadP p k):=⟨by simp,fun j=>by
 have:=h.bd j
 rcases Nat.lt_or_ge j 8 with hj | hj
 ·rw [aheadP_get hj]
  split <;> omega
 ·rw [getD_ge (by simp;omega)]
  omega⟩
theorem Pok.mn {M:Int} {p:Pw} (h:Pok M p) (hM:M≤255):Mono p:=⟨h.len,(h.mono hM).bd⟩
theorem wsum_ahead {ds p:Pw} {k:Nat} : ∀{n:Nat},n≤8→wsum ds (aheadP p k) n=wsum ds p (min n k)
 | 0,_=>by simp [wsum]
 | n+1,h=>by
  simp only [wsum]
  rw [wsum_ahead (by omega),aheadP_get (by omega)]
  by_cases hk:n<k
  ·rw [if_pos hk,Nat.min_eq_left (by omega),Nat.min_eq_left (by omega)]
   rfl
  ·rw [if_neg hk,Nat.min_eq_right (by omega),Nat.min_eq_right (by omega),Int.mul_zero,Int.add_zero]
theorem dsg_wsum {ds p:Pw} (hd : ∀j,0≤ds.getD j 0∧ds.getD j 0≤12) (hp : ∀j,0≤p.getD j 0) : ∀{k:Nat},k≤ds.length→dsg ds p k=if wsum ds p k % 2=1 then -1 else 1
 | 0,_=>by simp [dsg,wsum]
 | k+1,h=>by
  have ih:=dsg_wsum hd hp (k:=k) (by omega)
  have e1:=Int.tmod_eq_emod_of_nonneg (b:=2) (hd k).1
  have e2:=Int.tmod_eq_emod_of_nonneg (b:=2) (hp k)
  have em:=Int.mul_emod (ds.getD k 0) (p.getD k 0) 2
  have e:wsum ds p (k+1)=wsum ds p k+ds.getD k 0 * p.getD k 0:=rfl
  by_cases hc:(ds.getD k 0).tmod 2=1∧(p.getD k 0).tmod 2=1
  ·rw [show ds.getD k 0 % 2=1 by omega,show p.getD k 0 % 2=1 by omega] at em
   rw [← dsg_yes (by omega) hc.1 hc.2,ih]
   by_cases c:wsum ds p k % 2=1
   ·rw [if_pos c,if_neg (by omega)];rfl
   ·rw [if_neg c,if_pos (by omega)];rfl
  ·have em2:(ds.getD k 0 * p.getD k 0) % 2=0:=by
    rcases (show ds.getD k 0 % 2=0∨ds.getD k 0 % 2=1 by omega) with a | a <;> rcases (show p.getD k 0 % 2=0∨p.getD k 0 % 2=1 by omega) with b | b <;> rw [a,b] at em <;> omega
   rw [← dsg_no (fun h=>hc h.2),ih]
   by_cases c:wsum ds p k % 2=1
   ·rw [if_pos c,if_pos (by omega)]
   ·rw [if_neg c,if_neg (by omega)]
theorem wsum_nn {ds p:Pw} (hd : ∀j,0≤ds.getD j 0∧ds.getD j 0≤12) (hp : ∀j,0≤p.getD j 0) : ∀k,0≤wsum ds p k
 | 0=>by simp [wsum]
 | k+1=>by
  have h1:=wsum_nn hd hp k
  have h2:=Int.mul_nonneg (hd k).1 (hp k)
  simp only [wsum]
  omega
theorem sg_neg {ds p:Pw} {k:Nat} (hn:ds.length≤8) (hd : ∀j,0≤ds.getD j 0∧ds.getD j 0≤12) (hp : ∀j,0≤p.getD j 0) (hk:k<ds.length) (h:(wsum ds (aheadP p k) ds.length).tmod 2≠0):dsg ds p k = -1:=by
 rw [wsum_ahead hn,Nat.min_eq_right (by omega)] at h;rw [dsg_wsum hd hp (by omega),if_pos];have:=Int.tmod_eq_emod_of_nonneg (b:=2) (show 0≤wsum ds p k from wsum_nn hd hp k)
 omega
theorem sg_pos {ds p:Pw} {k:Nat} (hn:ds.length≤8) (hd : ∀j,0≤ds.getD j 0∧ds.getD j 0≤12) (hp : ∀j,0≤p.getD j 0) (hk:k<ds.length) (h : ¬(wsum ds (aheadP p k) ds.length).tmod 2≠0):dsg ds p k=1:=by
 rw [wsum_ahead hn,Nat.min_eq_right (by omega)] at h;rw [dsg_wsum hd hp (by omega),if_neg];have:=Int.tmod_eq_emod_of_nonneg (b:=2) (show 0≤wsum ds p k from wsum_nn hd hp k)
 omega
theorem addS_one (p:Pw):addS [] p 1=[(p,1)]:=by
 simp only [addS];rw [fld_id (by omega),if_neg (by omega)]
theorem one_wf {p:Pw} (h:Mono p):Wfs (ofS (addS [] p 1)):=by
 rw [addS_one]
 exact fun t ht=>by
  simp [ofS] at ht
  subst ht;exact ⟨⟨h.len,h.bd⟩,by show -9223372036854775808≤(1:Int)∧(1:Int)≤9223372036854775807;omega⟩
theorem one_g {M:Int} {p:Pw} (h:Pok M p):Gok M (toS (ofS (addS [] p 1))):=by
 rw [toS_ofS,addS_one];exact (Sok.one h (by omega)).g
theorem one_kex {ds p:Pw} (h:Ex ds p):KEx ds (toS (ofS (addS [] p 1))):=by
 rw [toS_ofS,addS_one];intro x hx
 simp at hx
 rw [hx];exact h
theorem one_len (p:Pw):(ofS (addS [] p 1)).length=1:=by rw [addS_one];rfl
theorem Ex.le {ds p q:Pw} (h:Ex ds p) (hq : ∀j,0≤q.getD j 0∧q.getD j 0≤p.getD j 0):Ex ds q:=
 ⟨fun i hi=>by have:=h.out i hi;have:=hq i;omega,fun i hi ho=>by have:=h.odd i hi ho;have:=hq i;omega⟩
theorem leftP_ex {ds p:Pw} {M:Int} (hp:Pok M p) (h:Ex ds p) {k:Nat} (hk:0<p.getD k 0):Ex ds (leftP p k):=h.le fun j=>by
 have b:=hp.bd j
 have c:=hp.bd k
 unfold leftP
 rw [getD_set8]
 split
 ·rename_i e
  rw [← e.1]
  omega
 ·rcases Nat.lt_or_ge j 8 with hj | hj
  ·rw [aheadP_get hj]
   split <;> omega
  ·rw [getD_ge (by simp;omega)]
   omega
theorem behP_ex {ds p:Pw} {M:Int} (hp:Pok M p) (h:Ex ds p) (k:Nat):Ex ds (behP p k):=h.le fun j=>by
 have b:=hp.bd j
 rcases Nat.lt_or_ge j 8 with hj | hj
 ·rw [behP_get hj]
  split <;> omega
 ·rw [getD_ge (by simp;omega)]
  omega
theorem dT_len (ds:Pw) (im:Sm) (p:Pw) (k:Nat):(dT ds im p k).length≤im.length:=by
 unfold dT;have h1:=times_len ds (timesS ds [(leftP p k,1)] im) [(behP p (k+1),1)];have h2:=times_len ds [(leftP p k,1)] im;simp only [List.length_singleton] at h1 h2
 omega
theorem dP_len {ds:Pw} {fs:List (List Term)} {x:Pw × Int} {k:Nat} (hL : ∀i,i<fs.length→(fm fs i).length≤10000) (hk:0<x.1.getD k 0→k<fs.length):(dP ds fs x k).length≤10000:=by
 unfold dP
 split
 ·rename_i h
  have h1:=dT_len ds (toS (fm fs k)) x.1 k;have h2:=hL k (hk h);rw [toS_len] at h1;unfold scl;rw [List.length_map]
  omega
 ·simp
theorem dLk_len {ds:Pw} {fs:List (List Term)} {x:Pw × Int} (hL : ∀i,i<fs.length→(fm fs i).length≤10000) (ho : ∀k,0<x.1.getD k 0→k<fs.length) : ∀k,(dLk ds fs x k).length≤k * 10000
 | 0=>by simp [dLk]
 | k+1=>by
  have h1:=dLk_len (ds:=ds) hL ho k
  have h2:=dP_len (ds:=ds) hL (ho k)
  rw [dLk_succ,List.length_append]
  omega
theorem dAll_len {ds:Pw} {fs:List (List Term)} (hL : ∀i,i<fs.length→(fm fs i).length≤10000) : ∀{s:Sm},Occ fs.length s→(dAll ds fs s).length≤s.length * 80000
 | [],_=>by simp [dAll]
 | x::s,ho=>by
  have h1:=dAll_len (ds:=ds) hL (s:=s) fun y hy=>ho y (by simp [hy])
  have h2:=dLk_len (ds:=ds) hL (ho x (by simp)) 8
  unfold dAll at h1 ⊢
  rw [List.flatMap_cons,List.length_append,List.length_cons]
  omega
theorem dAll_take {ds:Pw} {fs:List (List Term)} {f:List Term} {i:Nat} (hi:i<f.length):dAll ds fs (toS (f.take (i+1)))=dAll ds fs (toS (f.take i))++dLk ds fs ((tm f i).mono,(tm f i).fac) 8:=by
 rw [toS_take hi];unfold dAll;rw [List.flatMap_append]
 simp
theorem dLk_same {ds:Pw} {fs:List (List Term)} {x:Pw × Int} {n:Nat} (h : ∀k,n≤k→x.1.getD k 0=0) : ∀m,dLk ds fs x (n+m)=dLk ds fs x n
 | 0=>rfl
 | m+1=>by
  rw [← Nat.add_assoc,dLk_succ,dLk_same h m]
  unfold dP
  rw [if_neg (by rw [h _ (by omega)];omega),List.append_nil]
theorem dLk_8 {ds:Pw} {fs:List (List Term)} {x:Pw × Int} (hn:ds.length≤8) (h:Ex ds x.1):dLk ds fs x ds.length=dLk ds fs x 8:=by
 rw [← dLk_same (ds:=ds) (fs:=fs) (x:=x) (n:=ds.length) h.out (8 - ds.length),Nat.add_sub_cancel' hn]
theorem Ex.occ {ds:Pw} {s:Sm} {n:Nat} (h:KEx ds s) (hl:n=ds.length):Occ n s:=fun x hx i hi=>by
 have:=(h x hx).out i
 omega
theorem toS_tk (ts:List Term) (k:Nat):toS (ts.take k)=(toS ts).take k:=by simp [toS,List.map_take]
theorem Sok.tk {M:Int} {ts:List Term} (h:Sok M (toS ts)) (k:Nat):Sok M (toS (ts.take k)):=by
 rw [toS_tk];exact ⟨h.srt.sublist (List.take_sublist _ _),fun x hx=>h.key x (List.mem_of_mem_take hx),fun x hx=>h.val x (List.mem_of_mem_take hx)⟩
theorem Occ.tk {n:Nat} {ts:List Term} (h:Occ n (toS ts)) (k:Nat):Occ n (toS (ts.take k)):=by
 rw [toS_tk];exact fun x hx=>h x (List.mem_of_mem_take hx)
theorem d1_sok {ad:Pw} {af:List (List Term)} {f:List Term} {Mi Ms:Int} (hf:Fok Mi af) (hs:Sok Ms (toS f)) (ho:Occ af.length (toS f)) (i:Nat):Sok (Ms+Mi+Ms) (acc [] (dAll ad af (toS (f.take i)))):=Sok.nil.acc (dAll_pok (hs.tk i) hf (ho.tk i))
theorem d2_sok {ad:Pw} {af:List (List Term)} {f:List Term} {Mi Ms:Int} (hf:Fok Mi af) (hs:Sok Ms (toS f)) (ho:Occ af.length (toS f)) {i:Nat} (hi:i<f.length) (k:Nat):Sok (Ms+Mi+Ms) (acc [] (dAll ad af (toS (f.take i))++dLk ad af ((tm f i).mono,(tm f i).fac) k)):=Sok.nil.acc fun z hz=>by
 rcases List.mem_append.1 hz with h | h
 ·exact dAll_pok (hs.tk i) hf (ho.tk i) z h
 ·exact dLk_pok (hs.key _ (toS_at hi)) hf (ho _ (toS_at hi)) z h
theorem d2_len {ad:Pw} {af:List (List Term)} {f:List Term} (hL : ∀i,i<af.length→(fm af i).length≤10000) (ho:Occ af.length (toS f)) (hlf:f.length≤10000) {i k:Nat} (hi:i<f.length) (hk:k≤8):(acc [] (dAll ad af (toS (f.take i))++dLk ad af ((tm f i).mono,(tm f i).fac) k)).length≤900000000:=by
 have h1:=acc_len (dAll ad af (toS (f.take i))++dLk ad af ((tm f i).mono,(tm f i).fac) k) [];have h2:=dAll_len (ds:=ad) hL (ho.tk i);have h3:=dLk_len (ds:=ad) hL (ho _ (toS_at hi)) k;rw [toS_len,List.length_take_of_le (by omega)] at h2;rw [List.length_append,List.length_nil] at h1
 omega
theorem fac_neg {ds p:Pw} {k:Nat} {x:Int} (h:dsg ds p k = -1):fld (dsg ds p k * x * p.getD k 0)=fld (0 - x * p.getD k 0):=by rw [h];simp only [Int.neg_mul,Int.one_mul,Int.zero_sub]
theorem fac_pos {ds p:Pw} {k:Nat} {x:Int} (h:dsg ds p k=1):fld (dsg ds p k * x * p.getD k 0)=fld (x * p.getD k 0):=by rw [h,Int.one_mul]
theorem l02D_c {B:World} {H0 H:HP} {L:List SA} {w:World} {qad qaf:Option Addr} {cad caf:Nat} {ad:List Int} {af:List (List Term)} {qf:Option Addr} {cf:Nat} {f:List Term} {Mi Ms:Int} (had:Ints H qad ad) (haf:Forms H qaf af) (hf:Terms H qf f) (hn:ad.length≤8) (hd : ∀j,0≤ad.getD j 0∧ad.getD j 0≤12) (hf9:Fok Mi af) (hl:af.length=ad.length) (hk9 : ∀i,i<af.length→KEx ad (toS (fm af i))) (hs:Sok Ms (toS f)) (hfk:KEx ad (toS f)) (hM:0≤Mi∧0≤Ms∧Ms+Mi+Ms≤255) (hL : ∀i,i<af.length→(fm af i).length≤10000) (hlf:f.length≤10000) (hH:Hp B H0 H L w):Calls Tryz.prog 51 [.agg [.slice qad ad.length cad,.slice qaf af.length caf].toArray,.agg [.slice qf f.length cf].toArray].toArray w fun e w'=>∃q c,e = .returned (.agg [.slice q (ofS (dS ad af (toS f))).length c].toArray)∧Hp B H0 H (own 69 9 q (ofS (dS ad af (toS f))).length c (tsC (ofS (dS ad af (toS f))))::L) w':=by
 refine JB Tryz.func51 rfl 103 rfl rfl [(0,.agg [.slice qad ad.length cad,.slice qaf af.length caf].toArray),(1,.agg [.slice qf f.length cf].toArray)] rfl hH ?_;clear hH;have hoc:=Ex.occ hfk hl;refine Je fun _ hK1 _=>(Jb (Ei rfl rfl rfl fun g2=>(Ei rfl rfl rfl fun g3=>(JP ze33 rfl fun g4=>(Jf (Ja (hK1 (Je fun _ hK2 _=>(Jb (J.own0 69 9 (Jg (JY bz33) rfl (JP ze33 rfl fun g5=>(Jo rfl rfl (by first | exact bytesC_one _ | exact intsC_one _ | exact Term.c_one _ | simp [Value.oneCell']) (by simpa [*] using sz33) (by simp [*]) At.z (Jf (Ja (hK2 ?_))))))))))))))));refine Je fun _ hK3 _=>(Je fun _ hK4 _=>(Jb (Jg (Jd rfl) rfl (Jf (Ja (hK4 (Jm (JE (σ:=Option Addr × Nat × Nat) (fun ⟨q,c,i⟩=>[(6,.int .i64 (i:Int))]) (fun ⟨q,c,i⟩=>H) (fun ⟨q,c,i⟩=>obj g5 (.cells [.slice q (ofS (acc [] (dAll ad af (toS (f.take i))))).length c].toArray 33 (0,0))::own 69 9 q (ofS (acc [] (dAll ad af (toS (f.take i))))).length c (tsC (ofS (acc [] (dAll ad af (toS (f.take i))))))::obj g4 (.cells [.slice none 0 0].toArray 33 (0,0))::obj g3 (.cells [.slice qf f.length cf].toArray 33 (0,0))::obj g2 (.cells [.slice qad ad.length cad,.slice qaf af.length caf].toArray 25 (0,0))::L) (fun ⟨q,c,i⟩=>i≤f.length) (fun ⟨q,c,i⟩=>f.length - i) (none,0,0) (by show 0≤f.length;omega) ⟨rfl,trivial⟩ rfl rfl ?_))))))));rintro ⟨q,c,i⟩ hI _ hAg0;have hi:=hI;have wfO:=(d1_sok (ad:=ad) hf9 hs hoc i).wf (by omega);refine Je fun _ hK5 _=>(Je fun _ hK6 _=>(Jb (Jg (Jc rfl) rfl (Jg (Ju u33 rfl sz31 rfl) rfl (Jg (Jr rfl (.s (.s (.s .z))) rfl pl31) rfl (Jg (Jq u31 rfl rfl) rfl (Jg (JK rfl rfl) rfl (Jf (Ja (hK6 (Jk rfl (fun h20=>?_) (fun h20=>?_))))))))))))
 ·
  have hxi:=toS_at (ts:=f) (k:=i) (by omega);have hxp:=hs.key _ hxi;have hxv:=hs.val _ hxi;have hxe:=hfk _ hxi;simp only at hxp hxv hxe;have hx8:=hxp.len;have hxn : ∀j,0≤(tm f i).mono.getD j 0:=fun j=>(hxp.bd j).1;refine Ji (Ja (hK5 (Je fun _ hK7 _=>(Jm (Je fun _ hK8 _=>(Jb (Jg (Ju u33 rfl sz31 rfl) rfl (Jg (Jr rfl (.s (.s (.s .z))) rfl pl31) rfl (Jg (Jc rfl) rfl (Jg (Ej u31 sz69 rfl rfl rfl (by omega) hf.sm) rfl (Jg (El u69 rfl sz65 rfl (hf.sm (i:=i) (by omega))) rfl (Jg (JO rfl (hf.mono (by omega)) (hf.sm (i:=i) (by omega)) (by rw [bytesC_length,(hf.wf _ (by omega)).mono.len];exact ag65)) rfl (JP ze65 rfl fun g7=>(Jo rfl rfl (by first | exact bytesC_one _ | exact intsC_one _ | exact Term.c_one _ | simp [Value.oneCell']) (by simpa [*] using sz65) (by simp [*]) At.z (Jf ?_)))))))))))))));refine Ja (hK8 (Je fun _ hK9 _=>(Jb (Jg (Jd rfl) rfl (Jf (Ja (hK9 (Jm (JE (σ:=Option Addr × Nat × Nat) (fun ⟨q1,c1,k⟩=>[(8,.int .i64 (k:Int))]) (fun ⟨q1,c1,k⟩=>H) (fun ⟨q1,c1,k⟩=>obj g7 (.cells (bytesC ((tm f i).mono)).toArray 65 (0,0))::obj g5 (.cells [.slice q1 (ofS (acc [] (dAll ad af (toS (f.take i))++dLk ad af ((tm f i).mono,(tm f i).fac) k))).length c1].toArray 33 (0,0))::own 69 9 q1 (ofS (acc [] (dAll ad af (toS (f.take i))++dLk ad af ((tm f i).mono,(tm f i).fac) k))).length c1 (tsC (ofS (acc [] (dAll ad af (toS (f.take i))++dLk ad af ((tm f i).mono,(tm f i).fac) k))))::obj g4 (.cells [.slice none 0 0].toArray 33 (0,0))::obj g3 (.cells [.slice qf f.length cf].toArray 33 (0,0))::obj g2 (.cells [.slice qad ad.length cad,.slice qaf af.length caf].toArray 25 (0,0))::L) (fun ⟨q1,c1,k⟩=>k≤ad.length) (fun ⟨q1,c1,k⟩=>ad.length - k) (q,c,0) (by show 0≤ad.length;omega) ⟨rfl,trivial⟩ rfl (by simp only [dLk,List.range_zero,List.flatMap_nil,List.append_nil]) ?_)))))))));rintro ⟨q1,c1,k⟩ hkI _ hAg1;have hk:=hkI;have wfO:=(d2_sok (ad:=ad) hf9 hs hoc (i:=i) (by omega) k).wf (by omega);refine Je fun _ hK10 _=>(Je fun _ hK11 _=>(Jb (Jg (Jc rfl) rfl (Jg (Ju u25 rfl sz22 rfl) rfl (Jg (Jr rfl (.s (.s (.s (.s (.s .z))))) rfl pl22) rfl (Jg (Jq u22 rfl rfl) rfl (Jg (JK rfl rfl) rfl (Jf (Ja (hK11 (Jk rfl (fun h33=>?_) (fun h33=>?_))))))))))))
  ·
   have hkl:k<af.length:=by omega
   have hpk:=hxp.bd k;refine Ji (Ja (hK10 (Je fun _ hK12 _=>(Jm (Je fun _ hK13 _=>(Je fun _ hK14 _=>(Jb (Jg (Jc rfl) rfl (Jg (JN u65 sz5 rfl rfl rfl (by omega)) rfl (Jg (Jr rfl At.z (bytesC_get (by omega)) pl5) rfl (Jg (EB rfl rfl) rfl (Jf (Ja (hK14 (Jk rfl (fun h39=>?_) (fun h39=>?_))))))))))))))))
   ·
    refine JI (Jl (JR (Ja (hK12 (Jb (Jg (Jc rfl) rfl (Jg (Jy rfl rfl (by first | exact nw _ (by omega) | rfl)) rfl (Jg (Jd rfl) rfl (Jf (Ja ?_))))))))));exact hAg1 (q1,c1,k+1) (by show k+1≤ad.length;omega) (by show ad.length - (k+1)<ad.length - k;omega) 13 rfl rfl ⟨rfl,trivial⟩ rfl (by simp only [acc_dN (ds:=ad) (fs:=af) (x:=((tm f i).mono,(tm f i).fac)) (k:=k) (show ¬0<(tm f i).mono.getD k 0 by omega)])
   ·
    have hpos:0<(tm f i).mono.getD k 0:=by omega
    have hlp:=leftP_pok hxp hpos;have hfp:=aheadP_pok hxp k;have hbp:=behP_pok hxp (k+1);have hlm:=hlp.mn (by omega);have hfm:=hfp.mn (by omega);have hbm:=hbp.mn (by omega);have hle:=leftP_ex hxp hxe hpos;have hbe:=behP_ex hxp hxe (k+1);have mb:=mul_sb (b:=(tm f i).mono.getD k 0) (B:=255) (show -10006≤(tm f i).fac∧(tm f i).fac≤10006 by omega) (by omega);have gt1:=gtimes (ds:=ad) (Sok.one hlp (k:=1) (by omega)).g (hf9 k hkl).1.g;have gt2:=gtimes (ds:=ad) (gt1.g) (Sok.one hbp (k:=1) (by omega)).g;have l9:=hL k hkl;have l8:=d2_len (ad:=ad) hL hoc hlf (i:=i) (k:=k) (by omega) (by omega);refine Ji (Ja (hK13 (Je fun _ hK15 _=>(Et (Rs:=[_,_,_,_,_,_]) 6 [[], [], [], [], [0,2,3], [0,1,2,3,4]] [[6], [6], [], [], [], []] [[], [], [], [], [2], [3]] rfl rfl (by kernel_rfl) ?_))));apply Jv 1 rfl
    iterate 3 focus (intros;(conv=>lhs;simp only [Jj,Jz,JX,JA,JT,eq_self,reduceEqDiff,reduceIte,reduceSub,reduceAdd,JxA,JxB]);all_goals rfl)
    ·
     intro gh X K zq zc zq2 zc2 zb zv hK;refine Jg (Js rfl At.z (by simpa [*] using ag65)) rfl (Jn ?_);exact hK zq zc zq2 zc2 zb zv
    ·
     intro gh gh' h
     rfl
    apply Jv 2 rfl
    iterate 3 focus (intros;(conv=>lhs;simp only [Jj,Jz,JX,JA,JT,eq_self,reduceEqDiff,reduceIte,reduceSub,reduceAdd,JxA,JxB]);all_goals rfl)
    ·
     intro gh X K zq zc zq2 zc2 zb zv hK;refine Jg (Js rfl At.z (by simpa [*] using ag65)) rfl (Jn ?_);exact hK zq zc zq2 zc2 zb zv
    ·
     intro gh gh' h
     rfl
    apply EC 3 rfl
    iterate 3 focus (intros;(conv=>lhs;simp only [Jj,Jz,JX,JA,JT,eq_self,reduceEqDiff,reduceIte,reduceSub,reduceAdd,JxA,JxB]);all_goals rfl)
    ·
     intro gh X K zq zc zq2 zc2 zb zv hK;refine JP ze65 rfl fun g9=>(Jn ?_);exact hK zq zc zq2 zc2 g9 zv
    ·
     intro gh gh' h;refine ⟨?_,?_⟩ <;> rfl
    apply EC 4 rfl
    iterate 3 focus (intros;(conv=>lhs;simp only [Jj,Jz,JX,JA,JT,eq_self,reduceEqDiff,reduceIte,reduceSub,reduceAdd,JxA,JxB]);all_goals rfl)
    ·
     intro gh X K zq zc zq2 zc2 zb zv hK;refine JP ze65 rfl fun g10=>(Jn ?_);exact hK zq zc zq2 zc2 g10 zv
    ·
     intro gh gh' h;refine ⟨?_,?_⟩ <;> rfl
    apply EL 5 rfl
    iterate 3 focus (intros;(conv=>lhs;simp only [Jj,Jz,JX,JA,JT,eq_self,reduceEqDiff,reduceIte,reduceSub,reduceAdd,JxA,JxB]);all_goals rfl)
    ·
     intro gh X K hK;refine Jo rfl rfl (by first | exact bytesC_one _ | exact intsC_one _ | exact Term.c_one _ | simp [Value.oneCell']) (by simpa [*] using sz65) (by simp [*]) At.z (Jn ?_);exact hK
    ·
     intro gh gh' h
     first | simp only [h 2 rfl,h 3 rfl] | rfl
    apply EL 6 rfl
    iterate 3 focus (intros;(conv=>lhs;simp only [Jj,Jz,JX,JA,JT,eq_self,reduceEqDiff,reduceIte,reduceSub,reduceAdd,JxA,JxB]);all_goals rfl)
    ·
     intro gh X K hK;refine Jo rfl rfl (by first | exact bytesC_one _ | exact intsC_one _ | exact Term.c_one _ | simp [Value.oneCell']) (by simpa [*] using sz65) (by simp [*]) At.z (Jn ?_);exact hK
    ·
     intro gh gh' h
     first | simp only [h 2 rfl,h 3 rfl] | rfl
    apply Es [0,1,2,3,4,5] [0,1,4,5,6,7,8,9,10,11] foll0 rfl rfl rfl (by rfl)
    iterate 2 focus (intros;(conv=>lhs;simp only [Jj,Jz,JX,JA,JT,eq_self,reduceEqDiff,reduceIte,reduceSub,reduceAdd,JxA,JxB]);all_goals rfl)
    intro gh;generalize (gh 2).b=g9;generalize (gh 3).b=g10;clear gh;refine Ja (hK15 (Je fun _ hK16 _=>(Je fun _ hK17 _=>(Jb (Jg (Jd rfl) rfl (Jf (Ja (hK17 (Jm (JE (σ:=Nat) (fun (j:Nat)=>[(11,.int .i64 (j:Int))]) (fun (j:Nat)=>H) (fun (j:Nat)=>obj g9 (.cells (bytesC (frK (tm f i).mono k j)).toArray 65 (0,0))::obj g10 (.cells (bytesC (bkK (tm f i).mono k j)).toArray 65 (0,0))::obj g7 (.cells (bytesC ((tm f i).mono)).toArray 65 (0,0))::obj g5 (.cells [.slice q1 (ofS (acc [] (dAll ad af (toS (f.take i))++dLk ad af ((tm f i).mono,(tm f i).fac) k))).length c1].toArray 33 (0,0))::own 69 9 q1 (ofS (acc [] (dAll ad af (toS (f.take i))++dLk ad af ((tm f i).mono,(tm f i).fac) k))).length c1 (tsC (ofS (acc [] (dAll ad af (toS (f.take i))++dLk ad af ((tm f i).mono,(tm f i).fac) k))))::obj g4 (.cells [.slice none 0 0].toArray 33 (0,0))::obj g3 (.cells [.slice qf f.length cf].toArray 33 (0,0))::obj g2 (.cells [.slice qad ad.length cad,.slice qaf af.length caf].toArray 25 (0,0))::L) (fun (j:Nat)=>j≤8) (fun (j:Nat)=>8 - j) 0 (by omega) ⟨rfl,trivial⟩ rfl (by rw [bkK_zero hx8,frK_zero hx8]) ?_))))))))));rintro j hj _ hAg2;refine Je fun _ hK18 _=>(Je fun _ hK19 _=>(Jb (Jg (Jc rfl) rfl (Jg (JK rfl rfl) rfl (Jf (Ja (hK19 (Jk rfl (fun h43=>?_) (fun h43=>?_)))))))))
    ·
     refine Ji (Ja (hK18 (Je fun _ hK20 _=>(Jm (Je fun _ hK21 _=>(Je fun _ hK22 _=>(Jb (Jg (Jc rfl) rfl (Jg (Jc rfl) rfl (Jg (PR.geq rfl rfl) rfl (Jf (Ja (hK22 (Jk rfl (fun h48=>?_) (fun h48=>?_)))))))))))))))
     ·
      refine Jb (Jg (Jc rfl) rfl (Jg (JN u65 sz5 rfl rfl rfl (by omega)) rfl (J.storeB rfl rfl sz5 (by simp;omega) At.z (Jf (Ja (hK21 (Je fun _ hK23 _=>(Jb (Jg (Jc rfl) rfl (Jg (Jc rfl) rfl (Jg (PR.leq rfl rfl) rfl (Jf (Ja (hK23 (Jk rfl (fun h53=>?_) (fun h53=>?_))))))))))))))))
      ·
       refine Jb (Jg (Jc rfl) rfl (Jg (JN u65 sz5 rfl rfl rfl (by omega)) rfl (J.storeB rfl rfl sz5 (by simp;omega) (.s .z) (Jf (JD (Ja (hK20 (Jb (Jg (Jc rfl) rfl (Jg (Jy rfl rfl (by first | exact nw _ (by omega) | rfl)) rfl (Jg (Jd rfl) rfl (Jf (Ja ?_)))))))))))));exact hAg2 (j+1) (by omega) (by omega) 16 rfl rfl ⟨rfl,trivial⟩ rfl (by simp only [frK_yes (p:=(tm f i).mono) (show j<8 by omega) (show k≤j by omega),bkK_yes (p:=(tm f i).mono) (show j<8 by omega) (show j≤k by omega)])
      ·
       refine Ji (JD (Ja (hK20 (Jb (Jg (Jc rfl) rfl (Jg (Jy rfl rfl (by first | exact nw _ (by omega) | rfl)) rfl (Jg (Jd rfl) rfl (Jf (Ja ?_)))))))));exact hAg2 (j+1) (by omega) (by omega) 14 rfl rfl ⟨rfl,trivial⟩ rfl (by simp only [frK_yes (p:=(tm f i).mono) (show j<8 by omega) (show k≤j by omega),bkK_no (p:=(tm f i).mono) (show ¬j≤k by omega)])
     ·
      refine Ji (Ja (hK21 (Je fun _ hK24 _=>(Jb (Jg (Jc rfl) rfl (Jg (Jc rfl) rfl (Jg (PR.leq rfl rfl) rfl (Jf (Ja (hK24 (Jk rfl (fun h53=>?_) (fun h53=>?_))))))))))))
      ·
       refine Jb (Jg (Jc rfl) rfl (Jg (JN u65 sz5 rfl rfl rfl (by omega)) rfl (J.storeB rfl rfl sz5 (by simp;omega) (.s .z) (Jf (JD (Ja (hK20 (Jb (Jg (Jc rfl) rfl (Jg (Jy rfl rfl (by first | exact nw _ (by omega) | rfl)) rfl (Jg (Jd rfl) rfl (Jf (Ja ?_)))))))))))));exact hAg2 (j+1) (by omega) (by omega) 14 rfl rfl ⟨rfl,trivial⟩ rfl (by simp only [frK_no (p:=(tm f i).mono) (show ¬k≤j by omega),bkK_yes (p:=(tm f i).mono) (show j<8 by omega) (show j≤k by omega)])
      ·
       refine Ji (JD (Ja (hK20 (Jb (Jg (Jc rfl) rfl (Jg (Jy rfl rfl (by first | exact nw _ (by omega) | rfl)) rfl (Jg (Jd rfl) rfl (Jf (Ja ?_)))))))));exact hAg2 (j+1) (by omega) (by omega) 12 rfl rfl ⟨rfl,trivial⟩ rfl (by simp only [frK_no (p:=(tm f i).mono) (show ¬k≤j by omega),bkK_no (p:=(tm f i).mono) (show ¬j≤k by omega)])
    ·
     obtain rfl:j=8:=by omega
     rw [frK_end,bkK_end];refine JI (Jl (Jl (JR (Ja (hK16 (Je fun _ hK25 _=>(Jb (Jg (Js rfl At.z (by simpa using ag65)) rfl (JP ze65 rfl fun g12=>(Jo rfl rfl (by first | exact bytesC_one _ | exact intsC_one _ | exact Term.c_one _ | simp [Value.oneCell']) (by simpa [*] using sz65) (by simp [*]) At.z (Jf (Ja (hK25 (Je fun _ hK26 _=>(Jb (Jg (Jc rfl) rfl ?_))))))))))))))));refine Jg (Jc rfl) rfl (Jg (JN u65 sz5 rfl rfl rfl (by omega)) rfl (Jg (Jr rfl (.s (.s (.s .z))) (bytesC_get (by omega)) pl5) rfl (Jg (PR.sub rfl rfl (u8_id (by omega))) rfl (Jg (JN u65 sz5 rfl rfl rfl (by omega)) rfl (J.storeB rfl rfl sz5 (by simp;omega) At.z (Jf (Ja (hK26 (Je fun _ hK27 _=>(Ez foll0 (by kernel_rfl) (JG (Ju u33 rfl sz31 rfl) rfl (JG (Jr rfl (.s (.s (.s (.s (.s (.s (.s .z))))))) rfl pl31) rfl (JG (Jc rfl) rfl (JG (Ej u31 sz69 rfl rfl rfl (by omega) hf.sm) rfl (JG (El u69 rfl sz2 rfl (hf.sm (i:=i) (by omega))) rfl ?_)))))))))))))));refine JG (JW rfl (hf.fac (by omega)) pl2) rfl (JG (Jc rfl) rfl (JG (JN u65 sz5 rfl rfl rfl (by omega)) rfl (JG (Jr rfl (.s (.s (.s .z))) (bytesC_get (by omega)) pl5) rfl (JG (Ey u5 u2 rfl (by first | exact nw _ (by omega) | rfl)) rfl (JG (EM rfl rfl (by first | exact nw _ (by omega) | rfl)) rfl (JG (Jd rfl) rfl (Ef (Ja (hK27 (CJ.cutU (σ:=Int) (fun (v:Int)=>[(13,.int .i64 v)]) (fun (v:Int)=>H) (fun (v:Int)=>obj g12 (.cells (bytesC (leftP (tm f i).mono k)).toArray 65 (0,0))::obj g9 (.cells (bytesC (aheadP (tm f i).mono k)).toArray 65 (0,0))::obj g10 (.cells (bytesC (behP (tm f i).mono (k+1))).toArray 65 (0,0))::obj g7 (.cells (bytesC ((tm f i).mono)).toArray 65 (0,0))::obj g5 (.cells [.slice q1 (ofS (acc [] (dAll ad af (toS (f.take i))++dLk ad af ((tm f i).mono,(tm f i).fac) k))).length c1].toArray 33 (0,0))::own 69 9 q1 (ofS (acc [] (dAll ad af (toS (f.take i))++dLk ad af ((tm f i).mono,(tm f i).fac) k))).length c1 (tsC (ofS (acc [] (dAll ad af (toS (f.take i))++dLk ad af ((tm f i).mono,(tm f i).fac) k))))::obj g4 (.cells [.slice none 0 0].toArray 33 (0,0))::obj g3 (.cells [.slice qf f.length cf].toArray 33 (0,0))::obj g2 (.cells [.slice qad ad.length cad,.slice qaf af.length caf].toArray 25 (0,0))::L) (fun (v:Int)=>fld v=fld (dsg ad (tm f i).mono k * (tm f i).fac * (tm f i).mono.getD k 0)∧ -1000000000000≤v∧v≤1000000000000) ?_ ?_))))))))))
     ·
      intro _ hMt1;refine Je fun _ hK28 _=>(Jb (Jg (Ju u25 rfl sz22 rfl) rfl (Jg (Jr rfl (.s (.s (.s (.s (.s (.s (.s (.s .z)))))))) rfl pl22) rfl (Jg (Js rfl (.s .z) (by simpa using ag65)) rfl (JF fn75 rfl rfl fun w hH=>(l01Weight_c had hfm hn hd hH).mono ?_)))));rintro _ w ⟨rfl,hH⟩;refine ⟨_,rfl,fun a hF=>JV hF hH ?_⟩;refine Jg (EG rfl rfl (by decide) rfl) rfl (Jg (Eo rfl rfl) rfl (Jf (Ja (hK28 (Jk rfl (fun h79=>?_) (fun h79=>?_))))))
      ·
       refine Jb (Jg (Jc rfl) rfl (Jg (PR.neg rfl (by first | exact nw _ (by omega) | rfl)) rfl (Jg (Jd rfl) rfl (Jf (Ja ?_)))));exact hMt1 (0 - (tm f i).fac * (tm f i).mono.getD k 0) ⟨(fac_neg (sg_neg hn hd hxn (by omega) h79)).symm,by omega,by omega⟩ 9 rfl rfl ⟨(vi (by omega)),trivial⟩ rfl rfl
      ·
       refine Ji (Ja ?_);exact hMt1 ((tm f i).fac * (tm f i).mono.getD k 0) ⟨(fac_pos (sg_pos hn hd hxn (by omega) h79)).symm,by omega,by omega⟩ 6 rfl rfl ⟨rfl,trivial⟩ rfl rfl
     ·
      rintro v ⟨hv,hvb⟩;refine Je fun _ hK29 _=>(Et (Rs:=[_,_,_,_,_,_,_,_,_]) 12 [[], [0], [], [2], [], [4], [], [4,5,6], [4,5,6,7], [0,1,2,3,4,5,6,7,8], [], [0,1,2,3,4,5,6,7,8,9,10]] [[], [20], [12], [], [], [20], [], [], [], [3], [], []] [[], [], [], [], [], [], [], [], [], [], [], [10]] rfl rfl (by kernel_rfl) ?_);apply Jv 1 rfl
      iterate 3 focus (intros;(conv=>lhs;simp only [Jj,Jz,JX,JA,JT,eq_self,reduceEqDiff,reduceIte,reduceSub,reduceAdd,JxA,JxB]);all_goals rfl)
      ·
       intro gh X K zq zc zq2 zc2 zb zv hK;refine Jg (Ju u25 rfl sz22 rfl) rfl (Jn ?_);exact hK zq zc zq2 zc2 zb zv
      ·
       intro gh gh' h
       rfl
      apply Jv 2 rfl
      iterate 3 focus (intros;(conv=>lhs;simp only [Jj,Jz,JX,JA,JT,eq_self,reduceEqDiff,reduceIte,reduceSub,reduceAdd,JxA,JxB]);all_goals rfl)
      ·
       intro gh X K zq zc zq2 zc2 zb zv hK;refine Jg (Jr rfl At.z rfl pl22) rfl (Jn ?_);exact hK zq zc zq2 zc2 zb zv
      ·
       intro gh gh' h
       rfl
      apply Jv 3 rfl
      iterate 3 focus (intros;(conv=>lhs;simp only [Jj,Jz,JX,JA,JT,eq_self,reduceEqDiff,reduceIte,reduceSub,reduceAdd,JxA,JxB]);all_goals rfl)
      ·
       intro gh X K zq zc zq2 zc2 zb zv hK;refine Jg (Js rfl At.z (by simpa using ag65)) rfl (Jn ?_);exact hK zq zc zq2 zc2 zb zv
      ·
       intro gh gh' h
       rfl
      apply EC 4 rfl
      iterate 3 focus (intros;(conv=>lhs;simp only [Jj,Jz,JX,JA,JT,eq_self,reduceEqDiff,reduceIte,reduceSub,reduceAdd,JxA,JxB]);all_goals rfl)
      ·
       intro gh X K zq zc zq2 zc2 zb zv hK;refine JF fn77 rfl rfl fun w hH=>(l01Single_c hlm (by omega) hH).mono ?_;rintro _ w ⟨qo85,co85,rfl,hH⟩;refine ⟨_,rfl,fun a hF=>JV hF hH ?_⟩;refine Jn ?_;exact hK qo85 co85 zq2 zc2 zb zv
      ·
       intro gh gh' h;refine ⟨?_,?_⟩ <;> rfl
      apply Jv 5 rfl
      iterate 3 focus (intros;(conv=>lhs;simp only [Jj,Jz,JX,JA,JT,eq_self,reduceEqDiff,reduceIte,reduceSub,reduceAdd,JxA,JxB]);all_goals rfl)
      ·
       intro gh X K zq zc zq2 zc2 zb zv hK;refine Jg (Ju u25 rfl sz23 rfl) rfl (Jn ?_);exact hK zq zc zq2 zc2 zb zv
      ·
       intro gh gh' h
       rfl
      apply Jv 6 rfl
      iterate 3 focus (intros;(conv=>lhs;simp only [Jj,Jz,JX,JA,JT,eq_self,reduceEqDiff,reduceIte,reduceSub,reduceAdd,JxA,JxB]);all_goals rfl)
      ·
       intro gh X K zq zc zq2 zc2 zb zv hK;refine Jg (Jr rfl At.z rfl pl23) rfl (Jn ?_);exact hK zq zc zq2 zc2 zb zv
      ·
       intro gh gh' h
       rfl
      apply Jv 7 rfl
      iterate 3 focus (intros;(conv=>lhs;simp only [Jj,Jz,JX,JA,JT,eq_self,reduceEqDiff,reduceIte,reduceSub,reduceAdd,JxA,JxB]);all_goals rfl)
      ·
       intro gh X K zq zc zq2 zc2 zb zv hK;refine Jg (Jc rfl) rfl (Jn ?_);exact hK zq zc zq2 zc2 zb zv
      ·
       intro gh gh' h
       rfl
      apply Jv 8 rfl
      iterate 3 focus (intros;(conv=>lhs;simp only [Jj,Jz,JX,JA,JT,eq_self,reduceEqDiff,reduceIte,reduceSub,reduceAdd,JxA,JxB]);all_goals rfl)
      ·
       intro gh X K zq zc zq2 zc2 zb zv hK;refine Jg (Eg u23 sz33 rfl rfl rfl (by omega) haf.sm) rfl (Jn ?_);exact hK zq zc zq2 zc2 zb zv
      ·
       intro gh gh' h
       rfl
      obtain ⟨qe90,ce90,he90,le90,Fe90⟩:=haf k (by omega);apply Jv 9 rfl
      iterate 3 focus (intros;(conv=>lhs;simp only [Jj,Jz,JX,JA,JT,eq_self,reduceEqDiff,reduceIte,reduceSub,reduceAdd,JxA,JxB]);all_goals rfl)
      ·
       intro gh X K zq zc zq2 zc2 zb zv hK;refine Jg (JO (cs:=[_]) rfl (one_cell he90) (haf.sm (i:=k) (by omega)) ag33) rfl (Jn ?_);exact hK zq zc zq2 zc2 zb zv
      ·
       intro gh gh' h
       rfl
      apply EC 10 rfl
      iterate 3 focus (intros;(conv=>lhs;simp only [Jj,Jz,JX,JA,JT,eq_self,reduceEqDiff,reduceIte,reduceSub,reduceAdd,JxA,JxB]);all_goals rfl)
      ·
       intro gh X K zq zc zq2 zc2 zb zv hK;refine JF fn76 rfl rfl fun w hH=>hH.lend .z fun Hl1 hle1 hA1 hB1 hH=>(l01Times_c (had.le hle1) (own_terms (one_wf hlm) hA1) (Fe90.le hle1) hn hd (one_kex hle) (hk9 k hkl) (one_g hlp) (hf9 k hkl).1.g (by omega) (by rw [one_len];omega) (by rw [one_len];omega) hH).mono ?_;rintro _ w ⟨qo91,co91,rfl,hH⟩;replace hH:=hB1 _ _ hH;refine ⟨_,rfl,fun a hF=>JV hF hH ?_⟩;refine Jx .z (Jx (.s .z) (Jn ?_));exact hK qo91 co91 zq2 zc2 zb zv
      ·
       intro gh gh' h;refine ⟨?_,?_⟩ <;> (first | simp only [h 3 rfl] | rfl)
      apply EC 11 rfl
      iterate 3 focus (intros;(conv=>lhs;simp only [Jj,Jz,JX,JA,JT,eq_self,reduceEqDiff,reduceIte,reduceSub,reduceAdd,JxA,JxB]);all_goals rfl)
      ·
       intro gh X K zq zc zq2 zc2 zb zv hK;refine JP ze33 rfl fun g14=>(Jn ?_);exact hK zq zc zq2 zc2 g14 zv
      ·
       intro gh gh' h;refine ⟨?_,?_⟩ <;> rfl
      apply EL 12 rfl
      iterate 3 focus (intros;(conv=>lhs;simp only [Jj,Jz,JX,JA,JT,eq_self,reduceEqDiff,reduceIte,reduceSub,reduceAdd,JxA,JxB]);all_goals rfl)
      ·
       intro gh X K hK;refine Jo rfl rfl (by first | exact bytesC_one _ | exact intsC_one _ | exact Term.c_one _ | simp [Value.oneCell']) (by simpa [*] using sz33) (by simp [*]) At.z (Jn ?_);exact hK
      ·
       intro gh gh' h
       first | simp only [h 3 rfl,h 9 rfl,h 10 rfl] | rfl
      apply Es [0,1,2,3,4,5,6,7,8,9,10,11] [0,1,2,3,4,5,6,7,8,9,11,12,13,14,15,16,17,18,19,20] foll0 rfl rfl rfl (by rfl)
      iterate 2 focus (intros;(conv=>lhs;simp only [Jj,Jz,JX,JA,JT,eq_self,reduceEqDiff,reduceIte,reduceSub,reduceAdd,JxA,JxB]);all_goals rfl)
      intro gh;generalize (gh 3).c=co85;generalize (gh 3).q=qo85;generalize (gh 9).c=co91;generalize (gh 9).q=qo91;generalize (gh 10).b=g14;clear gh;refine Ja (hK29 (Et (Rs:=[_,_,_,_,_,_,_,_,_,_,_,_]) 11 [[], [], [1], [], [], [4], [1,2,3,4,5], [], [1,2,3,4,5,6,7], [0,1,2,3,4,5,6,7,8], [0,1,2,3,4,5,6,7,8,9]] [[18], [], [22], [13], [16], [], [5,12], [], [], [6,19], []] [[], [], [], [], [], [], [], [], [], [], [18]] rfl rfl (by kernel_rfl) ?_));apply Jv 1 rfl
      iterate 3 focus (intros;(conv=>lhs;simp only [Jj,Jz,JX,JA,JT,eq_self,reduceEqDiff,reduceIte,reduceSub,reduceAdd,JxA,JxB]);all_goals rfl)
      ·
       intro gh X K zq zc zq2 zc2 zb zv hK;refine Jg (Js rfl At.z (by simpa [*] using ag33)) rfl (Jn ?_);exact hK zq zc zq2 zc2 zb zv
      ·
       intro gh gh' h
       rfl
      apply Jv 2 rfl
      iterate 3 focus (intros;(conv=>lhs;simp only [Jj,Jz,JX,JA,JT,eq_self,reduceEqDiff,reduceIte,reduceSub,reduceAdd,JxA,JxB]);all_goals rfl)
      ·
       intro gh X K zq zc zq2 zc2 zb zv hK;refine Jg (Ju u25 rfl sz22 rfl) rfl (Jn ?_);exact hK zq zc zq2 zc2 zb zv
      ·
       intro gh gh' h
       rfl
      apply Jv 3 rfl
      iterate 3 focus (intros;(conv=>lhs;simp only [Jj,Jz,JX,JA,JT,eq_self,reduceEqDiff,reduceIte,reduceSub,reduceAdd,JxA,JxB]);all_goals rfl)
      ·
       intro gh X K zq zc zq2 zc2 zb zv hK;refine Jg (Jr rfl At.z rfl pl22) rfl (Jn ?_);exact hK zq zc zq2 zc2 zb zv
      ·
       intro gh gh' h
       rfl
      apply Jv 4 rfl
      iterate 3 focus (intros;(conv=>lhs;simp only [Jj,Jz,JX,JA,JT,eq_self,reduceEqDiff,reduceIte,reduceSub,reduceAdd,JxA,JxB]);all_goals rfl)
      ·
       intro gh X K zq zc zq2 zc2 zb zv hK;refine Jg (Js rfl At.z (by simpa [*] using ag33)) rfl (Jn ?_);exact hK zq zc zq2 zc2 zb zv
      ·
       intro gh gh' h
       rfl
      apply Jv 5 rfl
      iterate 3 focus (intros;(conv=>lhs;simp only [Jj,Jz,JX,JA,JT,eq_self,reduceEqDiff,reduceIte,reduceSub,reduceAdd,JxA,JxB]);all_goals rfl)
      ·
       intro gh X K zq zc zq2 zc2 zb zv hK;refine Jg (Js rfl At.z (by simpa using ag65)) rfl (Jn ?_);exact hK zq zc zq2 zc2 zb zv
      ·
       intro gh gh' h
       rfl
      apply EC 6 rfl
      iterate 3 focus (intros;(conv=>lhs;simp only [Jj,Jz,JX,JA,JT,eq_self,reduceEqDiff,reduceIte,reduceSub,reduceAdd,JxA,JxB]);all_goals rfl)
      ·
       intro gh X K zq zc zq2 zc2 zb zv hK;refine JF fn77 rfl rfl fun w hH=>(l01Single_c hbm (by omega) hH).mono ?_;rintro _ w ⟨qo97,co97,rfl,hH⟩;refine ⟨_,rfl,fun a hF=>JV hF hH ?_⟩;refine Jn ?_;exact hK qo97 co97 zq2 zc2 zb zv
      ·
       intro gh gh' h;refine ⟨?_,?_⟩ <;> rfl
      apply EC 7 rfl
      iterate 3 focus (intros;(conv=>lhs;simp only [Jj,Jz,JX,JA,JT,eq_self,reduceEqDiff,reduceIte,reduceSub,reduceAdd,JxA,JxB]);all_goals rfl)
      ·
       intro gh X K zq zc zq2 zc2 zb zv hK;refine JF fn76 rfl rfl fun w hH=>hH.lend (.s .z) fun Hl1 hle1 hA1 hB1 hH=>hH.lend .z fun Hl2 hle2 hA2 hB2 hH=>(l01Times_c ((had.le hle1).le hle2) ((own_terms (by simp only [toS_ofS,addS_one];exact gt1.wf (by omega)) hA1).le hle2) (own_terms (one_wf hbm) hA2) hn hd (by rw [toS_ofS];exact times_kex (one_g hlp) (hf9 k hkl).1.g (one_kex hle) (hk9 k hkl)) (one_kex hbe) (by simp only [toS_ofS,addS_one];exact gt1.g) (one_g hbp) (by omega) (by have h:=times_len ad (toS (ofS (addS [] (leftP (tm f i).mono k) 1))) (toS (fm af k));rw [toS_len,toS_len,one_len] at h;rw [one_len,ofS_len];omega) (by have h:=times_len ad (toS (ofS (addS [] (leftP (tm f i).mono k) 1))) (toS (fm af k));rw [toS_len,toS_len,one_len] at h;rw [ofS_len];omega) hH).mono ?_;rintro _ w ⟨qo98,co98,rfl,hH⟩;replace hH:=hB2 _ _ hH;replace hH:=hB1 _ _ hH;refine ⟨_,rfl,fun a hF=>JV hF hH ?_⟩;refine Jx .z (Jx (.s .z) (Jx (.s (.s .z)) (Jn ?_)));exact hK qo98 co98 zq2 zc2 zb zv
      ·
       intro gh gh' h;refine ⟨?_,?_⟩ <;> (first | simp only [h 5 rfl] | rfl)
      apply Jv 8 rfl
      iterate 3 focus (intros;(conv=>lhs;simp only [Jj,Jz,JX,JA,JT,eq_self,reduceEqDiff,reduceIte,reduceSub,reduceAdd,JxA,JxB]);all_goals rfl)
      ·
       intro gh X K zq zc zq2 zc2 zb zv hK;refine Jg (Jc rfl) rfl (Jn ?_);exact hK zq zc zq2 zc2 zb zv
      ·
       intro gh gh' h
       rfl
      apply Jv 9 rfl
      iterate 3 focus (intros;(conv=>lhs;simp only [Jj,Jz,JX,JA,JT,eq_self,reduceEqDiff,reduceIte,reduceSub,reduceAdd,JxA,JxB]);all_goals rfl)
      ·
       intro gh X K zq zc zq2 zc2 zb zv hK;refine JF fn79 rfl rfl fun w hH=>(l01Mod_c (by omega) hH).mono ?_;rintro _ w ⟨rfl,hH⟩;refine ⟨_,rfl,fun a hF=>JV hF hH ?_⟩;refine Jn ?_;exact hK zq zc zq2 zc2 zb zv
      ·
       intro gh gh' h
       first | simp only [h 5 rfl,h 6 rfl] | rfl
      apply EC 10 rfl
      iterate 3 focus (intros;(conv=>lhs;simp only [Jj,Jz,JX,JA,JT,eq_self,reduceEqDiff,reduceIte,reduceSub,reduceAdd,JxA,JxB]);all_goals rfl)
      ·
       intro gh X K zq zc zq2 zc2 zb zv hK;refine JF fn78 rfl rfl fun w hH=>hH.lend (.s .z) fun Hl1 hle1 hA1 hB1 hH=>hH.lend .z fun Hl2 hle2 hA2 hB2 hH=>(l01Add_c ((own_terms wfO hA1).le hle2) (own_terms (by simp only [toS_ofS,addS_one];exact gt2.wf (by omega)) hA2) (by rw [toS_ofS];exact d2_sok hf9 hs hoc (by omega) k) (by simp only [toS_ofS,addS_one];exact gt2.g) (by omega) (fld_bd _) (by have h1:=dT_len ad (toS (fm af k)) (tm f i).mono k;unfold dT at h1;rw [toS_len] at h1;simp only [toS_ofS,addS_one,ofS_len];omega) hH).mono ?_;rintro _ w ⟨qo101,co101,rfl,hH⟩;replace hH:=hB2 _ _ hH;replace hH:=hB1 _ _ hH;refine ⟨_,rfl,fun a hF=>JV hF hH ?_⟩;refine Jx .z (Jx (.s .z) (Jx (.s (.s .z)) (Jn ?_)));exact hK qo101 co101 zq2 zc2 zb zv
      ·
       intro gh gh' h;refine ⟨?_,?_⟩ <;> (first | simp only [h 5 rfl,h 6 rfl] | rfl)
      apply EL 11 rfl
      iterate 3 focus (intros;(conv=>lhs;simp only [Jj,Jz,JX,JA,JT,eq_self,reduceEqDiff,reduceIte,reduceSub,reduceAdd,JxA,JxB]);all_goals rfl)
      ·
       intro gh X K hK;refine Jo rfl rfl (by first | exact bytesC_one _ | exact intsC_one _ | exact Term.c_one _ | simp [Value.oneCell']) (by simpa [*] using sz33) (by simp [*]) At.z (Jn ?_);exact hK
      ·
       intro gh gh' h
       first | simp only [h 5 rfl,h 6 rfl,h 9 rfl] | rfl
      apply Es [0,1,2,3,4,5,6,7,8,9,10] [0,1,2,3,4,5,6,7,8,9,10,11,12,13,14,15,16,17,19,20,21,22] foll0 rfl rfl rfl (by rfl)
      iterate 2 focus (intros;(conv=>lhs;simp only [Jj,Jz,JX,JA,JT,eq_self,reduceEqDiff,reduceIte,reduceSub,reduceAdd,JxA,JxB]);all_goals rfl)
      intro gh;generalize (gh 5).c=co97;generalize (gh 5).q=qo97;generalize (gh 6).c=co98;generalize (gh 6).q=qo98;generalize (gh 9).c=co101;generalize (gh 9).q=qo101;clear gh;refine JD (Ja (hK12 (Jb (Jg (Jc rfl) rfl (Jg (Jy rfl rfl (by first | exact nw _ (by omega) | rfl)) rfl (Jg (Jd rfl) rfl (Jf (Ja (JL (.s (.s (.s (.s (.s (.s (.s (.s (.s (.s (.s .z))))))))))) (JL .z (JL .z (JL (.s (.s .z)) (JL (.s (.s .z)) (JL (.s (.s .z)) (JL (.s (.s .z)) ?_)))))))))))))));refine JL (.s (.s .z)) (JL (.s (.s .z)) (Jx (.s (.s (.s (.s (.s .z))))) (Jx (.s (.s (.s (.s (.s .z))))) (Jx (.s (.s (.s (.s (.s .z))))) (Jx (.s (.s (.s .z))) (Jx (.s (.s (.s (.s .z)))) (Jx (.s (.s (.s (.s (.s .z))))) ?_)))))));exact hAg1 (qo101,co101,k+1) (by show k+1≤ad.length;omega) (by show ad.length - (k+1)<ad.length - k;omega) 63 rfl rfl ⟨rfl,trivial⟩ rfl (by simp only [toS_ofS,addS_one];rw [← acc_dP (ds:=ad) (fs:=af) (x:=((tm f i).mono,(tm f i).fac)) (k:=k) hpos,← hv];rfl)
  ·
   refine JI (Jl (Jl (JR (JD (Ja (hK7 (Jb (Jg (Jc rfl) rfl (Jg (Jy rfl rfl (by first | exact nw _ (by omega) | rfl)) rfl (Jg (Jd rfl) rfl (Jf (Ja (JL .z ?_)))))))))))));exact hAg0 (q1,c1,i+1) (by show i+1≤f.length;omega) (by show f.length - (i+1)<f.length - i;omega) 23 rfl rfl ⟨rfl,trivial⟩ rfl (by dsimp only;rw [dAll_take (by omega),← dLk_8 hn hxe,show ad.length=k by omega])
 ·
  refine JI (Jl (Jl (JR (Ja (hK3 (Je fun _ hK30 _=>(Jb (Jg (Js rfl At.z (by simpa [*] using ag33)) rfl (Jo rfl rfl (by first | exact bytesC_one _ | exact intsC_one _ | exact Term.c_one _ | simp [Value.oneCell']) (by simpa [*] using sz33) (by simp [*]) (.s (.s .z)) (Jf (Ja (hK30 (Jp (Jt rfl (Res.agg rfl (.s (.s .z)) (by simpa [*] using ag33)) fun w hH=>?_))))))))))))));replace hH:=hH.sublist (.cons _ (.cons_cons _ (.cons _ (.cons _ (.cons _ (List.Sublist.refl _))))))
  obtain rfl:i=f.length:=by omega
  rw [List.take_length] at hH ⊢;exact ⟨_,_,rfl,hH⟩
theorem fn89:Fn Tryz.prog 89:=⟨_,Tryz.func89,by kernel_rfl,rfl⟩
theorem fn90:Fn Tryz.prog 90:=⟨_,Tryz.func90,by kernel_rfl,rfl⟩
def ClF (B:World) (H0 H:HP) (g:Nat) (cap:Array Value) (S:List Term→Prop) (p:List Term→Bool):Prop:=∀(H':HP) (L:List SA) (w:World) (q:Option Addr) (c:Nat) (x:List Term),Le H H' →S x→Terms H' q x→Hp B H0 H' L w→Calls Tryz.prog g (#[]++[.agg [.slice q x.length c].toArray].toArray++cap) w fun e w'=>e = .returned (.bool (p x))∧Hp B H0 H' L w'
def idxF (xs:List (List Term)) (p:List Term→Bool):Int:=if xs.any p then (xs.findIdx p:Int) else -1
theorem fm_eq {xs:List (List Term)} {j:Nat} (hj:j<xs.length):xs[j]=fm xs j:=by simp [fm,List.getD_eq_getElem?_getD,List.getElem?_eq_getElem hj]
theorem fm_mem {xs:List (List Term)} {j:Nat} (hj:j<xs.length):fm xs j∈xs:=by rw [← fm_eq hj];exact List.getElem_mem hj
theorem idxF_hit {xs:List (List Term)} {p:List Term→Bool} {k:Nat} (hk:k<xs.length) (h : ∀j,j<k→p (fm xs j)=false) (hp:p (fm xs k)=true):idxF xs p=k:=by
 unfold idxF;have ha:xs.any p=true:=List.any_eq_true.2 ⟨xs[k],List.getElem_mem hk,by rw [fm_eq];exact hp⟩;rw [if_pos ha]
 have:xs.findIdx p=k:=by
  rw [List.findIdx_eq hk];exact ⟨by rw [fm_eq];exact hp,fun j hj=>by rw [fm_eq];exact h j hj⟩
 rw [this]
theorem idxF_miss {xs:List (List Term)} {p:List Term→Bool} (h : ∀j,j<xs.length→p (fm xs j)=false):idxF xs p = -1:=by
 unfold idxF;rw [if_neg];intro ha;obtain ⟨x,hx,hp⟩:=List.any_eq_true.1 ha;obtain ⟨j,hj,rfl⟩:=List.mem_iff_getElem.1 hx;rw [fm_eq hj,h j hj] at hp
 cases hp
theorem idxF_ge (xs:List (List Term)) (p:List Term→Bool):decide (idxF xs p≥0)=xs.any p:=by
 unfold idxF
 cases h:xs.any p with
 | true=>rw [if_pos rfl];exact decide_eq_true (by omega)
 | false=>rw [if_neg (by simp)];exact decide_eq_false (by omega)
def degOk (ds:List Int) (ts:List Term) (x:Int):Bool:=homog ds ts && (decide (degF ds ts = -1) || decide (degF ds ts=x))
def imOk (ds:List Int) (fs:List (List Term)) (i:Nat):Bool:=isForm ds (fm fs i) && degOk ds (fm fs i) (ds.getD i 0+1)
def imsOk (ds:List Int) (fs:List (List Term)):Bool:=(List.range fs.length).all (imOk ds fs)
def noD (ds:List Int) (fs:List (List Term)):Bool:=(List.range fs.length).all fun i=>decide ((dS ds fs (toS (fm fs i))).length=0)
def isAlg (ds:List Int) (fs:List (List Term)):Bool:=isDeg ds && decide (fs.length=ds.length) && imsOk ds fs && noD ds fs
theorem imsOk_bad {ds:List Int} {fs:List (List Term)} {i:Nat} (hi:i<fs.length) (h:imOk ds fs i=false):imsOk ds fs=false:=List.all_eq_false.2 ⟨i,by simpa using hi,by simp [h]⟩
theorem imsOk_good {ds:List Int} {fs:List (List Term)} (h : ∀j,j<fs.length→imOk ds fs j=true):imsOk ds fs=true:=List.all_eq_true.2 fun j hj=>h j (by simpa using hj)
theorem imsOk_at {ds:List Int} {fs:List (List Term)} (h:imsOk ds fs=true) {i:Nat} (hi:i<fs.length):imOk ds fs i=true:=List.all_eq_true.1 h i (by simpa using hi)
theorem noD_bad {ds:List Int} {fs:List (List Term)} {i:Nat} (hi:i<fs.length) (h : ¬(dS ds fs (toS (fm fs i))).length=0):noD ds fs=false:=List.all_eq_false.2 ⟨i,by simpa using hi,by simpa using h⟩
theorem noD_good {ds:List Int} {fs:List (List Term)} (h : ∀j,j<fs.length→(dS ds fs (toS (fm fs j))).length=0):noD ds fs=true:=List.all_eq_true.2 fun j hj=>by simpa using h j (by simpa using hj)
theorem isMono_le {ds m:List Int} (h:isMono ds m=true) {j:Nat} (hj:j<8):m.getD j 0≤most ds j:=by
 unfold isMono at h
 simpa using List.all_eq_true.1 h j (by simpa using hj)
theorem isMono_pok {ds m:List Int} (h:isMono ds m=true) (hm:Mono m):Pok 20 m:=⟨hm.len,fun j=>by
 have b:=hm.bd j
 rcases Nat.lt_or_ge j 8 with hj | hj
 ·have:=isMono_le h hj
  unfold most at this
  split at this
  ·split at this <;> omega
  ·omega
 ·rw [getD_ge (by rw [hm.len];omega)]
  omega⟩
theorem isMono_ex {ds m:List Int} (hd : ∀j,0≤ds.getD j 0∧ds.getD j 0≤12) (hn:ds.length≤8) (h:isMono ds m=true) (hm:Mono m):Ex ds m:=⟨fun i hi=>by
 rcases Nat.lt_or_ge i 8 with hj | hj
 ·have a:=isMono_le h hj
  have b:=(hm.bd i).1
  rw [most_ge (by omega)] at a
  omega
 ·exact getD_ge (by rw [hm.len];omega),fun i hi ho=>by
 have a:=isMono_le h (j:=i) (by omega)
 rw [most_odd (by omega) ho (hd i).1] at a
 exact a⟩
theorem isForm_at {ds:List Int} {ts:List Term} (h:isForm ds ts=true) {i:Nat} (hi:i<ts.length):goodAt ds ts i=true:=by
 unfold isForm at h;exact List.all_eq_true.1 (Bool.and_eq_true_iff.1 h).2 i (by simpa using hi)
theorem srt_of {s:Sm}:(∀i,0<i→i<s.length→before (s.getD (i - 1) ([],0)).1 (s.getD i ([],0)).1=true)→s.Pairwise fun x y=>before x.1 y.1=true:=by
 induction s with
 | nil=>intro _;exact List.Pairwise.nil
 | cons x s ih=>
  intro h
  have h2:=ih fun i h0 hi=>by
   have:=h (i+1) (by omega) (by simp;omega);simp only [Nat.add_sub_cancel,List.getD_cons_succ] at this;rw [show i=(i - 1)+1 by omega,List.getD_cons_succ] at this
   rwa [show i - 1+1=i by omega] at this
  refine List.pairwise_cons.2 ⟨fun y hy=>?_,h2⟩
  cases s with
  | nil=>simp at hy
  | cons z s=>
   have hz:before x.1 z.1=true:=by simpa using h 1 (by omega) (by simp)
   rcases List.mem_cons.1 hy with rfl | hy
   ·exact hz
   ·exact before_tr hz ((List.pairwise_cons.1 h2).1 y hy)
theorem toS_getD {ts:List Term} {i:Nat} (hi:i<ts.length):(toS ts).getD i ([],0)=((tm ts i).mono,(tm ts i).fac):=by
 simp [toS,tm,List.getD_eq_getElem?_getD,hi]
theorem isForm_sok {ds:List Int} {ts:List Term} (hw:Wfs ts) (h:isForm ds ts=true):Sok 20 (toS ts):=by
 have hg : ∀i,i<ts.length→isMono ds (tm ts i).mono=true∧(1≤(tm ts i).fac∧(tm ts i).fac≤10006)∧(i=0∨before (tm ts (i - 1)).mono (tm ts i).mono=true):=fun i hi=>by
  have:=isForm_at h hi;unfold goodAt at this
  simpa [and_assoc] using this
 refine ⟨srt_of fun i h0 hi=>?_,fun x hx=>?_,fun x hx=>?_⟩
 ·rw [toS_len] at hi;rw [toS_getD hi,toS_getD (by omega)];exact (hg i hi).2.2.resolve_left (by omega)
 ·obtain ⟨t,ht,rfl⟩:=toS_mem hx;obtain ⟨i,hi,rfl⟩:=List.mem_iff_getElem.1 ht;rw [tm_eq hi];exact isMono_pok (hg i hi).1 (hw _ (by rw [← tm_eq hi];exact ht)).mono
 ·obtain ⟨t,ht,rfl⟩:=toS_mem hx;obtain ⟨i,hi,rfl⟩:=List.mem_iff_getElem.1 ht;rw [tm_eq hi];exact (hg i hi).2.1
theorem isForm_kex {ds:List Int} {ts:List Term} (hd : ∀j,0≤ds.getD j 0∧ds.getD j 0≤12) (hn:ds.length≤8) (hw:Wfs ts) (h:isForm ds ts=true):KEx ds (toS ts):=fun x hx=>by
 obtain ⟨t,ht,rfl⟩:=toS_mem hx
 obtain ⟨i,hi,rfl⟩:=List.mem_iff_getElem.1 ht
 have:=isForm_at h hi
 unfold goodAt at this
 rw [tm_eq hi]
 exact isMono_ex hd hn (by simp at this;exact this.1.1) (hw _ (by rw [← tm_eq hi];exact ht)).mono
theorem isForm_len4 {ds:List Int} {ts:List Term} (h:isForm ds ts=true):ts.length≤400:=by
 unfold isForm at h
 simpa using (Bool.and_eq_true_iff.1 h).1
theorem Wfss.fm {fs:List (List Term)} (h:Wfss fs) (i:Nat):Wfs (G.fm fs i):=by
 rcases Nat.lt_or_ge i fs.length with hi | hi
 ·exact h _ (fm_mem hi)
 ·rw [G.fm,List.getD_eq_getElem?_getD,List.getElem?_eq_none hi];exact Wfs.nil
structure AlgOk (ds:List Int) (fs:List (List Term)):Prop where
 hn:ds.length≤8
 hd : ∀j,0≤ds.getD j 0∧ds.getD j 0≤12
 hl:fs.length=ds.length
 ok : ∀i,i<fs.length→isForm ds (fm fs i)=true
 wf:Wfss fs
theorem AlgOk.fok {ds:List Int} {fs:List (List Term)} (h:AlgOk ds fs):Fok 20 fs:=fun i hi=>⟨isForm_sok (h.wf.fm i) (h.ok i hi),by have:=isForm_len4 (h.ok i hi);omega⟩
theorem AlgOk.kex {ds:List Int} {fs:List (List Term)} (h:AlgOk ds fs) : ∀i,i<fs.length→KEx ds (toS (G.fm fs i)):=fun i hi=>isForm_kex h.hd h.hn (h.wf.fm i) (h.ok i hi)
theorem AlgOk.len {ds:List Int} {fs:List (List Term)} (h:AlgOk ds fs) : ∀i,i<fs.length→(G.fm fs i).length≤10000:=fun i hi=>by have:=isForm_len4 (h.ok i hi);omega
theorem AlgOk.of {ds:List Int} {fs:List (List Term)} (hD:isDeg ds=true) (hl:fs.length=ds.length) (hi:imsOk ds fs=true) (hw:Wfss fs):AlgOk ds fs:=⟨isDeg_len hD,isDeg_bd hD,hl,fun i h=>(Bool.and_eq_true_iff.1 (imsOk_at hi h)).1,hw⟩
theorem isAlg_ok {ds:List Int} {fs:List (List Term)} (h:isAlg ds fs=true) (hw:Wfss fs):AlgOk ds fs:=by
 unfold isAlg at h;simp only [Bool.and_eq_true,decide_eq_true_eq] at h;exact AlgOk.of h.1.1.1 h.1.1.2 h.1.2 hw
theorem degF_neg {ds:List Int} {ts:List Term} (hn:ds.length≤8) (hd : ∀j,0≤ds.getD j 0∧ds.getD j 0≤12) (hw:Wfs ts) (hh:homog ds ts=true):degF ds ts = -1↔¬(0<ts.length):=by
 unfold degF outAt;rw [hh,if_pos rfl]
 by_cases e:ts.length=0
 ·rw [if_pos e];omega
 ·rw [if_neg e];have:=wd_bd (i:=0) (ts:=ts) hn hd (hw _ (by rw [← tm_eq (by omega)];exact List.getElem_mem (by omega))).mono
  omega
theorem IndexFuncF_c {B:World} {H0 H:HP} {L:List SA} {w:World} {qxs:Option Addr} {cxs:Nat} {xs:List (List Term)} {gp:Nat} {capp:Array Value} {Sp:List Term→Prop} {p:List Term→Bool} (hxs:Forms H qxs xs) (hgp:Fn Tryz.prog gp) (hp:ClF B H0 H gp capp Sp p) (hn:xs.length≤9223372036854775807) (hS : ∀i,i<xs.length→Sp (fm xs i)) (hH:Hp B H0 H L w):Calls Tryz.prog 90 [.slice qxs xs.length cxs,.func (.func gp) #[] capp].toArray w fun e w'=>e = .returned (.int .i64 (idxF xs p))∧Hp B H0 H L w':=by
 refine JB Tryz.func90 rfl 19 rfl rfl [(0,.slice qxs xs.length cxs),(1,.func (.func gp) #[] capp)] rfl hH ?_;clear hH;refine Je fun _ hK1 _=>(Jb (Jg (Jd rfl) rfl (Jf (Ja (hK1 (Je fun _ hK2 _=>(Je fun _ hK3 _=>(Jb (Jg (Jc rfl) rfl (Jg (Jq u23 rfl rfl) rfl (Jg (Jc rfl) rfl (Jf (Ja (hK3 (Jm (JE (σ:=Nat) (fun (k:Nat)=>[(8,.int .i64 (k:Int))]) (fun (k:Nat)=>H) (fun (k:Nat)=>L) (fun (k:Nat)=>k≤xs.length∧∀j,j<k→p (fm xs j)=false) (fun (k:Nat)=>xs.length - k) 0 ⟨by omega,fun j hj=>by omega⟩ ⟨rfl,trivial⟩ rfl rfl ?_))))))))))))))));rintro k hI _ hAg0;have hk:=hI.1;refine Je fun _ hK4 _=>(Jb (Jg (JK rfl rfl) rfl (Jf (Ja (hK4 (Je fun _ hK5 _=>(Jk rfl (fun hc9=>?_) (fun hc9=>?_))))))))
 ·
  refine Ji (Ja (hK5 (Je fun _ hK6 _=>(Jm (Je fun _ hK7 _=>(Jb (Jg (Jc rfl) rfl (Jg (Jd rfl) rfl (Jf (Ja (hK7 (Je fun _ hK8 _=>(Jb (Jg (Jc rfl) rfl (Jg (Jc rfl) rfl (Jg (Jc rfl) rfl ?_))))))))))))))));refine Jg (Eg u23 sz33 rfl rfl rfl (by omega) hxs.sm) rfl ?_;obtain ⟨qe15,ce15,he15,le15,Fe15⟩:=hxs k (by omega);refine Jg (JO (cs:=[_]) rfl (one_cell he15) (hxs.sm (i:=k) (by omega)) ag33) rfl (J.callV hgp rfl rfl rfl fun w hH=>(hp _ _ w _ _ _ (Le.refl _) (hS _ (by omega)) Fe15 hH).mono ?_);rintro _ w ⟨rfl,hH⟩;refine ⟨_,rfl,fun a hF=>JV hF hH ?_⟩;refine Jf (Ja (hK8 (Eh rfl (fun h16=>?_) (fun h16=>?_))))
  ·
   refine Je fun _ hK9 _=>(Jb (Jg (Jc rfl) rfl (Jg (Jd rfl) rfl (Jf (Ja (hK9 (Jp (JH (Jh (Jh (JH (Jh (Jt rfl (Res.tmp rfl) fun w hH=>?_)))))))))))));exact ⟨ri (idxF_hit (by omega) hI.2 h16).symm,hH⟩
  ·
   refine Ji (JD (Ja (hK6 (Jb (Jg (Jy rfl rfl (by first | exact nw _ (by omega) | rfl)) rfl (Jg (Jc rfl) rfl (Jf (Ja ?_))))))));exact hAg0 (k+1) ⟨by omega,upto hI.2 h16⟩ (by omega) 12 rfl rfl ⟨rfl,trivial⟩ rfl rfl
 ·
  refine JI (Jl (Jl (JR (Ja (hK2 (Je fun _ hK10 _=>(Jb (Jg (Jd rfl) rfl (Jf (Ja (hK10 (Jp (Jt rfl (Res.tmp rfl) fun w hH=>?_)))))))))))));exact ⟨ri (idxF_miss (fun j hj=>hI.2 j (by omega))).symm,hH⟩
theorem ContainsFuncF_c {B:World} {H0 H:HP} {L:List SA} {w:World} {qxs:Option Addr} {cxs:Nat} {xs:List (List Term)} {gp:Nat} {capp:Array Value} {Sp:List Term→Prop} {p:List Term→Bool} (hxs:Forms H qxs xs) (hgp:Fn Tryz.prog gp) (hp:ClF B H0 H gp capp Sp p) (hn:xs.length≤9223372036854775807) (hS : ∀i,i<xs.length→Sp (fm xs i)) (hH:Hp B H0 H L w):Calls Tryz.prog 57 [.slice qxs xs.length cxs,.func (.func gp) #[] capp].toArray w fun e w'=>e = .returned (.bool (xs.any p))∧Hp B H0 H L w':=by
 refine JB Tryz.func57 rfl 9 rfl rfl [(0,.slice qxs xs.length cxs),(1,.func (.func gp) #[] capp)] rfl hH ?_;clear hH;refine Je fun _ hK1 _=>(Jb (Jg (Jd rfl) rfl (Jf (Ja (hK1 (Je fun _ hK2 _=>(Jb (Jg (Jc rfl) rfl (Jg (Jc rfl) rfl (JF fn90 rfl rfl fun w hH=>(IndexFuncF_c hxs hgp hp (by omega) hS hH).mono ?_))))))))));rintro _ w ⟨rfl,hH⟩;refine ⟨_,rfl,fun a hF=>JV hF hH ?_⟩;refine Jg (PR.geq rfl rfl) rfl (Jg (Jd rfl) rfl (Jf (Ja (hK2 (Jp (Jt rfl (Res.tmp rfl) fun w hH=>?_))))));exact ⟨rb (idxF_ge xs p),hH⟩
theorem isOfDegree_c {B:World} {H0 H:HP} {L:List SA} {w:World} {qds:Option Addr} {cds:Nat} {ds:List Int} {qts:Option Addr} {cts:Nat} {ts:List Term} {x:Int} (hds:Ints H qds ds) (hts:Terms H qts ts) (hn:ds.length≤8) (hd : ∀j,0≤ds.getD j 0∧ds.getD j 0≤12) (hl:ts.length≤9223372036854775807) (hH:Hp B H0 H L w):Calls Tryz.prog 56 [.slice qds ds.length cds,.agg [.slice qts ts.length cts].toArray,.int .i64 x].toArray w fun e w'=>e = .returned (.bool (degOk ds ts x))∧Hp B H0 H L w':=by
 refine JB Tryz.func56 rfl 25 rfl rfl [(0,.slice qds ds.length cds),(1,.agg [.slice qts ts.length cts].toArray),(2,.int .i64 x)] rfl hH ?_;clear hH;refine Je fun _ hK1 _=>(Jb (Ei rfl rfl rfl fun g4=>(Jg (Jd rfl) rfl (Jf (Ja (hK1 (Je fun _ hK2 _=>(Jb (Jg (Jc rfl) rfl (Jg (Js rfl At.z (by simpa [*] using ag33)) rfl (JF fn89 rfl rfl fun w hH=>(degreeOf_c hds hts hn hd (by omega) hH).mono ?_)))))))))));rintro _ w ⟨rfl,hH⟩;refine ⟨_,rfl,fun a hF=>JV hF hH ?_⟩;refine Jg (Jc rfl) rfl (Jg (JC rfl rfl) rfl (Jg (JC rfl rfl) rfl (Jg (Jd rfl) rfl (Jg (Jd rfl) rfl (Jf (Ja (hK2 (Je fun _ hK3 _=>(Jb (Jg (Jc rfl) rfl (Jg (Jc rfl) rfl (Ee (jd:=16) rfl (fun hg16=>?_) (fun hg16=>?_)))))))))))))
 ·
  try have hg16p:=of_decide_eq_true hg16
  refine JQ (Jc rfl) rfl rfl rfl hg16 (JQ (EB rfl rfl) rfl rfl rfl hg16 (JQ (Jc rfl) rfl rfl rfl hg16 (Ee (jd:=19) rfl (fun hg19=>?_) (fun hg19=>?_))))
  ·
   try have hg19p:=of_decide_eq_true hg19
   refine JJ rfl rfl rfl hg19 (JJ rfl rfl rfl hg19 (JJ rfl rfl rfl hg19 (JQ (JU rfl hg19 rfl) rfl rfl rfl hg16 (Jg (JU rfl hg16 rfl) rfl (Jg (Jd rfl) rfl (Jf (Ja (hK3 (Jp (Jt rfl (Res.tmp rfl) fun w hH=>?_))))))))));replace hH:=hH.tail;exact ⟨rb (by unfold degOk;rw [hg16,hg19];rfl),hH⟩
  ·
   try have hg19p:=of_decide_eq_false hg19
   refine JQ (Jc rfl) rfl rfl rfl hg19 (JQ (Jc rfl) rfl rfl rfl hg19 (JQ (EB rfl rfl) rfl rfl rfl hg19 (JQ (JM rfl hg19 rfl) rfl rfl rfl hg16 (Jg (JU rfl hg16 rfl) rfl (Jg (Jd rfl) rfl (Jf (Ja (hK3 (Jp (Jt rfl (Res.tmp rfl) fun w hH=>?_))))))))));replace hH:=hH.tail;exact ⟨rb (by unfold degOk;rw [hg16,hg19];simp),hH⟩
 ·
  try have hg16p:=of_decide_eq_false hg16
  refine JJ rfl rfl rfl hg16 (JJ rfl rfl rfl hg16 (JJ rfl rfl rfl hg16 (J.gu rfl rfl rfl (J.gu rfl rfl rfl (J.gu rfl rfl rfl (JJ rfl rfl rfl hg16 (Jg (JM rfl hg16 rfl) rfl (Jg (Jd rfl) rfl (Jf (Ja (hK3 (Jp (Jt rfl (Res.tmp rfl) fun w hH=>?_)))))))))))));replace hH:=hH.tail;exact ⟨rb (by unfold degOk;rw [hg16];rfl),hH⟩
theorem ag25:Agg Tryz.prog 25 2:=⟨_,u25,rfl,by kernel_rfl⟩
theorem fn24:Fn Tryz.prog 24:=⟨_,Tryz.func24,by kernel_rfl,rfl⟩
theorem fn26:Fn Tryz.prog 26:=⟨_,Tryz.func26,by kernel_rfl,rfl⟩
theorem fn41:Fn Tryz.prog 41:=⟨_,Tryz.func41,by kernel_rfl,rfl⟩
theorem fn47:Fn Tryz.prog 47:=⟨_,Tryz.func47,by kernel_rfl,rfl⟩
theorem fn50:Fn Tryz.prog 50:=⟨_,Tryz.func50,by kernel_rfl,rfl⟩
theorem fn51:Fn Tryz.prog 51:=⟨_,Tryz.func51,by kernel_rfl,rfl⟩
theorem fn56:Fn Tryz.prog 56:=⟨_,Tryz.func56,by kernel_rfl,rfl⟩
theorem fn57:Fn Tryz.prog 57:=⟨_,Tryz.func57,by kernel_rfl,rfl⟩
theorem fn58:Fn Tryz.prog 58:=⟨_,Tryz.func58,by kernel_rfl,rfl⟩
theorem fn59:Fn Tryz.prog 59:=⟨_,Tryz.func59,by kernel_rfl,rfl⟩
theorem imOk_yes {ds:List Int} {fs:List (List Term)} {i:Nat} (h1:isForm ds (fm fs i)=true) (h2:homog ds (fm fs i)=true) (h3:degF ds (fm fs i) = -1∨degF ds (fm fs i)=ds.getD i 0+1):imOk ds fs i=true:=by
 unfold imOk degOk;rw [h1,h2]
 rcases h3 with h | h <;> rw [decide_eq_true h] <;> simp
theorem imOk_no1 {ds:List Int} {fs:List (List Term)} {i:Nat} (h1:isForm ds (fm fs i)=false):imOk ds fs i=false:=by unfold imOk;rw [h1];rfl
theorem imOk_no2 {ds:List Int} {fs:List (List Term)} {i:Nat} (h1:homog ds (fm fs i)=false):imOk ds fs i=false:=by unfold imOk degOk;rw [h1];simp
theorem imOk_no3 {ds:List Int} {fs:List (List Term)} {i:Nat} (h1 : ¬degF ds (fm fs i) = -1) (h2 : ¬degF ds (fm fs i)=ds.getD i 0+1):imOk ds fs i=false:=by unfold imOk degOk;rw [decide_eq_false h1,decide_eq_false h2];simp
theorem l02Is_c {B:World} {H0 H:HP} {L:List SA} {w:World} {qad qaf:Option Addr} {cad caf:Nat} {ad:List Int} {af:List (List Term)} (had:Ints H qad ad) (haf:Forms H qaf af) (hn8:ad.length≤1048576) (hn9:af.length≤1048576) (hl9 : ∀i,i<af.length→(fm af i).length≤1048576) (hH:Hp B H0 H L w):Calls Tryz.prog 33 [.agg [.slice qad ad.length cad,.slice qaf af.length caf].toArray].toArray w fun e w'=>e = .returned (.bool (isAlg ad af))∧Hp B H0 H L w':=by
 refine JB Tryz.func33 rfl 86 rfl rfl [(0,.agg [.slice qad ad.length cad,.slice qaf af.length caf].toArray)] rfl hH ?_;clear hH;refine Je fun _ hK1 _=>(Jb (Ei rfl rfl rfl fun g1=>(Jg (Jd rfl) rfl (Jf (Ja (hK1 (Je fun _ hK2 _=>(Je fun _ hK3 _=>(Jb (Jg (Ju u25 rfl sz22 rfl) rfl (Jg (Jr rfl At.z rfl pl22) rfl (JF fn24 rfl rfl fun w hH=>(l01Degrees_c had (by omega) hH).mono ?_))))))))))));rintro _ w ⟨rfl,hH⟩;refine ⟨_,rfl,fun a hF=>JV hF hH ?_⟩;refine Jg (Eq rfl) rfl (Jg (Jc rfl) rfl (Ee (jd:=11) rfl (fun hg11=>?_) (fun hg11=>?_)))
 ·
  try have hg11p:=of_decide_eq_true hg11
  refine JJ rfl rfl rfl hg11 (JJ rfl rfl rfl hg11 (JJ rfl rfl rfl hg11 (JJ rfl rfl rfl hg11 (JJ rfl rfl rfl hg11 (JJ rfl rfl rfl hg11 (JJ rfl rfl rfl hg11 (Jg (JU rfl hg11 rfl) rfl (Jf (Ja (hK3 (Er rfl (Je fun _ hK4 _=>(Jb (Jg (Jd rfl) rfl (Jf ?_)))))))))))))));refine Ja (hK4 (Jp (Jh (Jt rfl (Res.tmp rfl) fun w hH=>?_))));replace hH:=hH.tail;exact ⟨rb (by unfold isAlg;rw [show isDeg ad=false by simpa using hg11];rfl),hH⟩
 ·
  try have hg11p:=of_decide_eq_false hg11
  refine JQ (Ju u25 rfl sz23 rfl) rfl rfl rfl hg11 (JQ (Jr rfl At.z rfl pl23) rfl rfl rfl hg11 (JQ (Jq u23 rfl rfl) rfl rfl rfl hg11 (JQ (Ju u25 rfl sz22 rfl) rfl rfl rfl hg11 (JQ (Jr rfl At.z rfl pl22) rfl rfl rfl hg11 (JQ (Jq u22 rfl rfl) rfl rfl rfl hg11 (JQ (Eo rfl rfl) rfl rfl rfl hg11 (Jg (JM rfl hg11 rfl) rfl (Jf (Ja (hK3 (Jk rfl (fun hc19=>?_) (fun hc19=>?_))))))))))))
  ·
   refine Je fun _ hK5 _=>(Jb (Jg (Jd rfl) rfl (Jf (Ja (hK5 (Jp (Jh (Jt rfl (Res.tmp rfl) fun w hH=>?_))))))));replace hH:=hH.tail;exact ⟨rb (by unfold isAlg;rw [decide_eq_false (show ¬af.length=ad.length by omega)];simp),hH⟩
  ·
   have hD:isDeg ad=true:=by simpa using hg11
   have hn:=isDeg_len hD;have hd:=isDeg_bd hD
   have hlen:af.length=ad.length:=by omega
   have hpos9 : ∀j,j<ad.length→0≤ad.getD j 0:=fun j _=>(hd j).1;refine Ji (Ja (hK2 (Je fun _ hK6 _=>(Je fun _ hK7 _=>(Jb (Jg (Jd rfl) rfl (Jf (Ja (hK7 (Jm (JE (σ:=Nat) (fun (i:Nat)=>[(3,.int .i64 (i:Int))]) (fun (i:Nat)=>H) (fun (i:Nat)=>obj g1 (.cells [.slice qad ad.length cad,.slice qaf af.length caf].toArray 25 (0,0))::L) (fun (i:Nat)=>i≤af.length∧∀j,j<i→imOk ad af j=true) (fun (i:Nat)=>af.length - i) 0 ⟨by omega,fun j hj=>by omega⟩ ⟨rfl,trivial⟩ rfl rfl ?_)))))))))));rintro i ⟨hi,hI⟩ _ hAg0;refine Je fun _ hK8 _=>(Je fun _ hK9 _=>(Jb (Jg (Jc rfl) rfl (Jg (Ju u25 rfl sz23 rfl) rfl (Jg (Jr rfl At.z rfl pl23) rfl (Jg (Jq u23 rfl rfl) rfl (Jg (JK rfl rfl) rfl (Jf (Ja (hK9 (Jk rfl (fun hc24=>?_) (fun hc24=>?_))))))))))))
   ·
    have hl0:=hl9 i (by omega);have hdi:=hd i;refine Ji (Ja (hK8 (Je fun _ hK10 _=>(Jm (Je fun _ hK11 _=>(Je fun _ hK12 _=>(En [[], [0], [], [2], [], [3,4], [5]] (by kernel_rfl) (Jw (fun gh=>Ju u25 rfl sz22 rfl) (Jw (fun gh=>Jr rfl At.z rfl pl22) (Jw (fun gh=>Ju u25 rfl sz23 rfl) (Jw (fun gh=>Jr rfl At.z rfl pl23) (Jw (fun gh=>Jc rfl) (Jw (fun gh=>Eg u23 sz33 rfl rfl rfl (by omega) haf.sm) ?_)))))))))))));obtain ⟨qe33,ce33,he33,le33,Fe33⟩:=haf i (by omega);refine Jw (fun gh=>JO (cs:=[_]) rfl (one_cell he33) (haf.sm (i:=i) (by omega)) ag33) (Ec 7 1 foll0 (by kernel_rfl) rfl rfl fun gh=>(Ek (us':=(27,_)::(28,_)::(29,_)::(30,_)::(31,_)::(32,_)::(33,_)::_) (L':=_) rfl rfl (JF fn41 rfl rfl fun w hH=>(l01Is_c had Fe33 (by omega) hpos9 (by omega) hH).mono ?_)));rintro _ w ⟨rfl,hH⟩;refine ⟨_,rfl,fun a hF=>JV hF hH ?_⟩;refine Jf (Eb (JG (Eq rfl) rfl (Ef (Ja (hK12 (Eh rfl (fun h35=>?_) (fun h35=>?_)))))))
    ·
     refine Je fun _ hK13 _=>(Jb (Jg (Jd rfl) rfl (Jf (Ja (hK13 (Jp (Jh (JH (Jh (Jh (JH (Jh (Jt rfl (Res.tmp rfl) fun w hH=>?_)))))))))))));replace hH:=hH.tail;exact ⟨rb (by unfold isAlg;rw [imsOk_bad (i:=i) (by omega) (imOk_no1 (by simpa using h35))];simp),hH⟩
    ·
     have hfo:isForm ad (fm af i)=true:=by simpa using h35
     refine Ji (Ja (hK11 (Je fun _ hK14 _=>(En [[], [0], [], [2], [], [3,4], [5]] (by kernel_rfl) (Jw (fun gh=>Ju u25 rfl sz22 rfl) (Jw (fun gh=>Jr rfl At.z rfl pl22) (Jw (fun gh=>Ju u25 rfl sz23 rfl) (Jw (fun gh=>Jr rfl At.z rfl pl23) (Jw (fun gh=>Jc rfl) (Jw (fun gh=>Eg u23 sz33 rfl rfl rfl (by omega) haf.sm) ?_))))))))));obtain ⟨qe43,ce43,he43,le43,Fe43⟩:=haf i (by omega);refine Jw (fun gh=>JO (cs:=[_]) rfl (one_cell he43) (haf.sm (i:=i) (by omega)) ag33) (Ec 7 1 foll0 (by kernel_rfl) rfl rfl fun gh=>(Ek (us':=(37,_)::(38,_)::(39,_)::(40,_)::(41,_)::(42,_)::(43,_)::_) (L':=_) rfl rfl (JF fn50 rfl rfl fun w hH=>(l01Degree_c had Fe43 hn hd (by omega) hH).mono ?_)));rintro _ w ⟨rfl,hH⟩;refine ⟨_,rfl,fun a hF=>JV hF hH ?_⟩;refine Jf (Eb (JG (Jc rfl) rfl (JG (JC rfl rfl) rfl (JG (JC rfl rfl) rfl (JG (Jd rfl) rfl (JG (Jd rfl) rfl (Ef (Ja (hK14 (Je fun _ hK15 _=>(Jb (Jg (Jc rfl) rfl (Jg (Eq rfl) rfl (Jg (Jc rfl) rfl (Ee (jd:=49) rfl (fun h49=>?_) (fun h49=>?_))))))))))))))))
     ·
      try have h49p:=of_decide_eq_true h49
      refine JJ rfl rfl rfl h49 (JJ rfl rfl rfl h49 (JJ rfl rfl rfl h49 (JJ rfl rfl rfl h49 (JJ rfl rfl rfl h49 (JJ rfl rfl rfl h49 (JJ rfl rfl rfl h49 (JJ rfl rfl rfl h49 (JJ rfl rfl rfl h49 (J.gu rfl rfl rfl (J.gu rfl rfl rfl (J.gu rfl rfl rfl (J.gu rfl rfl rfl (J.gu rfl rfl rfl (J.gu rfl rfl rfl ?_))))))))))))));refine J.gu rfl rfl rfl (J.gu rfl rfl rfl (JJ rfl rfl rfl h49 (Jg (JU rfl h49 rfl) rfl (Jf (Ja (hK15 (Er rfl (Je fun _ hK16 _=>(Jb (Jg (Jd rfl) rfl (Jf (Ja (hK16 (Jp (JH (Jh ?_))))))))))))))));refine Jh (JH (Jh (Jt rfl (Res.tmp rfl) fun w hH=>?_)));replace hH:=hH.tail;exact ⟨rb (by unfold isAlg;rw [imsOk_bad (i:=i) (by omega) (imOk_no2 (by simpa using h49))];simp),hH⟩
     ·
      try have h49p:=of_decide_eq_false h49
      refine JQ (Ju u25 rfl sz23 rfl) rfl rfl rfl h49 (JQ (Jr rfl At.z rfl pl23) rfl rfl rfl h49 (JQ (Jc rfl) rfl rfl rfl h49 (JQ (Eg u23 sz33 rfl rfl rfl (by omega) haf.sm) rfl rfl rfl h49 (JQ (El u33 rfl sz31 rfl (haf.sm (i:=i) (by omega))) rfl rfl rfl h49 ?_))));obtain ⟨qe55,ce55,he55,le55,Fe55⟩:=haf i (by omega);refine JQ (JW rfl he55 pl31) rfl rfl rfl h49 (JQ (Jq u31 rfl rfl) rfl rfl rfl h49 (JQ (Ep rfl rfl) rfl rfl rfl h49 (JQ (Jc rfl) rfl rfl rfl h49 (Ee (jd:=58) rfl (fun h58=>?_) (fun h58=>?_)))))
      ·
       try have h58p:=of_decide_eq_true h58
       refine JQ (Jc rfl) rfl rfl rfl h58 (JQ (Ju u25 rfl sz22 rfl) rfl rfl rfl h58 (JQ (Jr rfl At.z rfl pl22) rfl rfl rfl h58 (JQ (Jc rfl) rfl rfl rfl h58 (JQ (Eg u22 sz2 rfl rfl rfl (by omega) had.sm) rfl rfl rfl h58 (JQ (JW rfl (had _ (by omega)) pl2) rfl rfl rfl h58 (JQ (Jy rfl rfl (by first | exact nw _ (by omega) | rfl)) rfl rfl rfl h58 (JQ (Eo rfl rfl) rfl rfl rfl h58 (JQ (JU rfl h58 rfl) rfl rfl rfl h49 (Jg (JM rfl h49 rfl) rfl (Jf (Ja (hK15 (Jk rfl (fun h68=>?_) (fun h68=>?_))))))))))))))
       ·
        refine Je fun _ hK17 _=>(Jb (Jg (Jd rfl) rfl (Jf (Ja (hK17 (Jp (JH (Jh (Jh (JH (Jh (Jt rfl (Res.tmp rfl) fun w hH=>?_))))))))))));replace hH:=hH.tail;exact ⟨rb (by unfold isAlg;rw [imsOk_bad (i:=i) (by omega) (imOk_no3 (fun e=>(degF_neg hn hd (haf.wfss.fm i) (by simpa using h49)).1 e (by omega)) h68)];simp),hH⟩
       ·
        refine Ji (JD (Ja (hK10 (Jb (Jg (Jc rfl) rfl (Jg (Jy rfl rfl (by first | exact nw _ (by omega) | rfl)) rfl (Jg (Jd rfl) rfl (Jf (Ja ?_)))))))));exact hAg0 (i+1) ⟨by omega,upto hI (imOk_yes hfo (by simpa using h49) (.inr (Decidable.not_not.1 h68)))⟩ (by omega) 53 rfl rfl ⟨rfl,trivial⟩ rfl rfl
      ·
       try have h58p:=of_decide_eq_false h58
       refine JJ rfl rfl rfl h58 (JJ rfl rfl rfl h58 (JJ rfl rfl rfl h58 (JJ rfl rfl rfl h58 (JJ rfl rfl rfl h58 (JJ rfl rfl rfl h58 (JJ rfl rfl rfl h58 (JJ rfl rfl rfl h58 (JQ (JM rfl h58 rfl) rfl rfl rfl h49 (Jg (JM rfl h49 rfl) rfl (Jf (Ja (hK15 (Ev rfl (Ji (JD ?_)))))))))))))));refine Ja (hK10 (Jb (Jg (Jc rfl) rfl (Jg (Jy rfl rfl (by first | exact nw _ (by omega) | rfl)) rfl (Jg (Jd rfl) rfl (Jf (Ja ?_)))))));exact hAg0 (i+1) ⟨by omega,upto hI (imOk_yes hfo (by simpa using h49) (.inl ((degF_neg hn hd (haf.wfss.fm i) (by simpa using h49)).2 (by omega))))⟩ (by omega) 53 rfl rfl ⟨rfl,trivial⟩ rfl rfl
   ·
    have hM9:=imsOk_good (ds:=ad) (fs:=af) (fun j hj=>hI j (by omega));have hA:=AlgOk.of hD hlen hM9 haf.wfss;refine JI (Jl (Jl (JR (Ja (hK6 (Je fun _ hK18 _=>(Je fun _ hK19 _=>(Jb (Jg (Jd rfl) rfl (Jf (Ja (hK19 (Jm (JE (σ:=Nat) (fun (k:Nat)=>[(6,.int .i64 (k:Int))]) (fun (k:Nat)=>H) (fun (k:Nat)=>obj g1 (.cells [.slice qad ad.length cad,.slice qaf af.length caf].toArray 25 (0,0))::L) (fun (k:Nat)=>k≤af.length∧∀j,j<k→(dS ad af (toS (fm af j))).length=0) (fun (k:Nat)=>af.length - k) 0 ⟨by omega,fun j hj=>by omega⟩ ⟨rfl,trivial⟩ rfl rfl ?_))))))))))))));rintro k ⟨hk,hJ⟩ _ hAg1;refine Je fun _ hK20 _=>(Je fun _ hK21 _=>(Jb (Jg (Jc rfl) rfl (Jg (Ju u25 rfl sz23 rfl) rfl (Jg (Jr rfl At.z rfl pl23) rfl (Jg (Jq u23 rfl rfl) rfl (Jg (JK rfl rfl) rfl (Jf (Ja (hK21 (Jk rfl (fun h73=>?_) (fun h73=>?_))))))))))))
    ·
     have hkl:k<af.length:=by omega
     refine Ji (Ja (hK20 (Je fun _ hK22 _=>(Jm (Je fun _ hK23 _=>(En [[], [], [1], [], [2,3], [4]] (by kernel_rfl) (Jw (fun gh=>Js rfl At.z (by simpa [*] using ag25)) (Jw (fun gh=>Ju u25 rfl sz23 rfl) (Jw (fun gh=>Jr rfl At.z rfl pl23) (Jw (fun gh=>Jc rfl) (Jw (fun gh=>Eg u23 sz33 rfl rfl rfl (by omega) haf.sm) ?_)))))))))));obtain ⟨qe81,ce81,he81,le81,Fe81⟩:=haf k (by omega);refine Jw (fun gh=>JO (cs:=[_]) rfl (one_cell he81) (haf.sm (i:=k) (by omega)) ag33) (Ec 6 1 foll0 (by kernel_rfl) rfl rfl fun gh=>(Ek (us':=(76,_)::(77,_)::(78,_)::(79,_)::(80,_)::(81,_)::_) (L':=_) rfl rfl (JF fn51 rfl rfl fun w hH=>(l02D_c had haf Fe81 hn hd hA.fok hA.hl hA.kex (hA.fok k hkl).1 (hA.kex k hkl) (by omega) hA.len (hA.len k hkl) hH).mono ?_)));rintro _ w ⟨qo82,co82,rfl,hH⟩;refine ⟨_,rfl,fun a hF=>JV hF hH ?_⟩;refine Jf (Eb (JG (PR.fieldV u33 rfl pl31 rfl rfl) rfl (JG (Jq u31 rfl rfl) rfl (JG (Ep rfl rfl) rfl (Ef (Ja (hK23 (Jk rfl (fun h85=>?_) (fun h85=>?_)))))))))
     ·
      refine Je fun _ hK24 _=>(Jb (Jg (Jd rfl) rfl (Jf (Ja (hK24 (Jp (JH (Jh (Jh (JH (Jh (Jt rfl (Res.tmp rfl) fun w hH=>?_))))))))))));replace hH:=hH.tail;replace hH:=hH.tail;exact ⟨rb (by unfold isAlg;rw [noD_bad (i:=k) (by omega) (by rw [ofS_len] at h85;omega)];simp),hH⟩
     ·
      refine Ji (JD (Ja (hK22 (Jb (Jg (Jc rfl) rfl (Jg (Jy rfl rfl (by first | exact nw _ (by omega) | rfl)) rfl (Jg (Jd rfl) rfl (Jf (Ja (JL .z ?_))))))))));exact hAg1 (k+1) ⟨by omega,upto hJ (by rw [ofS_len] at h85;omega)⟩ (by omega) 19 rfl rfl ⟨rfl,trivial⟩ rfl rfl
    ·
     refine JI (Jl (Jl (JR (Ja (hK18 (Je fun _ hK25 _=>(Jb (Jg (Jd rfl) rfl (Jf (Ja (hK25 (Jp (Jt rfl (Res.tmp rfl) fun w hH=>?_)))))))))))));replace hH:=hH.tail;exact ⟨rb (by unfold isAlg;rw [hD,decide_eq_true hlen,hM9,noD_good (fun j hj=>hJ j (by omega))];rfl),hH⟩
def noDf (ds:List Int) (fs:List (List Term)) (ts:List Term):Bool:=decide ((dS ds fs (toS ts)).length>0)
theorem noD_any {ds:List Int} {fs:List (List Term)}:noD ds fs = !(fs.any (noDf ds fs)):=by
 cases h:fs.any (noDf ds fs) with
 | true=>
  obtain ⟨x,hx,hp⟩:=List.any_eq_true.1 h;obtain ⟨j,hj,rfl⟩:=List.mem_iff_getElem.1 hx;rw [fm_eq hj] at hp;rw [noD_bad hj (by unfold noDf at hp;have:=of_decide_eq_true hp;omega)]
  rfl
 | false=>
  rw [noD_good fun j hj=>by
   have:=List.any_eq_false.1 h _ (fm_mem hj);unfold noDf at this;rw [decide_eq_true_eq] at this
   omega]
  rfl
theorem IsAlgebra1_c {B:World} {H0 H:HP} {L:List SA} {w:World} {qts:Option Addr} {cts:Nat} {ts:List Term} {ba:Nat} {qad qaf:Option Addr} {cad caf:Nat} {ad:List Int} {af:List (List Term)} {Mi Ms:Int} (hts:Terms H qts ts) (pad:CellAt H ba 0 (.slice qad ad.length cad)) (paf:CellAt H ba 1 (.slice qaf af.length caf)) (had:Ints H qad ad) (haf:Forms H qaf af) (hn:ad.length≤8) (hd : ∀j,0≤ad.getD j 0∧ad.getD j 0≤12) (hf:Fok Mi af) (hl:af.length=ad.length) (hs:Sok Ms (toS ts)) (ho:Occ af.length (toS ts)) (hM:0≤Mi∧Ms+Mi+Ms≤1000000) (hll:ts.length≤1000000000) (hH:Hp B H0 H L w):Calls Tryz.prog 58 [.agg [.slice qts ts.length cts].toArray,.pointer (some ⟨ba,0,none⟩)].toArray w fun e w'=>e = .returned (.bool (noDf ad af ts))∧Hp B H0 H L w':=by
 refine JB Tryz.func58 rfl 9 rfl rfl [(0,.agg [.slice qts ts.length cts].toArray),(1,.pointer (some ⟨ba,0,none⟩))] rfl hH ?_;clear hH;refine Je fun _ hK1 _=>(Jb (Ei rfl rfl rfl fun g2=>(Jg (Jd rfl) rfl (Jf (Ja (hK1 (Je fun _ hK2 _=>(Jb (Jg (Js rfl At.z (by simpa [*] using ag33)) rfl (JF fn60 rfl rfl fun w hH=>(sumOf_c hts hs (by omega) hH).mono ?_))))))))));rintro _ w ⟨bo5,rfl,hH⟩;refine ⟨_,rfl,fun a hF=>JV hF hH ?_⟩;refine JF fn59 rfl rfl fun w hH=>hH.lend .z fun Hl1 hle1 hA1 hB1 hH=>(d_c (pad.le hle1) (paf.le hle1) (had.le hle1) (haf.le hle1) (omap_H hA1) hs hn hd hf hl ho hM hH).mono ?_;rintro _ w ⟨bo6,rfl,hH⟩;replace hH:=hB1 _ _ hH;refine ⟨_,rfl,fun a hF=>JV hF hH ?_⟩;refine Jg (PR.lenO u84 rfl (.s .z) rfl) rfl (Jg (Ep rfl rfl) rfl (Jg (Jd rfl) rfl (Jf (Ja (hK2 (Jp (Jt rfl (Res.tmp rfl) fun w hH=>?_)))))));replace hH:=hH.tail;replace hH:=hH.tail;replace hH:=hH.tail;exact ⟨rb (by unfold noDf;exact decide_eq_decide.2 (by omega)),hH⟩
theorem IsAlgebra_c {B:World} {H0 H:HP} {L:List SA} {w:World} {qad qaf:Option Addr} {cad caf:Nat} {ad:List Int} {af:List (List Term)} (had:Ints H qad ad) (haf:Forms H qaf af) (hn8:ad.length≤1048576) (hn9:af.length≤1048576) (hl9 : ∀i,i<af.length→(fm af i).length≤1048576) (hH:Hp B H0 H L w):Calls Tryz.prog 37 [.agg [.slice qad ad.length cad,.slice qaf af.length caf].toArray].toArray w fun e w'=>e = .returned (.bool (isAlg ad af))∧Hp B H0 H L w':=by
 refine JB Tryz.func37 rfl 50 rfl rfl [(0,.agg [.slice qad ad.length cad,.slice qaf af.length caf].toArray)] rfl hH ?_;have hw0:=hH.old;have hw1:=hH.le;clear hH;refine Je fun _ hK1 _=>(Jb (Ei rfl rfl rfl fun g1=>(Jg (Jd rfl) rfl (Jf (Ja (hK1 (Je fun _ hK2 _=>(Je fun _ hK3 _=>(Jb (Jg (Ju u25 rfl sz22 rfl) rfl (Jg (Jr rfl At.z rfl pl22) rfl (JF fn26 rfl rfl fun w hH=>(AreDegrees_c had (by omega) hH).mono ?_))))))))))));rintro _ w ⟨rfl,hH⟩;refine ⟨_,rfl,fun a hF=>JV hF hH ?_⟩;refine Jg (Eq rfl) rfl (Jg (Jc rfl) rfl (Ee (jd:=9) rfl (fun hg9=>?_) (fun hg9=>?_)))
 ·
  try have hg9p:=of_decide_eq_true hg9
  refine JJ rfl rfl rfl hg9 (JJ rfl rfl rfl hg9 (JJ rfl rfl rfl hg9 (JJ rfl rfl rfl hg9 (JJ rfl rfl rfl hg9 (JJ rfl rfl rfl hg9 (JJ rfl rfl rfl hg9 (Jg (JU rfl hg9 rfl) rfl (Jf (Ja (hK3 (Er rfl (Je fun _ hK4 _=>(Jb (Jg (Jd rfl) rfl (Jf ?_)))))))))))))));refine Ja (hK4 (Jp (Jh (Jt rfl (Res.tmp rfl) fun w hH=>?_))));replace hH:=hH.tail;exact ⟨rb (by unfold isAlg;rw [show isDeg ad=false by simpa using hg9];rfl),hH⟩
 ·
  try have hg9p:=of_decide_eq_false hg9
  refine JQ (Ju u25 rfl sz23 rfl) rfl rfl rfl hg9 (JQ (Jr rfl At.z rfl pl23) rfl rfl rfl hg9 (JQ (Jq u23 rfl rfl) rfl rfl rfl hg9 (JQ (Ju u25 rfl sz22 rfl) rfl rfl rfl hg9 (JQ (Jr rfl At.z rfl pl22) rfl rfl rfl hg9 (JQ (Jq u22 rfl rfl) rfl rfl rfl hg9 (JQ (Eo rfl rfl) rfl rfl rfl hg9 (Jg (JM rfl hg9 rfl) rfl (Jf (Ja (hK3 (Jk rfl (fun hc19=>?_) (fun hc19=>?_))))))))))))
  ·
   refine Je fun _ hK5 _=>(Jb (Jg (Jd rfl) rfl (Jf (Ja (hK5 (Jp (Jh (Jt rfl (Res.tmp rfl) fun w hH=>?_))))))));replace hH:=hH.tail;exact ⟨rb (by unfold isAlg;rw [decide_eq_false (show ¬af.length=ad.length by omega)];simp),hH⟩
  ·
   have hD:isDeg ad=true:=by simpa using hg9
   have hn:=isDeg_len hD;have hd:=isDeg_bd hD
   have hlen:af.length=ad.length:=by omega
   have hpos9 : ∀j,j<ad.length→0≤ad.getD j 0:=fun j _=>(hd j).1;refine Ji (Ja (hK2 (Je fun _ hK6 _=>(Je fun _ hK7 _=>(Jb (Jg (Ju u25 rfl sz23 rfl) rfl (Jg (Jr rfl At.z rfl pl23) rfl (Jg (Jq u23 rfl rfl) rfl (Jg (Jc rfl) rfl (Jf (Ja (hK7 (Jm (JE (σ:=Nat) (fun (k:Nat)=>[(21,.int .i64 (k:Int))]) (fun (k:Nat)=>H) (fun (k:Nat)=>obj g1 (.cells [.slice qad ad.length cad,.slice qaf af.length caf].toArray 25 (0,0))::L) (fun (k:Nat)=>k≤af.length∧∀j,j<k→imOk ad af j=true) (fun (k:Nat)=>af.length - k) 0 ⟨by omega,fun j hj=>by omega⟩ ⟨rfl,trivial⟩ rfl rfl ?_))))))))))))));rintro k ⟨hk,hI⟩ _ hAg0;refine Je fun _ hK8 _=>(Jb (Jg (JK rfl rfl) rfl (Jf (Ja (hK8 (Je fun _ hK9 _=>(Jk rfl (fun hc24=>?_) (fun hc24=>?_))))))))
   ·
    have hl0:=hl9 k (by omega);have hdi:=hd k;refine Ji (Ja (hK9 (Je fun _ hK10 _=>(Jm (Je fun _ hK11 _=>(Jb (Jg (Jc rfl) rfl (Jg (Eg u23 sz33 rfl rfl rfl (by omega) haf.sm) rfl ?_))))))));obtain ⟨qe25,ce25,he25,le25,Fe25⟩:=haf k (by omega);refine Jg (JO (cs:=[_]) rfl (one_cell he25) (haf.sm (i:=k) (by omega)) ag33) rfl (JP ze33 rfl fun g4=>(Jg (Jd rfl) rfl (Jo rfl rfl (by first | exact bytesC_one _ | exact intsC_one _ | exact Term.c_one _ | simp [Value.oneCell']) (by simpa [*] using sz33) (by simp [*]) At.z (Jf (Ja (hK11 (Je fun _ hK12 _=>(En [[], [0], [], [1,2], [3], [4], [5], [6,5], [5], [5], [9,5], [5], [10,11,5], [12,5], [13,5]] (by kernel_rfl) (Jw (fun gh=>Ju u25 rfl sz22 rfl) (Jw (fun gh=>Jr rfl (.s .z) rfl pl22) (Jw (fun gh=>Js rfl At.z (by simpa [*] using ag33)) (EI fn47 (fun gh=>rfl) (fun w X hH=>isForm_c had Fe25 (by omega) (by omega) hH) (Jw (fun gh=>Eq rfl) (Jw (fun gh=>Jc rfl) (EN 5 rfl (fun h31=>?_) (fun h31=>?_))))))))))))))))
    ·
     try have h31p:=of_decide_eq_true h31
     refine JZ rfl (fun gh=>rfl) h31 (JZ rfl (fun gh=>rfl) h31 (JZ rfl (fun gh=>rfl) h31 (JZ rfl (fun gh=>rfl) h31 (JZ rfl (fun gh=>rfl) h31 (JZ rfl (fun gh=>rfl) h31 (JZ rfl (fun gh=>rfl) h31 (JZ rfl (fun gh=>rfl) h31 (JZ rfl (fun gh=>rfl) h31 (Ec 15 1 foll0 (by kernel_rfl) rfl rfl fun gh=>(Ek (us':=(26,_)::(27,_)::(28,_)::(29,_)::(30,_)::(31,_)::(32,_)::(33,_)::(34,_)::(35,_)::(36,_)::(37,_)::(38,_)::(39,_)::(40,_)::_) (L':=_) rfl rfl (JJ rfl rfl rfl h31 (Jf (Eb (JS.gn rfl rfl rfl h31 ?_))))))))))))));refine JG (JU rfl h31 rfl) rfl (Ef (Ja (hK12 (Er rfl (Je fun _ hK13 _=>(Jb (Jg (Jd rfl) rfl (Jf (Ja (hK13 (Jp (JH (Jh (Jh (JH (Jh ?_))))))))))))))));refine Jt rfl (Res.tmp rfl) fun w hH=>?_;replace hH:=hH.tail;replace hH:=hH.tail;exact ⟨rb (by unfold isAlg;rw [imsOk_bad (i:=k) (by omega) (imOk_no1 (by simpa using h31))];simp),hH⟩
    ·
     try have h31p:=of_decide_eq_false h31
     refine Ed (fun gh=>Ju u25 rfl sz22 rfl) rfl (fun gh=>rfl) h31 (Ed (fun gh=>Jr rfl (.s .z) rfl pl22) rfl (fun gh=>rfl) h31 (Ed (fun gh=>Js rfl At.z (by simpa [*] using ag33)) rfl (fun gh=>rfl) h31 (Ed (fun gh=>Ju u25 rfl sz22 rfl) rfl (fun gh=>rfl) h31 (Ed (fun gh=>Jr rfl (.s .z) rfl pl22) rfl (fun gh=>rfl) h31 (Ed (fun gh=>Jc rfl) rfl (fun gh=>rfl) h31 (Ed (fun gh=>Eg u22 sz2 rfl rfl rfl (by omega) had.sm) rfl (fun gh=>rfl) h31 (Ed (fun gh=>JW rfl (had _ (by omega)) pl2) rfl (fun gh=>rfl) h31 (Ed (fun gh=>Jy rfl rfl (by first | exact nw _ (by omega) | rfl)) rfl (fun gh=>rfl) h31 (Ec 15 1 foll0 (by kernel_rfl) rfl rfl fun gh=>(Ek (us':=(26,_)::(27,_)::(28,_)::(29,_)::(30,_)::(31,_)::(32,_)::(33,_)::(34,_)::(35,_)::(36,_)::(37,_)::(38,_)::(39,_)::(40,_)::_) (L':=_) rfl rfl (J.gcall fn56 rfl rfl h31 rfl rfl fun w hH=>(isOfDegree_c had Fe25 hn hd (by omega) hH).mono ?_)))))))))));rintro _ w ⟨rfl,hH⟩;refine ⟨_,rfl,fun a hF=>JV hF hH ?_⟩;refine Jf (Eb (JS.gy (Eq rfl) rfl rfl rfl h31 (JG (JM rfl h31 rfl) rfl (Ef (Ja (hK12 (Eh rfl (fun h43=>?_) (fun h43=>?_))))))))
     ·
      refine Je fun _ hK14 _=>(Jb (Jg (Jd rfl) rfl (Jf (Ja (hK14 (Jp (JH (Jh (Jh (JH (Jh (Jt rfl (Res.tmp rfl) fun w hH=>?_))))))))))));replace hH:=hH.tail;replace hH:=hH.tail;exact ⟨rb (by unfold isAlg;rw [imsOk_bad (i:=k) (by omega) (by unfold imOk;rw [show degOk ad (fm af k) (ad.getD k 0+1)=false by simpa using h43];simp)];simp),hH⟩
     ·
      refine Ji (JD (Ja (hK10 (Jb (Jg (Jy rfl rfl (by first | exact nw _ (by omega) | rfl)) rfl (Jg (Jc rfl) rfl (Jf (Ja (JL .z ?_)))))))));exact hAg0 (k+1) ⟨by omega,upto hI (by unfold imOk;rw [show isForm ad (fm af k)=true by simpa using h31,show degOk ad (fm af k) (ad.getD k 0+1)=true by simpa using h43];rfl)⟩ (by omega) 27 rfl rfl ⟨rfl,trivial⟩ rfl rfl
   ·
    have hM9:=imsOk_good (ds:=ad) (fs:=af) (fun j hj=>hI j (by omega));have hA:=AlgOk.of hD hlen hM9 haf.wfss;refine JI (Jl (Jl (JR (Ja (hK6 (Je fun _ hK15 _=>(Jb (Jg (Ju u25 rfl sz23 rfl) rfl (Jg (Jr rfl At.z rfl pl23) rfl (Jg (PR.makeFunc (ys:=[]) (zs:=[_]) rfl rfl) rfl (J.freezeRow .z fun H3 hle3 hc3=>?_)))))))))));have had3:=had.le hle3;have haf3:=haf.le hle3;have hcl:ClF B H0 H3 58 #[.pointer (some ⟨g1,0,none⟩)] (fun ts=>isForm ad ts=true∧Wfs ts) (noDf ad af):=fun H' L w q c x hle hS hx hH=>IsAlgebra1_c (Mi:=20) (Ms:=20) hx (CellAt.le (hc3 0 _ rfl) hle) (CellAt.le (hc3 1 _ rfl) hle) (had3.le hle) (haf3.le hle) hn hd hA.fok hA.hl (isForm_sok hS.2 hS.1) (Ex.occ (isForm_kex hd hn hS.2 hS.1) hA.hl) (by omega) (by have:=isForm_len4 hS.1;omega) hH;refine JF fn57 rfl rfl fun w hH=>(ContainsFuncF_c haf3 fn58 hcl (by omega) (fun i hi=>⟨hA.ok i hi,hA.wf.fm i⟩) hH).mono ?_;rintro _ w ⟨rfl,hH⟩;refine ⟨_,rfl,fun a hF=>JV hF hH ?_⟩;refine Jg (Eq rfl) rfl (Jg (Jd rfl) rfl (Jf (Ja (hK15 (Jp (Jt rfl (Res.tmp rfl) fun w hH=>?_))))));exact ⟨rb (by unfold isAlg;rw [hD,decide_eq_true hlen,hM9,noD_any];rfl),hH.weaken hle3 hw0 hw1⟩
theorem by33:Bytes Tryz.prog 33 24:=by unfold Bytes;kernel_rfl
theorem stm_eq {xs:List Term} {j:Nat} (hj:j<xs.length):xs[j]=tm xs j:=by simp [tm,List.getD_eq_getElem?_getD,List.getElem?_eq_getElem hj]
theorem stm_take {ts:List Term} {k:Nat} (hk:k<ts.length):ts.take (k+1)=ts.take k++[tm ts k]:=by rw [List.take_succ_eq_append_getElem hk,stm_eq hk]
def decL (n:Int):List UInt8:=Lib.decDigits n.toNat
theorem decL_small {n:Int} (h:0≤n) (h1:n<10):decL n=[UInt8.ofNat (48+n).toNat]:=by
 unfold decL;rw [Lib.decDigits_one (by omega)]
 congr 2
 omega
theorem decL_big {n:Int} (h:0≤n) (h1 : ¬n<10):decL n=decL (n.tdiv 10)++[UInt8.ofNat (48+n.tmod 10).toNat]:=by
 have e1:(n.tdiv 10).toNat=n.toNat / 10:=by rw [Int.tdiv_eq_ediv_of_nonneg h];omega
 have e2:(48+n.tmod 10).toNat=48+n.toNat % 10:=by rw [Int.tmod_eq_emod_of_nonneg h];omega
 unfold decL;rw [e1,e2,Lib.decDigits,dif_neg (by omega)]
theorem decL_itoa {n:Int} (h:0≤n):Lib.itoa n=decL n:=by
 unfold Lib.itoa decL;rw [if_neg (by omega)]
theorem nDigits_le : ∀(k u:Nat),u<10 ^ k→1≤k→Lib.nDigits u≤k
 | 0,_,_,h=>by omega
 | k+1,u,h,_=>by
  by_cases hu:u<10
  ·rw [Lib.nDigits_small hu];omega
  ·rw [Lib.nDigits_big hu]
   rw [Nat.pow_succ] at h
   have hk:1≤k:=by
    rcases Nat.eq_zero_or_pos k with h0 | h0
    ·subst h0;simp at h;omega
    ·exact h0
   have:=nDigits_le k (u / 10) (by omega) hk
   omega
theorem decL_len {n:Int} (h:0≤n) (h1:n≤9223372036854775807):(decL n).length≤19:=by
 unfold decL;rw [Lib.decDigits_length];exact nDigits_le 19 _ (by have h9:(10:Nat) ^ 19=10000000000000000000:=(by decide);omega) (by omega)
def letT (m:List Int) (i:Nat):List UInt8:=(if 0<m.getD i 0 then [UInt8.ofNat (97+(i:Int)).toNat] else [])++(if 1<m.getD i 0 then decL (m.getD i 0) else [])
def monT (m:List Int):Nat→List UInt8
 | 0=>[]
 | i+1=>monT m i++letT m i
theorem monT_len {m:List Int} (h : ∀j,0≤m.getD j 0∧m.getD j 0≤255) : ∀k,(monT m k).length≤20 * k
 | 0=>by simp [monT]
 | k+1=>by
  have h1:=monT_len h k
  have h2:=decL_len (h k).1 (by have:=h k;omega)
  have h3:(letT m k).length≤20:=by
   unfold letT
   rw [List.length_append]
   split <;> split <;> simp only [List.length_singleton,List.length_nil] <;> omega
  simp only [monT,List.length_append]
  omega
theorem monT_yy {m:List Int} {i:Nat} (h1:0<m.getD i 0) (h2:1<m.getD i 0):(monT m i++[UInt8.ofNat (97+(i:Int)).toNat])++decL (m.getD i 0)=monT m (i+1):=by
 simp only [monT,letT];rw [if_pos h1,if_pos h2,List.append_assoc]
theorem monT_yn {m:List Int} {i:Nat} (h1:0<m.getD i 0) (h2 : ¬1<m.getD i 0):monT m i++[UInt8.ofNat (97+(i:Int)).toNat]=monT m (i+1):=by
 simp only [monT,letT];rw [if_pos h1,if_neg h2,List.append_nil]
theorem monT_nn {m:List Int} {i:Nat} (h1 : ¬0<m.getD i 0):monT m i=monT m (i+1):=by
 simp only [monT,letT];rw [if_neg h1,if_neg (by omega),List.append_nil,List.append_nil]
def nameT (m:List Int):List UInt8:=if monT m 8=[] then [49] else monT m 8
theorem nameT_len {m:List Int} (h : ∀j,0≤m.getD j 0∧m.getD j 0≤255):(nameT m).length≤160:=by
 unfold nameT
 split
 ·simp
 ·exact monT_len h 8
def termT (t:Term):List UInt8:=(decL t.fac++[42])++nameT t.mono
def textT (ts:List Term):List UInt8:=if ts.length=0 then [48] else Lib.join (ts.map termT) [43]
def preT (ts:List Term):Nat→List UInt8
 | 0=>[]
 | k+1=>(if 0<k then preT ts k++[43] else preT ts k)++termT (tm ts k)
theorem joinTail_app (sep:List UInt8) : ∀(r:List (List UInt8)) (x:List UInt8),Lib.joinTail sep (r++[x])=Lib.joinTail sep r++sep++x:=fun r x=>by
 unfold Lib.joinTail
 rw [List.map_append,List.flatten_append]
 simp
theorem join_app (sep x:List UInt8) : ∀{r:List (List UInt8)},r≠ []→Lib.join (r++[x]) sep=Lib.join r sep++sep++x
 | [],h=>absurd rfl h
 | a::r,_=>by
  rw [JxA,Lib.join_cons,Lib.join_cons,joinTail_app]
  simp [List.append_assoc]
theorem preT_join {ts:List Term} : ∀{k:Nat},k≤ts.length→preT ts k=Lib.join ((ts.take k).map termT) [43]
 | 0,_=>by simp [preT,Lib.join_nil]
 | k+1,h=>by
  rw [stm_take (by omega),List.map_append,List.map_singleton]
  simp only [preT]
  by_cases hk:0<k
  ·rw [if_pos hk,join_app _ _ (by intro e;have h9:=congrArg List.length e;rw [List.length_map,List.length_take_of_le (by omega)] at h9;simp only [List.length_nil] at h9;omega),← preT_join (k:=k) (by omega)]
  ·obtain rfl:k=0:=by omega
   rw [if_neg hk]
   simp [preT,Lib.join_one]
theorem preT_end (ts:List Term) (h : ¬ts.length=0):preT ts ts.length=textT ts:=by
 rw [preT_join (Nat.le_refl _),List.take_length];unfold textT;rw [if_neg h]
theorem termT_len {ts:List Term} (hw:Wfs ts) (hf : ∀i,i<ts.length→0≤(tm ts i).fac) {i:Nat} (hi:i<ts.length):(termT (tm ts i)).length≤200:=by
 have hm:=hw (tm ts i) (by rw [← stm_eq hi];exact List.getElem_mem hi);have h1:=decL_len (hf i hi) hm.fac.2;have h2:=nameT_len hm.mono.bd;unfold termT;simp only [List.length_append,List.length_singleton]
 omega
theorem preT_len {ts:List Term} (hw:Wfs ts) (hf : ∀i,i<ts.length→0≤(tm ts i).fac) : ∀{k:Nat},k≤ts.length→(preT ts k).length≤201 * k
 | 0,_=>by simp [preT]
 | k+1,h=>by
  have h1:=preT_len hw hf (k:=k) (by omega)
  have h2:=termT_len hw hf (i:=k) (by omega)
  simp only [preT,List.length_append]
  split
  ·simp only [List.length_append,List.length_singleton];omega
  ·omega
theorem u123:Tryz.prog.underlying 123=some (TypeDesc.slice 5):=by kernel_rfl
theorem u9:Tryz.prog.underlying 9=some (TypeDesc.string):=by kernel_rfl
theorem ze5:Zero Tryz.prog 5 [.int .u8 0]:=by unfold Zero;kernel_rfl
theorem fn65:Fn Tryz.prog 65:=⟨_,Tryz.func65,by kernel_rfl,rfl⟩
theorem fn66:Fn Tryz.prog 66:=⟨_,Tryz.func66,by kernel_rfl,rfl⟩
theorem su8_id {x:Int} (h:0≤x∧x≤255):IntKind.u8.wrap x=x:=by simp [IntKind.wrap,IntKind.signed,IntKind.bits];omega
theorem l01DecX_c {B:World} {H0 H:HP} {L:List SA} {w:World} {x:Int} (hx:0≤x∧x≤9223372036854775807) (hrec : ∀y:Int,y=x.tdiv 10→10≤x→∀(L:List SA) (w:World),Hp B H0 H L w→Calls Tryz.prog 65 [.int .i64 y].toArray w fun r w'=>r = .returned (sV (decL y))∧Hp B H0 H L w') (hH:Hp B H0 H L w):Calls Tryz.prog 65 [.int .i64 x].toArray w fun e w'=>e = .returned (sV (decL x))∧Hp B H0 H L w':=by
 refine JB Tryz.func65 rfl 20 rfl rfl [(0,.int .i64 x)] rfl hH ?_;clear hH
 have hr0:0≤x.tmod 10∧x.tmod 10≤9:=by rw [Int.tmod_eq_emod_of_nonneg hx.1];omega
 have hq0:0≤x.tdiv 10∧x.tdiv 10≤x:=by rw [Int.tdiv_eq_ediv_of_nonneg hx.1];omega
 have hl9:=decL_len (n:=x.tdiv 10) hq0.1 (by omega);refine Je fun _ hK1 _=>(Jb (Jg (Jd rfl) rfl (Jf (Ja (hK1 (Je fun _ hK2 _=>(Je fun _ hK3 _=>(Jb (Jg (Jc rfl) rfl (Jg (JK rfl rfl) rfl (Jf (Ja (hK3 (Jk rfl (fun h4=>?_) (fun h4=>?_)))))))))))))))
 ·
  refine Je fun _ hK4 _=>(Jb (Jg (Jc rfl) rfl (Jg (Jy rfl rfl (by first | exact nw _ (by omega) | rfl)) rfl (Jg (Ey u2 u5 rfl (su8_id (by omega))) rfl (J.mk (EK u123 ze5 sz5 rfl rfl) rfl fun qo8 co8=>(Jg (PR.str1 u123 u5 u9 rfl At.z (by omega)) rfl (Jg (Jd rfl) rfl (Jf (Ja (hK4 (Jp (Jh (Jt rfl (Res.tmp rfl) fun w hH=>?_)))))))))))));replace hH:=hH.tail;exact ⟨by rw [decL_small hx.1 (by omega)],hH⟩
 ·
  refine Ji (Ja (hK2 (Je fun _ hK5 _=>(Et (Rs:=[]) 11 [[], [0], [0,1], [], [3], [3,4], [3,4,5], [3,4,5,6], [3,4,5,6,7], [0,1,2,3,4,5,6,7,8], [0,1,2,3,4,5,6,7,8,9]] [[], [], [], [], [], [], [], [], [7], [], []] [[], [], [], [], [], [], [], [], [], [], []] rfl rfl (by kernel_rfl) ?_))));apply Jv 1 rfl
  iterate 3 focus (intros;(conv=>lhs;simp only [Jj,Jz,JX,JA,JT,eq_self,reduceEqDiff,reduceIte,reduceSub,reduceAdd,JxA,JxB]);all_goals rfl)
  ·
   intro gh X K zq zc zq2 zc2 zb zv hK;refine Jg (Jc rfl) rfl (Jn ?_);exact hK zq zc zq2 zc2 zb zv
  ·
   intro gh gh' h
   rfl
  apply Jv 2 rfl
  iterate 3 focus (intros;(conv=>lhs;simp only [Jj,Jz,JX,JA,JT,eq_self,reduceEqDiff,reduceIte,reduceSub,reduceAdd,JxA,JxB]);all_goals rfl)
  ·
   intro gh X K zq zc zq2 zc2 zb zv hK;refine Jg (PR.quo rfl rfl (by decide) (nw _ (by omega))) rfl (Jn ?_);exact hK zq zc zq2 zc2 zb zv
  ·
   intro gh gh' h
   rfl
  apply Jv 3 rfl
  iterate 3 focus (intros;(conv=>lhs;simp only [Jj,Jz,JX,JA,JT,eq_self,reduceEqDiff,reduceIte,reduceSub,reduceAdd,JxA,JxB]);all_goals rfl)
  ·
   intro gh X K zq zc zq2 zc2 zb zv hK;refine JF fn65 rfl rfl fun w hH=>(hrec _ rfl (by omega) _ _ hH).mono ?_;rintro _ w ⟨rfl,hH⟩;refine ⟨_,rfl,fun a hF=>JV hF hH ?_⟩;refine Jn ?_;exact hK zq zc zq2 zc2 zb zv
  ·
   intro gh gh' h
   rfl
  apply Jv 4 rfl
  iterate 3 focus (intros;(conv=>lhs;simp only [Jj,Jz,JX,JA,JT,eq_self,reduceEqDiff,reduceIte,reduceSub,reduceAdd,JxA,JxB]);all_goals rfl)
  ·
   intro gh X K zq zc zq2 zc2 zb zv hK;refine Jg (Jc rfl) rfl (Jn ?_);exact hK zq zc zq2 zc2 zb zv
  ·
   intro gh gh' h
   rfl
  apply Jv 5 rfl
  iterate 3 focus (intros;(conv=>lhs;simp only [Jj,Jz,JX,JA,JT,eq_self,reduceEqDiff,reduceIte,reduceSub,reduceAdd,JxA,JxB]);all_goals rfl)
  ·
   intro gh X K zq zc zq2 zc2 zb zv hK;refine Jg (EG rfl rfl (by decide) rfl) rfl (Jn ?_);exact hK zq zc zq2 zc2 zb zv
  ·
   intro gh gh' h
   rfl
  apply Jv 6 rfl
  iterate 3 focus (intros;(conv=>lhs;simp only [Jj,Jz,JX,JA,JT,eq_self,reduceEqDiff,reduceIte,reduceSub,reduceAdd,JxA,JxB]);all_goals rfl)
  ·
   intro gh X K zq zc zq2 zc2 zb zv hK;refine Jg (Jy rfl rfl (by first | exact nw _ (by omega) | rfl)) rfl (Jn ?_);exact hK zq zc zq2 zc2 zb zv
  ·
   intro gh gh' h
   rfl
  apply Jv 7 rfl
  iterate 3 focus (intros;(conv=>lhs;simp only [Jj,Jz,JX,JA,JT,eq_self,reduceEqDiff,reduceIte,reduceSub,reduceAdd,JxA,JxB]);all_goals rfl)
  ·
   intro gh X K zq zc zq2 zc2 zb zv hK;refine Jg (Ey u2 u5 rfl (su8_id (by omega))) rfl (Jn ?_);exact hK zq zc zq2 zc2 zb zv
  ·
   intro gh gh' h
   rfl
  apply EC 8 rfl
  iterate 3 focus (intros;(conv=>lhs;simp only [Jj,Jz,JX,JA,JT,eq_self,reduceEqDiff,reduceIte,reduceSub,reduceAdd,JxA,JxB]);all_goals rfl)
  ·
   intro gh X K zq zc zq2 zc2 zb zv hK;refine J.mk (EK u123 ze5 sz5 rfl rfl) rfl fun qo17 co17=>(Jn ?_);exact hK qo17 co17 zq2 zc2 zb zv
  ·
   intro gh gh' h;refine ⟨?_,?_⟩ <;> rfl
  apply Jv 9 rfl
  iterate 3 focus (intros;(conv=>lhs;simp only [Jj,Jz,JX,JA,JT,eq_self,reduceEqDiff,reduceIte,reduceSub,reduceAdd,JxA,JxB]);all_goals rfl)
  ·
   intro gh X K zq zc zq2 zc2 zb zv hK;refine Jg (PR.str1 u123 u5 u9 rfl At.z (by omega)) rfl (Jn ?_);exact hK zq zc zq2 zc2 zb zv
  ·
   intro gh gh' h
   first | simp only [h 7 rfl] | rfl
  apply Jv 10 rfl
  iterate 3 focus (intros;(conv=>lhs;simp only [Jj,Jz,JX,JA,JT,eq_self,reduceEqDiff,reduceIte,reduceSub,reduceAdd,JxA,JxB]);all_goals rfl)
  ·
   intro gh X K zq zc zq2 zc2 zb zv hK;refine Jg (Em rfl rfl (by simp only [List.length_append,List.length_cons,List.length_nil] at *;omega)) rfl (Jn ?_);exact hK zq zc zq2 zc2 zb zv
  ·
   intro gh gh' h
   first | simp only [h 7 rfl] | rfl
  apply Jv 11 rfl
  iterate 3 focus (intros;(conv=>lhs;simp only [Jj,Jz,JX,JA,JT,eq_self,reduceEqDiff,reduceIte,reduceSub,reduceAdd,JxA,JxB]);all_goals rfl)
  ·
   intro gh X K zq zc zq2 zc2 zb zv hK;refine Jg (Jd rfl) rfl (Jn ?_);exact hK zq zc zq2 zc2 zb zv
  ·
   intro gh gh' h
   first | simp only [h 7 rfl] | rfl
  apply Es [0,1,2,3,4,5,6,7,8,9,10] [0,1,2,3,4,5,6,7,8,9,10] foll0 rfl rfl rfl (by rfl)
  iterate 2 focus (intros;(conv=>lhs;simp only [Jj,Jz,JX,JA,JT,eq_self,reduceEqDiff,reduceIte,reduceSub,reduceAdd,JxA,JxB]);all_goals rfl)
  intro gh;generalize (gh 7).c=co17;generalize (gh 7).q=qo17;clear gh;refine Ja (hK5 (Jp (Jt rfl (Res.tmp rfl) fun w hH=>?_)));replace hH:=hH.tail;exact ⟨by rw [decL_big hx.1 (by omega)],hH⟩
theorem l01Dec_n {B:World} {H0 H:HP} : ∀(n:Nat) (x:Int),x.toNat≤n→0≤x∧x≤9223372036854775807→∀(L:List SA) (w:World),Hp B H0 H L w→Calls Tryz.prog 65 [.int .i64 x].toArray w fun r w'=>r = .returned (sV (decL x))∧Hp B H0 H L w'
 | 0,x,h,hx,L,w,hH=>l01DecX_c hx (fun y _ h10=>by omega) hH
 | n+1,x,h,hx,L,w,hH=>l01DecX_c hx (fun y hy h10 L w hH=>by
  have hq0:0≤x.tdiv 10∧x.tdiv 10 * 10≤x:=by rw [Int.tdiv_eq_ediv_of_nonneg hx.1];omega
  exact l01Dec_n n y (by omega) (by omega) L w hH) hH
theorem l01Dec_c {B:World} {H0 H:HP} {L:List SA} {w:World} {x:Int} (hx:0≤x∧x≤9223372036854775807) (hH:Hp B H0 H L w):Calls Tryz.prog 65 [.int .i64 x].toArray w fun r w'=>r = .returned (sV (decL x))∧Hp B H0 H L w':=l01Dec_n _ x (Nat.le_refl _) hx L w hH
theorem vS {a b:List UInt8} (h:a=b):some (sV a)=some (sV b):=by rw [h]
theorem preT_p {ts:List Term} {k:Nat} (h:0<k):preT ts k++[43]++decL (tm ts k).fac++[42]++nameT (tm ts k).mono=preT ts (k+1):=by
 simp only [preT,termT];rw [if_pos h];simp only [List.append_assoc]
theorem preT_z {ts:List Term} {k:Nat} (h : ¬0<k):preT ts k++decL (tm ts k).fac++[42]++nameT (tm ts k).mono=preT ts (k+1):=by
 simp only [preT,termT];rw [if_neg h];simp only [List.append_assoc]
theorem l01Name_c {B:World} {H0 H:HP} {L:List SA} {w:World} {m:List Int} (hm:Mono m) (hH:Hp B H0 H L w):Calls Tryz.prog 66 [.agg (bytesC m).toArray].toArray w fun e w'=>e = .returned (sV (nameT m))∧Hp B H0 H L w':=by
 refine JB Tryz.func66 rfl 34 rfl rfl [(0,.agg (bytesC m).toArray)] rfl hH ?_;have hml:=hm.len;clear hH;have hmb:=hm.bd;have hml9:=fun k=>monT_len hmb k;refine Je fun _ hK1 _=>(Jb (Ei rfl rfl rfl fun g1=>(Jg (Jd rfl) rfl (Jf (Ja (hK1 (Je fun _ hK2 _=>(Jb (Jg (Jd rfl) rfl (Jf (Ja (hK2 (Je fun _ hK3 _=>(Je fun _ hK4 _=>(Jb (Jg (Jd rfl) rfl ?_))))))))))))))));refine Jf (Ja (hK4 (Jm (JE (σ:=Nat) (fun (i:Nat)=>[(4,.int .i64 (i:Int)),(3,sV (monT m i))]) (fun (i:Nat)=>H) (fun (i:Nat)=>obj g1 (.cells (bytesC m).toArray 65 (0,0))::L) (fun (i:Nat)=>i≤8) (fun (i:Nat)=>8 - i) 0 (by omega) ⟨rfl,⟨rfl,trivial⟩⟩ rfl rfl ?_))));rintro i hi _ hAg0;have hli:=hml9 i;have hmi:=hmb i;have hdl:=decL_len (n:=m.getD i 0) hmi.1 (by omega);refine Je fun _ hK5 _=>(Je fun _ hK6 _=>(Jb (Jg (Jc rfl) rfl (Jg (JK rfl rfl) rfl (Jf (Ja (hK6 (Jk rfl (fun hc6=>?_) (fun hc6=>?_)))))))))
 ·
  refine Ji (Ja (hK5 (Je fun _ hK7 _=>(Jm (Je fun _ hK8 _=>(Je fun _ hK9 _=>(Jb (Jg (Jc rfl) rfl (Jg (JN u65 sz5 rfl rfl rfl (by omega)) rfl (Jg (Jr rfl At.z (by first | exact bytesC_get (by simp [*];omega) | exact intsC_get (by simp [*];omega)) pl5) rfl (Jg (Ep rfl rfl) rfl (Jf (Ja (hK9 (Jk rfl (fun h12=>?_) (fun h12=>?_))))))))))))))))
  ·
   refine Jb (Jg (Jc rfl) rfl (Jg (Jc rfl) rfl (Jg (Jy rfl rfl (by first | exact nw _ (by omega) | rfl)) rfl (Jg (Ey u3 u5 rfl (su8_id (by omega))) rfl (J.mk (EK u123 ze5 sz5 rfl rfl) rfl fun qo17 co17=>(Jg (PR.str1 u123 u5 u9 rfl At.z (by omega)) rfl (Jg (Em rfl rfl (by first | omega | (simp only [List.length_append,List.length_singleton];omega))) rfl (Jg (Jd rfl) rfl (Jf (Ja (hK8 (Je fun _ hK10 _=>(Jb (Jg (Jc rfl) rfl (Jg (JN u65 sz5 rfl rfl rfl (by omega)) rfl ?_)))))))))))))));refine Jg (Jr rfl (.s .z) (by first | exact bytesC_get (by simp [*];omega) | exact intsC_get (by simp [*];omega)) pl5) rfl (Jg (Ep rfl rfl) rfl (Jf (Ja (hK10 (Jk rfl (fun h23=>?_) (fun h23=>?_))))))
   ·
    refine Jb (Jg (Jc rfl) rfl (Jg (Jc rfl) rfl (Jg (JN u65 sz5 rfl rfl rfl (by omega)) rfl (Jg (Jr rfl (.s .z) (by first | exact bytesC_get (by simp [*];omega) | exact intsC_get (by simp [*];omega)) pl5) rfl (Jg (Ey u5 u2 rfl (by first | exact nw _ (by omega) | rfl)) rfl (JF fn65 rfl rfl fun w hH=>(l01Dec_c (by omega) hH).mono ?_))))));rintro _ w ⟨rfl,hH⟩;refine ⟨_,rfl,fun a hF=>JV hF hH ?_⟩;refine Jg (Em rfl rfl (by first | omega | (simp only [List.length_append,List.length_singleton];omega))) rfl (Jg (Jd rfl) rfl (Jf (JD (Ja (hK7 (Jb (Jg (Jc rfl) rfl (Jg (Jy rfl rfl (by first | exact nw _ (by omega) | rfl)) rfl (Jg (Jd rfl) rfl (Jf (Ja (JL .z ?_))))))))))));exact hAg0 (i+1) (by omega) (by omega) 31 rfl rfl ⟨rfl,⟨(vS (monT_yy h12 h23)),trivial⟩⟩ rfl rfl
   ·
    refine Ji (JD (Ja (hK7 (Jb (Jg (Jc rfl) rfl (Jg (Jy rfl rfl (by first | exact nw _ (by omega) | rfl)) rfl (Jg (Jd rfl) rfl (Jf (Ja (JL .z ?_))))))))));exact hAg0 (i+1) (by omega) (by omega) 23 rfl rfl ⟨rfl,⟨(vS (monT_yn h12 h23)),trivial⟩⟩ rfl rfl
  ·
   refine Ji (Ja (hK8 (Je fun _ hK11 _=>(Jb (Jg (Jc rfl) rfl (Jg (JN u65 sz5 rfl rfl rfl (by omega)) rfl (Jg (Jr rfl At.z (by first | exact bytesC_get (by simp [*];omega) | exact intsC_get (by simp [*];omega)) pl5) rfl (Jg (Ep rfl rfl) rfl (Jf (Ja (hK11 (Jk rfl (fun h23=>?_) (fun h23=>?_)))))))))))))
   ·
    refine Jb (Jg (Jc rfl) rfl (Jg (Jc rfl) rfl (Jg (JN u65 sz5 rfl rfl rfl (by omega)) rfl (Jg (Jr rfl At.z (by first | exact bytesC_get (by simp [*];omega) | exact intsC_get (by simp [*];omega)) pl5) rfl (Jg (Ey u5 u2 rfl (by first | exact nw _ (by omega) | rfl)) rfl (JF fn65 rfl rfl fun w hH=>(l01Dec_c (by omega) hH).mono ?_))))));rintro _ w ⟨rfl,hH⟩;refine ⟨_,rfl,fun a hF=>JV hF hH ?_⟩;refine Jg (Em rfl rfl (by first | omega | (simp only [List.length_append,List.length_singleton];omega))) rfl (Jg (Jd rfl) rfl (Jf (JD (Ja (hK7 (Jb (Jg (Jc rfl) rfl (Jg (Jy rfl rfl (by first | exact nw _ (by omega) | rfl)) rfl (Jg (Jd rfl) rfl (Jf (Ja ?_)))))))))));exact hAg0 (i+1) (by omega) (by omega) 23 rfl rfl ⟨rfl,⟨(by exfalso;omega),trivial⟩⟩ rfl rfl
   ·
    refine Ji (JD (Ja (hK7 (Jb (Jg (Jc rfl) rfl (Jg (Jy rfl rfl (by first | exact nw _ (by omega) | rfl)) rfl (Jg (Jd rfl) rfl (Jf (Ja ?_)))))))));exact hAg0 (i+1) (by omega) (by omega) 15 rfl rfl ⟨rfl,⟨(vS (monT_nn h12)),trivial⟩⟩ rfl rfl
 ·
  refine JI (Jl (Jl (JR (Ja (hK3 (Je fun _ hK12 _=>(Je fun _ hK13 _=>(Jb (Jg (Jc rfl) rfl (Jg (EE rfl rfl) rfl (Jf (Ja (hK13 (Jk rfl (fun h32=>?_) (fun h32=>?_)))))))))))))))
  ·
   refine Je fun _ hK14 _=>(Jb (Jg (Jd rfl) rfl (Jf (Ja (hK14 (Jp (Jh (Jt rfl (Res.tmp rfl) fun w hH=>?_))))))));replace hH:=hH.tail
   obtain rfl:i=8:=by omega
   exact ⟨by unfold nameT;rw [if_pos h32],hH⟩
  ·
   refine Ji (Ja (hK12 (Je fun _ hK15 _=>(Jb (Jg (Jc rfl) rfl (Jg (Jd rfl) rfl (Jf (Ja (hK15 (Jp (Jt rfl (Res.tmp rfl) fun w hH=>?_)))))))))));replace hH:=hH.tail
   obtain rfl:i=8:=by omega
   exact ⟨by unfold nameT;rw [if_neg h32],hH⟩
theorem l01Text_c {B:World} {H0 H:HP} {L:List SA} {w:World} {qts:Option Addr} {cts:Nat} {ts:List Term} (hts:Terms H qts ts) (hl:ts.length≤400) (hf : ∀i,i<ts.length→0≤(tm ts i).fac) (hH:Hp B H0 H L w):Calls Tryz.prog 42 [.agg [.slice qts ts.length cts].toArray].toArray w fun e w'=>e = .returned (sV (textT ts))∧Hp B H0 H L w':=by
 refine JB Tryz.func42 rfl 39 rfl rfl [(0,.agg [.slice qts ts.length cts].toArray)] rfl hH ?_;clear hH;have hp9:=fun k (h:k≤ts.length)=>preT_len hts.wfs hf h;refine Je fun _ hK1 _=>(Jb (Ei rfl rfl rfl fun g1=>(Jg (Jd rfl) rfl (Jf (Ja (hK1 (Je fun _ hK2 _=>(Je fun _ hK3 _=>(Jb (Jg (Ju u33 rfl sz31 rfl) rfl (Jg (Jr rfl At.z rfl pl31) rfl (Jg (Jq u31 rfl rfl) rfl (Jg (EB rfl rfl) rfl (Jf (Ja (hK3 ?_))))))))))))))));refine Jk rfl (fun h8=>?_) (fun h8=>?_)
 ·
  refine Je fun _ hK4 _=>(Jb (Jg (Jd rfl) rfl (Jf (Ja (hK4 (Jp (Jh (Jt rfl (Res.tmp rfl) fun w hH=>?_))))))));replace hH:=hH.tail;exact ⟨by unfold textT;rw [if_pos (by omega)],hH⟩
 ·
  refine Ji (Ja (hK2 (Je fun _ hK5 _=>(Jb (Jg (Jd rfl) rfl (Jf (Ja (hK5 (Je fun _ hK6 _=>(Je fun _ hK7 _=>(Jb (Jg (Jd rfl) rfl (Jf (Ja (hK7 (Jm (JE (σ:=Nat) (fun (i:Nat)=>[(4,.int .i64 (i:Int)),(3,sV (preT ts i))]) (fun (i:Nat)=>H) (fun (i:Nat)=>obj g1 (.cells [.slice qts ts.length cts].toArray 33 (0,0))::L) (fun (i:Nat)=>i≤ts.length) (fun (i:Nat)=>ts.length - i) 0 (by omega) ⟨rfl,⟨rfl,trivial⟩⟩ rfl rfl ?_)))))))))))))))));rintro i hi _ hAg0;have hpl:=hp9 i hi;refine Je fun _ hK8 _=>(Je fun _ hK9 _=>(Jb (Jg (Jc rfl) rfl (Jg (Ju u33 rfl sz31 rfl) rfl (Jg (Jr rfl At.z rfl pl31) rfl (Jg (Jq u31 rfl rfl) rfl (Jg (JK rfl rfl) rfl (Jf (Ja (hK9 (Jk rfl (fun h13=>?_) (fun h13=>?_))))))))))))
  ·
   have hil:i<ts.length:=by omega
   have hfi:=hf i hil;have hmw:=(hts.wf i hil);have hfu:=hmw.fac.2;have hdl:=decL_len hfi hmw.fac.2;have hnl:=nameT_len hmw.mono.bd;refine Ji (Ja (hK8 (Je fun _ hK10 _=>(Jm (Je fun _ hK11 _=>(Je fun _ hK12 _=>(Jb (Jg (Jc rfl) rfl (Jg (Ep rfl rfl) rfl (Jf (Ja (hK12 (Jk rfl (fun h17=>?_) (fun h17=>?_))))))))))))))
   ·
    refine Jb (Jg (Jc rfl) rfl (Jg (Em rfl rfl (by first | omega | (simp only [List.length_append,List.length_singleton];omega))) rfl (Jg (Jd rfl) rfl (Jf (Ja (hK11 (En [[], [], [1], [], [2,3], [4], [5], [6], [0,7], [8], [], [10], [], [11,12], [13], [14], [15]] (by kernel_rfl) (Jw (fun gh=>Jc rfl) (Jw (fun gh=>Ju u33 rfl sz31 rfl) (Jw (fun gh=>Jr rfl At.z rfl pl31) (Jw (fun gh=>Jc rfl) (Jw (fun gh=>Ej u31 sz69 rfl rfl rfl (by omega) hts.sm) (Jw (fun gh=>El u69 rfl sz2 rfl (hts.sm (i:=i) (by omega))) (Jw (fun gh=>JW rfl (hts.fac (by omega)) pl2) (EI fn65 (fun gh=>rfl) (fun w X hH=>l01Dec_c (by omega) hH) ?_)))))))))))))));refine Jw (fun gh=>Em rfl rfl (by first | omega | (simp only [List.length_append,List.length_singleton];omega))) (Jw (fun gh=>Em rfl rfl (by first | omega | (simp only [List.length_append,List.length_singleton];omega))) (Jw (fun gh=>Ju u33 rfl sz31 rfl) (Jw (fun gh=>Jr rfl At.z rfl pl31) (Jw (fun gh=>Jc rfl) (Jw (fun gh=>Ej u31 sz69 rfl rfl rfl (by omega) hts.sm) (Jw (fun gh=>El u69 rfl sz65 rfl (hts.sm (i:=i) (by omega))) (Jw (fun gh=>JO rfl (hts.mono (by omega)) (hts.sm (i:=i) (by omega)) (by rw [bytesC_length,(hts.wf _ (by omega)).mono.len];exact ag65)) (EI fn66 (fun gh=>rfl) (fun w X hH=>l01Name_c (hts.wf i (by omega)).mono hH) (Ec 17 0 foll0 (by kernel_rfl) rfl rfl fun gh=>(Ek (us':=(20,_)::(21,_)::(22,_)::(23,_)::(24,_)::(25,_)::(26,_)::(27,_)::(28,_)::(29,_)::(30,_)::(31,_)::(32,_)::(33,_)::(34,_)::(35,_)::(36,_)::_) (L':=_) rfl rfl (Jf (Eb (JG (Em rfl rfl (by first | omega | (simp only [List.length_append,List.length_singleton];omega))) rfl (JG (Jd rfl) rfl ?_))))))))))))));refine Ef (JD (Ja (hK10 (Jb (Jg (Jc rfl) rfl (Jg (Jy rfl rfl (by first | exact nw _ (by omega) | rfl)) rfl (Jg (Jd rfl) rfl (Jf (Ja ?_)))))))));exact hAg0 (i+1) (by omega) (by omega) 34 rfl rfl ⟨rfl,⟨(vS (preT_p (by omega))),trivial⟩⟩ rfl rfl
   ·
    refine Ji (Ja (hK11 (En [[], [], [1], [], [2,3], [4], [5], [6], [0,7], [8], [], [10], [], [11,12], [13], [14], [15]] (by kernel_rfl) (Jw (fun gh=>Jc rfl) (Jw (fun gh=>Ju u33 rfl sz31 rfl) (Jw (fun gh=>Jr rfl At.z rfl pl31) (Jw (fun gh=>Jc rfl) (Jw (fun gh=>Ej u31 sz69 rfl rfl rfl (by omega) hts.sm) (Jw (fun gh=>El u69 rfl sz2 rfl (hts.sm (i:=i) (by omega))) (Jw (fun gh=>JW rfl (hts.fac (by omega)) pl2) (EI fn65 (fun gh=>rfl) (fun w X hH=>l01Dec_c (by omega) hH) (Jw (fun gh=>Em rfl rfl (by first | omega | (simp only [List.length_append,List.length_singleton];omega))) (Jw (fun gh=>Em rfl rfl (by first | omega | (simp only [List.length_append,List.length_singleton];omega))) (Jw (fun gh=>Ju u33 rfl sz31 rfl) (Jw (fun gh=>Jr rfl At.z rfl pl31) ?_)))))))))))))));refine Jw (fun gh=>Jc rfl) (Jw (fun gh=>Ej u31 sz69 rfl rfl rfl (by omega) hts.sm) (Jw (fun gh=>El u69 rfl sz65 rfl (hts.sm (i:=i) (by omega))) (Jw (fun gh=>JO rfl (hts.mono (by omega)) (hts.sm (i:=i) (by omega)) (by rw [bytesC_length,(hts.wf _ (by omega)).mono.len];exact ag65)) (EI fn66 (fun gh=>rfl) (fun w X hH=>l01Name_c (hts.wf i (by omega)).mono hH) (Ec 17 0 foll0 (by kernel_rfl) rfl rfl fun gh=>(Ek (us':=(20,_)::(21,_)::(22,_)::(23,_)::(24,_)::(25,_)::(26,_)::(27,_)::(28,_)::(29,_)::(30,_)::(31,_)::(32,_)::(33,_)::(34,_)::(35,_)::(36,_)::_) (L':=_) rfl rfl (Jf (Eb (JG (Em rfl rfl (by first | omega | (simp only [List.length_append,List.length_singleton];omega))) rfl (JG (Jd rfl) rfl (Ef (JD (Ja (hK10 (Jb ?_)))))))))))))));refine Jg (Jc rfl) rfl (Jg (Jy rfl rfl (by first | exact nw _ (by omega) | rfl)) rfl (Jg (Jd rfl) rfl (Jf (Ja ?_))));exact hAg0 (i+1) (by omega) (by omega) 31 rfl rfl ⟨rfl,⟨(vS (preT_z (by omega))),trivial⟩⟩ rfl rfl
  ·
   refine JI (Jl (Jl (JR (Ja (hK6 (Je fun _ hK13 _=>(Jb (Jg (Jc rfl) rfl (Jg (Jd rfl) rfl (Jf (Ja (hK13 (Jp (Jt rfl (Res.tmp rfl) fun w hH=>?_))))))))))))));replace hH:=hH.tail
   obtain rfl:i=ts.length:=by omega
   exact ⟨by rw [preT_end ts (by omega)],hH⟩
def att (x:List UInt8):List (List UInt8)→List (List UInt8)
 | []=>[x]
 | y::ys=>(x++y)::ys
def spl (c:UInt8):List UInt8→List (List UInt8)
 | []=>[[]]
 | b::s=>if b=c then []::spl c s else att [b] (spl c s)
theorem att_ne (x:List UInt8) (l:List (List UInt8)):att x l≠ []:=by cases l <;> simp [att]
theorem spl_ne (c:UInt8) : ∀s,spl c s≠ []
 | []=>by simp [spl]
 | b::s=>by
  simp only [spl]
  split
  ·simp
  ·exact att_ne _ _
theorem att_len (x:List UInt8) {l:List (List UInt8)} (h:l≠ []):(att x l).length=l.length:=by
 cases l with
 | nil=>exact absurd rfl h
 | cons y ys=>rfl
theorem spl_len (c:UInt8) : ∀s:List UInt8,(spl c s).length≤s.length+1
 | []=>by simp [spl]
 | b::s=>by
  have ih:=spl_len c s
  simp only [spl]
  split
  ·simp only [List.length_cons]
   omega
  ·rw [att_len _ (spl_ne c s)]
   simp only [List.length_cons]
   omega
theorem att_att (x y:List UInt8) (l:List (List UInt8)):att x (att y l)=att (x++y) l:=by cases l <;> simp [att]
theorem att_nil {l:List (List UInt8)} (h:l≠ []):att [] l=l:=by
 cases l with
 | nil=>exact absurd rfl h
 | cons y ys=>rfl
theorem spl_att {c:UInt8} (s:List UInt8) : ∀{x:List UInt8},(∀b∈x,b≠c)→spl c (x++s)=att x (spl c s)
 | [],_=>(att_nil (spl_ne c s)).symm
 | b::x,h=>by
  rw [JxA,spl,if_neg (h b (by simp)),spl_att s fun y hy=>h y (by simp [hy]),att_att]
  rfl
theorem spl_clean {c:UInt8} {x:List UInt8} (h : ∀b∈x,b≠c):spl c x=[x]:=by
 have:=spl_att (c:=c) [] h;rw [List.append_nil] at this;rw [this]
 simp [spl,att]
theorem spl_app {c:UInt8} {x:List UInt8} (s:List UInt8) (h : ∀b∈x,b≠c):spl c (x++c::s)=x::spl c s:=by
 rw [spl_att _ h,spl,if_pos rfl]
 simp [att]
theorem joinTail_cons (sep b:List UInt8) (r:List (List UInt8)):Lib.joinTail sep (b::r)=sep++b++Lib.joinTail sep r:=by
 unfold Lib.joinTail
 simp
theorem spl_join {c:UInt8} : ∀{xs:List (List UInt8)},xs≠ []→(∀x∈xs,∀b∈x,b≠c)→spl c (Lib.join xs [c])=xs
 | [],h,_=>absurd rfl h
 | [x],_,h=>by
  rw [Lib.join_one]
  exact spl_clean (h x (by simp))
 | x::y::xs,_,h=>by
  have ih:=spl_join (c:=c) (xs:=y::xs) (by simp) fun z hz=>h z (by simp [hz])
  rw [Lib.join_cons] at ih
  rw [Lib.join_cons,joinTail_cons,List.append_assoc,List.singleton_append,spl_app _ (h x (by simp)),ih]
theorem join_spl (c:UInt8) : ∀s:List UInt8,Lib.join (spl c s) [c]=s
 | []=>by simp [spl,Lib.join_one]
 | b::s=>by
  have ih:=join_spl c s
  have hn:=spl_ne c s
  simp only [spl]
  cases hs:spl c s with
  | nil=>exact absurd hs hn
  | cons y ys=>
   rw [hs,Lib.join_cons] at ih
   split
   ·rename_i e
    rw [Lib.join_cons,joinTail_cons,List.append_assoc,ih,e]
    rfl
   ·simp only [att]
    rw [Lib.join_cons,List.append_assoc,ih]
    rfl
theorem index_cons1 (c b:UInt8) (l:List UInt8):Lib.index (b::l) [c]=if b=c then 0 else if Lib.index l [c] = -1 then -1 else Lib.index l [c]+1:=by
 rw [Lib.index]
 by_cases h:b=c
 ·subst h;rw [if_pos rfl]
  simp [List.isPrefixOf]
 ·rw [if_neg h]
  have hp:([c]:List UInt8).isPrefixOf (b::l)=false:=by simp [List.isPrefixOf,Ne.symm h]
  rw [hp]
  by_cases h2:Lib.index l [c] = -1
  ·simp [h2]
  ·rw [if_neg h2,if_neg (by decide),if_neg (by simpa using h2)]
theorem split_spl (c:UInt8) : ∀s:List UInt8,Lib.split s [c]=spl c s
 | []=>by
  unfold Lib.split
  rw [Lib.count_miss (by simp [Lib.index])]
  rfl
 | b::l=>by
  have ih:=split_spl c l
  unfold Lib.split at ih ⊢
  by_cases h:b=c
  ·subst h
   rw [Lib.count_cons_eq,Nat.add_comm,Lib.splitK,index_cons1,if_pos rfl]
   simp only [spl,if_true]
   rw [← ih]
   simp
  ·rw [Lib.count_cons_ne b c l h]
   simp only [spl]
   rw [if_neg h,← ih]
   cases hk:Lib.count l [c] with
   | zero=>rfl
   | succ k=>
    have hm:Lib.index l [c]≠ -1:=fun hm=>by
     rw [Lib.count_miss hm] at hk
     cases hk
    have hge:=Lib.index_ge l [c]
    obtain ⟨j,hj⟩ : ∃j:Nat,Lib.index l [c]=j:=⟨(Lib.index l [c]).toNat,by omega⟩
    rw [Lib.splitK,Lib.splitK,index_cons1,if_neg h,if_neg hm,hj]
    have e1:(((j:Int)+1 == -1)=true)↔False:=⟨fun h=>by have:=beq_iff_eq.1 h;omega,fun h=>h.elim⟩
    have e2:(((j:Int) == -1)=true)↔False:=⟨fun h=>by have:=beq_iff_eq.1 h;omega,fun h=>h.elim⟩
    rw [if_neg (by rw [e1];exact id),if_neg (by rw [e2];exact id)]
    have e3:((j:Int)+1).toNat=j+1:=by omega
    simp only [att,e3,Int.toNat_natCast,List.length_singleton,Nat.add_zero,List.take_succ_cons,List.drop_succ_cons,List.singleton_append]
theorem index_app {c:UInt8} (t:List UInt8) : ∀{x:List UInt8},(∀b∈x,b≠c)→Lib.index (x++c::t) [c]=(x.length:Int)
 | [],_=>by rw [JxB,index_cons1,if_pos rfl];rfl
 | b::x,h=>by
  have ih:=index_app t (x:=x) fun y hy=>h y (by simp [hy])
  rw [JxA,index_cons1,if_neg (h b (by simp)),ih,if_neg (by omega),List.length_cons]
  omega
theorem cut_app {c:UInt8} (t:List UInt8) {x:List UInt8} (h : ∀b∈x,b≠c):Lib.cut (x++c::t) [c]=(x,t,true):=by
 unfold Lib.cut;rw [index_app t h,if_pos (by omega)]
 simp
def isDig (b:UInt8):Bool:=decide (48≤b.toNat) && decide (b.toNat≤57)
def dgV (b:UInt8):Int:=(b.toNat:Int) - 48
def numF:List UInt8→Int→Int
 | [],n=>n
 | b::s,n=>if isDig b then numF s (n * 10+dgV b) else -1
def numS (s:List UInt8):Int:=if s.length=0∨9<s.length∨(1<s.length∧s.getD 0 0=48) then -1 else numF s 0
theorem isDig_iff {b:UInt8}:isDig b=true↔48≤b.toNat∧b.toNat≤57:=by unfold isDig;simp
theorem numF_app (b:UInt8) (hb:isDig b=true) : ∀(s:List UInt8) (n:Int),(∀x∈s,isDig x=true)→numF (s++[b]) n=numF s n * 10+dgV b
 | [],n,_=>by simp [numF,hb]
 | x::s,n,h=>by
  simp only [JxA,numF]
  rw [if_pos (h x (by simp)),if_pos (h x (by simp)),numF_app b hb s _ fun y hy=>h y (by simp [hy])]
theorem numF_bad : ∀(s:List UInt8) (n:Int),0≤n→0≤numF s n→∀x∈s,isDig x=true
 | [],_,_,_=>fun x h=>by simp at h
 | b::s,n,hn,h=>by
  simp only [numF] at h
  split at h
  ·rename_i hb
   have h1:=isDig_iff.1 hb
   have h2:=numF_bad s _ (by unfold dgV;omega) h
   intro x hx
   rcases List.mem_cons.1 hx with rfl | hx
   ·exact hb
   ·exact h2 x hx
  ·omega
theorem dg_ok {d:Nat} (h:d<10):isDig (UInt8.ofNat (48+d))=true∧dgV (UInt8.ofNat (48+d))=d:=by
 have e:(UInt8.ofNat (48+d)).toNat=48+d:=by rw [UInt8.toNat_ofNat'];omega
 unfold isDig dgV;rw [e];exact ⟨by simp;omega,by omega⟩
theorem decD_step {u:Nat} (h : ¬u<10):Lib.decDigits u=Lib.decDigits (u / 10)++[UInt8.ofNat (48+u % 10)]:=by
 rw [Lib.decDigits,dif_neg h]
theorem decD_num : ∀u:Nat,(∀b∈Lib.decDigits u,isDig b=true)∧numF (Lib.decDigits u) 0=u∧Lib.decDigits u≠ []∧(0<u→(Lib.decDigits u).getD 0 0≠48):=fun u=>by
 induction u using Nat.strongRecOn with
 | _ u ih=>
  by_cases h:u<10
  ·have hd:=dg_ok h
   rw [Lib.decDigits_one h]
   refine ⟨fun b hb=>by rw [List.mem_singleton.1 hb];exact hd.1,?_,by simp,fun h0 e=>?_⟩
   ·simp only [numF]
    rw [if_pos hd.1,hd.2]
    omega
   ·have e2:UInt8.ofNat (48+u)=48:=e
    have e3:=congrArg UInt8.toNat e2
    rw [UInt8.toNat_ofNat'] at e3
    have:(48:UInt8).toNat=48:=rfl
    omega
  ·obtain ⟨h1,h2,h3,h4⟩:=ih (u / 10) (by omega)
   have hd:=dg_ok (show u % 10<10 by omega)
   rw [decD_step h]
   refine ⟨fun b hb=>?_,?_,by simp,fun _=>?_⟩
   ·rcases List.mem_append.1 hb with hb | hb
    ·exact h1 b hb
    ·rw [List.mem_singleton.1 hb]
     exact hd.1
   ·rw [numF_app _ hd.1 _ _ h1,h2,hd.2]
    omega
   ·cases hl:Lib.decDigits (u / 10) with
    | nil=>exact absurd hl h3
    | cons a l=>
     have:=h4 (by omega)
     rw [hl] at this
     simpa using this
theorem numS_dec {n:Int} (h:0≤n) (h2:n≤999999999):numS (decL n)=n:=by
 obtain ⟨h1,h3,h4,h5⟩:=decD_num n.toNat
 have hl:(Lib.decDigits n.toNat).length≤9:=by
  rw [Lib.decDigits_length];exact nDigits_le 9 _ (by have h9:(10:Nat) ^ 9=1000000000:=(by decide);omega) (by omega)
 unfold numS decL;rw [if_neg,h3]
 ·omega
 ·rintro (h6 | h6 | ⟨h6,h7⟩)
  ·exact h4 (List.length_eq_zero_iff.1 h6)
  ·omega
  ·by_cases h0:0<n.toNat
   ·exact h5 h0 h7
   ·rw [show n.toNat=0 by omega,Lib.decDigits_one (by omega)] at h6
    simp at h6
theorem dec_of : ∀(s:List UInt8),s≠ []→(∀x∈s,isDig x=true)→(1<s.length→s.getD 0 0≠48)→0≤numF s 0∧Lib.decDigits (numF s 0).toNat=s∧(s.getD 0 0≠48→0<numF s 0):=fun s=>by
 induction h:s.length using Nat.strongRecOn generalizing s with
 | _ k ih=>
  intro hs hd h0
  have hb : ∀b:UInt8,isDig b=true→UInt8.ofNat (48+(dgV b).toNat)=b∧0≤dgV b∧dgV b≤9:=fun b hb=>by
   have h1:=isDig_iff.1 hb
   have e:48+(dgV b).toNat=b.toNat:=by unfold dgV;omega
   rw [e]
   exact ⟨UInt8.ofNat_toNat,by unfold dgV;omega,by unfold dgV;omega⟩
  rcases List.eq_nil_or_concat s with e | ⟨t,b,e⟩
  ·exact absurd e hs
  ·rw [List.concat_eq_append] at e
   subst e
   have hdb:=hd b (by simp)
   obtain ⟨b1,b2,b3⟩:=hb b hdb
   have hdt : ∀x∈t,isDig x=true:=fun x hx=>hd x (by simp [hx])
   rw [numF_app b hdb t 0 hdt]
   by_cases ht:t=[]
   ·subst ht
    simp only [numF,JxB]
    rw [Int.zero_mul,Int.zero_add]
    refine ⟨b2,?_,fun h=>?_⟩
    ·rw [Lib.decDigits_one (by omega),b1]
    ·have h1:b≠48:=h
     have h2:=isDig_iff.1 hdb
     have h3:b.toNat≠48:=fun e=>h1 (by rw [← UInt8.ofNat_toNat (x:=b),e];rfl)
     unfold dgV
     omega
   ·have htl:0<t.length:=List.length_pos_iff.2 ht
    have hg:(t++[b]).getD 0 0=t.getD 0 0:=by
     cases t with
     | nil=>exact absurd rfl ht
     | cons a t=>rfl
    have hne:t.getD 0 0≠48:=by
     rw [← hg]
     exact h0 (by have h9:=h;rw [List.length_append,List.length_singleton] at h9;omega)
    obtain ⟨i1,i2,i3⟩:=ih t.length (by rw [← h,List.length_append,List.length_singleton];omega) t rfl ht hdt fun _=>hne
    have i4:=i3 hne
    refine ⟨by omega,?_,fun _=>by omega⟩
    have e1:(numF t 0 * 10+dgV b).toNat / 10=(numF t 0).toNat:=by omega
    have e2:(numF t 0 * 10+dgV b).toNat % 10=(dgV b).toNat:=by omega
    rw [decD_step (by omega),e1,e2,i2,b1]
theorem dec_num {s:List UInt8} (h:0≤numS s):decL (numS s)=s:=by
 unfold numS at h ⊢
 split at h
 ·omega
 ·rename_i hc
  rw [if_neg hc];have hs:s≠ []:=fun e=>hc (.inl (by rw [e];rfl));exact (dec_of s hs (numF_bad s 0 (by omega) h) fun h1 h2=>hc (.inr (.inr ⟨h1,h2⟩))).2.1
theorem p10_le {i:Nat} (h:i≤9):(10:Int) ^ i≤1000000000:=by
 have h4:(10:Nat) ^ i≤10 ^ 9:=Nat.pow_le_pow_right (by omega) h
 have h5:((10 ^ i:Nat):Int)≤((10 ^ 9:Nat):Int):=by omega
 rw [Int.natCast_pow] at h5
 simpa using h5
theorem decF_num : ∀(l:List UInt8) (acc:Nat),(∀b∈l,isDig b=true)→Lib.decFrom acc l=some (numF l (acc:Int)).toNat
 | [],acc,_=>by simp [Lib.decFrom,numF]
 | b::l,acc,h=>by
  have hb:=h b (by simp)
  have h1:=isDig_iff.1 hb
  simp only [Lib.decFrom,Lib.digitVal,numF]
  rw [if_pos h1,if_pos hb]
  simp only
  rw [decF_num l _ fun x hx=>h x (by simp [hx])]
  have e:((acc * 10+(b.toNat - 48):Nat):Int)=(acc:Int) * 10+dgV b:=by unfold dgV;omega
  rw [e]
theorem atoi_dec {u:Nat}:Lib.atoi (Lib.decDigits u)=some (u:Int):=by
 obtain ⟨h1,h2,h3,_⟩:=decD_num u
 have hd:Lib.decNat (Lib.decDigits u)=some u:=by
  unfold Lib.decNat
  rw [if_neg (by cases h:Lib.decDigits u with
   | nil=>exact absurd h h3
   | cons a l=>simp),decF_num _ 0 h1]
  congr 1
  have e:((0:Nat):Int)=0:=rfl;rw [e,h2]
  omega
 cases h:Lib.decDigits u with
 | nil=>exact absurd h h3
 | cons a l=>
  have ha:=isDig_iff.1 (h1 a (by rw [h];simp));rw [h] at hd;simp only [Lib.atoi]
  have n1:(a == 45)=false:=by
   rw [beq_eq_false_iff_ne];intro e;rw [e] at ha;exact absurd ha (by decide)
  have n2:(a == 43)=false:=by
   rw [beq_eq_false_iff_ne];intro e;rw [e] at ha;exact absurd ha (by decide)
  rw [n1,n2,hd]
  rfl
theorem parse_dec {n:Int} (h:0≤n) (h2:n≤999999999):Lib.parseIntB 64 (decL n) = .ok n:=by
 have hl:(Lib.decDigits n.toNat).length≤9:=by
  rw [Lib.decDigits_length];exact nDigits_le 9 _ (by have h9:(10:Nat) ^ 9=1000000000:=(by decide);omega) (by omega)
 unfold decL;rw [Lib.parseIntB_64,Lib.atoiAll_short _ (by omega),atoi_dec]
 show Lib.NumEnd.ok _=_
 congr 1
 omega
theorem atoiAll_dec {n:Int} (h:0≤n) (h2:n≤999999999):Lib.atoiAll (decL n) = .ok n:=by
 rw [← Lib.parseIntB_64];exact parse_dec h h2
def digs (s:List UInt8):List UInt8:=s.takeWhile isDig
def rst (s:List UInt8):List UInt8:=s.dropWhile isDig
theorem rst_len (s:List UInt8):(rst s).length≤s.length:=by
 have:=congrArg List.length (List.takeWhile_append_dropWhile (p:=isDig) (l:=s));rw [List.length_append] at this;unfold rst
 omega
theorem digs_rst (s:List UInt8):digs s++rst s=s:=List.takeWhile_append_dropWhile
theorem digs_app {a:List UInt8} (b:List UInt8) (ha : ∀x∈a,isDig x=true) (hb : ∀x t,b=x::t→isDig x=false):digs (a++b)=a∧rst (a++b)=b:=by
 induction a with
 | nil=>
  cases b with
  | nil=>exact ⟨rfl,rfl⟩
  | cons x t=>
   have:=hb x t rfl
   simp [digs,rst,this]
 | cons x a ih=>
  have hx:=ha x (by simp);obtain ⟨h1,h2⟩:=ih fun y hy=>ha y (by simp [hy]);unfold digs rst at *;simp only [JxA,List.takeWhile_cons,List.dropWhile_cons,hx,if_true];exact ⟨by rw [h1],h2⟩
def ltr (b:UInt8):Bool:=decide (97≤b.toNat) && decide (b.toNat≤104)
def zer8:List Int:=List.replicate 8 0
def expS (d:List UInt8):Int:=if d.length=0 then 1 else numS d
def namF:Nat→List UInt8→List Int→Option (List Int)
 | 0,_,_=>none
 | _+1, [],m=>some m
 | f+1,b::s,m=>if ltr b && (decide (1≤expS (digs s)) && decide (expS (digs s)≤20)) then namF f (rst s) (m.set (b.toNat - 97) (expS (digs s))) else none
def namS (t:List UInt8):Option (List Int):=if t=[49] then some zer8 else if t=[] then none else namF (t.length+1) t zer8
def atV (d:List UInt8):Int:=match Lib.atoiAll d with
 | .ok v=>v
 | .range=>Lib.atoiSat d
 | _=>0
def expI (d:List UInt8):Int:=if d.length=0 then 1 else atV d
def min255 (x:Int):Int:=if x>255 then 255 else x
def monF:Nat→List UInt8→List Int→List Int
 | 0,_,m=>m
 | _+1, [],m=>m
 | f+1,b::s,m=>monF f (rst s) (if ltr b then m.set (b.toNat - 97) (min255 (expI (digs s))) else m)
def monR (t:List UInt8):List Int:=monF (t.length+1) t zer8
theorem set_mn {m:List Int} {i:Nat} {x:Int} (h:Mono m) (hx:0≤x∧x≤255):Mono (m.set i x):=⟨by rw [List.length_set];exact h.len,fun j=>by
 rw [getD_set8]
 split
 ·exact hx
 ·exact h.bd j⟩
theorem zer8_get (j:Nat):zer8.getD j 0=0:=by
 unfold zer8;rw [List.getD_eq_getElem?_getD,List.getElem?_replicate]
 split <;> rfl
theorem zer8_mn:Mono zer8:=⟨by simp [zer8],fun j=>by rw [zer8_get];omega⟩
theorem namF_mn : ∀(f:Nat) (s:List UInt8) (m m':List Int),Mono m→namF f s m=some m' →Mono m'
 | 0,_,_,_,_,h=>by simp [namF] at h
 | f+1, [],m,m',hm,h=>by
  simp only [namF,Option.some.injEq] at h
  rw [← h]
  exact hm
 | f+1,b::s,m,m',hm,h=>by
  simp only [namF] at h
  split at h
  ·rename_i hc
   simp only [Bool.and_eq_true,decide_eq_true_eq] at hc
   exact namF_mn f _ _ _ (set_mn hm (by omega)) h
  ·cases h
theorem namS_mn {t:List UInt8} {m:List Int} (h:namS t=some m):Mono m:=by
 unfold namS at h
 split at h
 ·cases h
  exact zer8_mn
 ·split at h
  ·cases h
  ·exact namF_mn _ _ _ _ zer8_mn h
def sufT (m:List Int):Nat→Nat→List UInt8
 | _,0=>[]
 | i,k+1=>letT m i++sufT m (i+1) k
theorem sufT_mon (m:List Int) : ∀(k i:Nat),monT m i++sufT m i k=monT m (i+k)
 | 0,i=>by simp [sufT]
 | k+1,i=>by
  have:=sufT_mon m k (i+1)
  simp only [monT] at this
  simp only [sufT]
  rw [← List.append_assoc,this]
  congr 1
  omega
theorem u8_97 {i:Nat} (h:i<8):(UInt8.ofNat (97+(i:Int)).toNat).toNat=97+i:=by
 rw [UInt8.toNat_ofNat']
 omega
theorem sufT_head {m:List Int} : ∀{k i:Nat},i+k≤8→∀x t,sufT m i k=x::t→isDig x=false
 | 0,_,_,x,t,h=>by simp [sufT] at h
 | k+1,i,hk,x,t,h=>by
  simp only [sufT,letT] at h
  by_cases h1:0<m.getD i 0
  ·rw [if_pos h1] at h
   simp only [List.singleton_append,JxA,List.cons.injEq] at h
   rw [← h.1]
   unfold isDig
   rw [u8_97 (by omega)]
   simp
   omega
  ·rw [if_neg h1,if_neg (show ¬1<m.getD i 0 by omega),JxB,JxB] at h
   exact sufT_head (by omega) x t h
theorem fill_set {m a:List Int} {i:Nat} (ha:a.length=8) (hm:m.length=8) (hi:i<8) (h0 : ∀j,j<i→a.getD j 0=m.getD j 0) (hz : ∀j,i≤j→a.getD j 0=0):(∀j,j<i+1→(a.set i (m.getD i 0)).getD j 0=m.getD j 0)∧∀j,i+1≤j→(a.set i (m.getD i 0)).getD j 0=0:=⟨fun j hj=>by
 rw [getD_set8]
 by_cases e:i=j
 ·rw [if_pos ⟨e,by omega⟩,e]
 ·rw [if_neg fun h=>e h.1]
  exact h0 j (by omega),fun j hj=>by
 rw [getD_set8,if_neg fun h=>by omega]
 exact hz j (by omega)⟩
theorem let_one {m:List Int} {i k:Nat} (hi:i+(k+1)≤8) (h1:m.getD i 0=1) : ∃s,sufT m i (k+1)=UInt8.ofNat (97+(i:Int)).toNat::s∧digs s=[]∧rst s=sufT m (i+1) k:=by
 refine ⟨sufT m (i+1) k,by
  simp only [sufT,letT];rw [if_pos (show 0<m.getD i 0 by omega),if_neg (show ¬1<m.getD i 0 by omega),List.append_nil]
  rfl,?_⟩
 have:=digs_app (a:=[]) (sufT m (i+1) k) (by simp) (sufT_head (by omega))
 simpa using this
theorem let_two {m:List Int} {i k:Nat} (hi:i+(k+1)≤8) (h1:1<m.getD i 0) : ∃s,sufT m i (k+1)=UInt8.ofNat (97+(i:Int)).toNat::s∧digs s=decL (m.getD i 0)∧rst s=sufT m (i+1) k:=by
 refine ⟨decL (m.getD i 0)++sufT m (i+1) k,?_,digs_app _ (decD_num _).1 (sufT_head (by omega))⟩;simp only [sufT,letT];rw [if_pos (by omega),if_pos h1]
 simp
theorem nam_suf {m:List Int} (hm:m.length=8) (hb : ∀j,0≤m.getD j 0∧m.getD j 0≤20) : ∀(k i f:Nat) (a:List Int),i+k=8→(sufT m i k).length<f→a.length=8→(∀j,j<i→a.getD j 0=m.getD j 0)→(∀j,i≤j→a.getD j 0=0)→namF f (sufT m i k) a=some m∧monF f (sufT m i k) a=m
 | 0,i,0,a,_,hf,_,_,_=>by omega
 | 0,i,f+1,a,hk,_,ha,h0,_=>by
  have e:a=m:=list_eq_of (by omega) fun j hj=>h0 j (by omega)
  simp only [sufT,namF,monF]
  exact ⟨by rw [e],e⟩
 | k+1,i,f,a,hk,hf,ha,h0,hz=>by
  have hbi:=hb i
  rcases (show m.getD i 0=0∨m.getD i 0=1∨1<m.getD i 0 by omega) with h1 | h1 | h1
  ·have e:sufT m i (k+1)=sufT m (i+1) k:=by
    simp only [sufT,letT]
    rw [if_neg (show ¬0<m.getD i 0 by omega),if_neg (show ¬1<m.getD i 0 by omega)]
    rfl
   rw [e] at hf ⊢
   refine nam_suf hm hb k (i+1) f a (by omega) hf ha (fun j hj=>?_) fun j hj=>hz j (by omega)
   by_cases e2:j=i
   ·rw [e2,hz i (Nat.le_refl _),h1]
   ·exact h0 j (by omega)
  ·obtain ⟨s,e,e1,e2⟩:=let_one (m:=m) (i:=i) (k:=k) (by omega) h1
   obtain ⟨g1,g2⟩:=fill_set ha hm (show i<8 by omega) h0 hz
   rw [e] at hf ⊢
   have hl:ltr (UInt8.ofNat (97+(i:Int)).toNat)=true:=by
    unfold ltr
    rw [u8_97 (by omega)]
    simp
    omega
   cases f with
   | zero=>omega
   | succ f=>
    have hlen:(sufT m (i+1) k).length<f:=by
     have:=rst_len s
     rw [e2] at this
     simp only [List.length_cons] at hf
     omega
    have ih:=nam_suf hm hb k (i+1) f (a.set i (m.getD i 0)) (by omega) hlen (by simp [ha]) g1 g2
    simp only [namF,monF]
    rw [hl,e1,e2,u8_97 (by omega),show 97+i - 97=i by omega]
    have x1:expS []=m.getD i 0:=h1.symm
    have x2:min255 (expI [])=m.getD i 0:=h1.symm
    rw [x1,x2,if_pos (by rw [decide_eq_true (show 1≤m.getD i 0 by omega),decide_eq_true hbi.2];rfl),if_pos rfl]
    exact ih
  ·obtain ⟨s,e,e1,e2⟩:=let_two (m:=m) (i:=i) (k:=k) (by omega) h1
   obtain ⟨g1,g2⟩:=fill_set ha hm (show i<8 by omega) h0 hz
   rw [e] at hf ⊢
   have hl:ltr (UInt8.ofNat (97+(i:Int)).toNat)=true:=by
    unfold ltr
    rw [u8_97 (by omega)]
    simp
    omega
   cases f with
   | zero=>omega
   | succ f=>
    have hlen:(sufT m (i+1) k).length<f:=by
     have:=rst_len s
     rw [e2] at this
     simp only [List.length_cons] at hf
     omega
    have ih:=nam_suf hm hb k (i+1) f (a.set i (m.getD i 0)) (by omega) hlen (by simp [ha]) g1 g2
    have hdn:(decL (m.getD i 0)).length≠0:=fun h=>(decD_num (m.getD i 0).toNat).2.2.1 (List.length_eq_zero_iff.1 h)
    simp only [namF,monF]
    rw [hl,e1,e2,u8_97 (by omega),show 97+i - 97=i by omega]
    have x1:expS (decL (m.getD i 0))=m.getD i 0:=by
     unfold expS
     rw [if_neg hdn]
     exact numS_dec (n:=m.getD i 0) (by omega) (by omega)
    have x2:min255 (expI (decL (m.getD i 0)))=m.getD i 0:=by
     unfold expI atV
     rw [if_neg hdn,atoiAll_dec (n:=m.getD i 0) (by omega) (by omega)]
     simp only
     unfold min255
     rw [if_neg (by omega)]
    rw [x1,x2,if_pos (by rw [decide_eq_true (show 1≤m.getD i 0 by omega),decide_eq_true hbi.2];rfl),if_pos rfl]
    exact ih
theorem name_read {m:List Int} (hm:m.length=8) (hb : ∀j,0≤m.getD j 0∧m.getD j 0≤20):namS (nameT m)=some m∧monR (nameT m)=m:=by
 have e:sufT m 0 8=monT m 8:=by
  have h:=sufT_mon m 8 0;rw [show monT m 0=[] from rfl,JxB] at h;exact h
 have h:=fun f hf=>nam_suf hm hb 8 0 f zer8 (by omega) hf (by simp [zer8]) (fun j hj=>by omega) fun j _=>zer8_get j;unfold nameT
 by_cases hn:monT m 8=[]
 ·rw [if_pos hn];rw [hn] at e;have h1:=h 1 (by rw [e];simp);rw [e] at h1;simp only [namF,monF] at h1;refine ⟨by unfold namS;rw [if_pos rfl];exact h1.1,?_⟩;unfold monR
  have:ltr 49=false:=by decide
  simp only [List.length_singleton,monF,this];exact h1.2
 ·rw [if_neg hn];have h1:=h ((monT m 8).length+1) (by rw [e];omega);rw [e] at h1;refine ⟨?_,h1.2⟩;unfold namS;rw [if_neg,if_neg hn]
  ·exact h1.1
  ·intro h49;rw [← e] at h49;have:=sufT_head (m:=m) (k:=8) (i:=0) (by omega) 49 [] h49;exact absurd this (by decide)
def wrdI (w:List UInt8):Option Term:=match Lib.parseIntB 64 (Lib.cut w [42]).1 with
 | .ok n=>some ⟨monR (Lib.cut w [42]).2.1,n⟩
 | _=>none
def wrdS (w:List UInt8):Option Term:=match spl 42 w with
 | [a,b]=>(namS b).map fun m=>⟨m,numS a⟩
 | _=>none
def allO {α:Type} (f:List UInt8→Option α):List (List UInt8)→Option (List α)
 | []=>some []
 | w::ws=>match f w with
  | none=>none
  | some x=>(allO f ws).map fun xs=>x::xs
def chkT (ds:List Int) (t:List UInt8) (f:List Term):Bool:=isForm ds f && decide (textT f=t)
def rdI (ds:List Int) (t:List UInt8):List Term × Bool:=if t=[48] then ([],true) else match allO wrdI (spl 43 t) with
 | none=>([],false)
 | some f=>(f,chkT ds t f)
def rdS (ds:List Int) (t:List UInt8):List Term × Bool:=if t=[48] then ([],true) else if 400<(spl 43 t).length then ([],false) else match allO wrdS (spl 43 t) with
 | none=>([],false)
 | some f=>(f,chkT ds t f)
def okBy (b:UInt8):Bool:=isDig b || ltr b
theorem okBy_ne {b c:UInt8} (h:okBy b=true) (hc:c.toNat<48∨c.toNat=58∨c.toNat=59):b≠c:=fun e=>by
 subst e
 unfold okBy isDig ltr at h
 simp only [Bool.or_eq_true,Bool.and_eq_true,decide_eq_true_eq] at h
 omega
theorem dec_okB (n:Int) : ∀b∈decL n,okBy b=true:=fun b hb=>by
 unfold okBy
 rw [(decD_num n.toNat).1 b hb]
 rfl
theorem let_okB (m:List Int) {i:Nat} (hi:i<8) : ∀b∈letT m i,okBy b=true:=fun b hb=>by
 unfold letT at hb
 rcases List.mem_append.1 hb with h | h
 ·split at h
  ·rw [List.mem_singleton.1 h]
   unfold okBy ltr
   rw [u8_97 hi]
   simp
   omega
  ·simp at h
 ·split at h
  ·exact dec_okB _ b h
  ·simp at h
theorem mon_okB (m:List Int) : ∀k,k≤8→∀b∈monT m k,okBy b=true
 | 0,_,b,h=>by simp [monT] at h
 | k+1,hk,b,h=>by
  simp only [monT] at h
  rcases List.mem_append.1 h with h | h
  ·exact mon_okB m k (by omega) b h
  ·exact let_okB m (by omega) b h
theorem name_okB (m:List Int) : ∀b∈nameT m,okBy b=true:=fun b hb=>by
 unfold nameT at hb
 split at hb
 ·rw [List.mem_singleton.1 hb]
  decide
 ·exact mon_okB m 8 (by omega) b hb
theorem term_ne (t:Term) {c:UInt8} (hc:c.toNat=43∨c.toNat=58∨c.toNat=59) : ∀b∈termT t,b≠c:=fun b hb=>by
 unfold termT at hb
 rcases List.mem_append.1 hb with h | h
 ·rcases List.mem_append.1 h with h | h
  ·exact okBy_ne (dec_okB _ b h) (by omega)
  ·rw [List.mem_singleton.1 h]
   intro e
   rw [← e] at hc
   have:(42:UInt8).toNat=42:=rfl
   omega
 ·exact okBy_ne (name_okB _ b h) (by omega)
theorem join_ne {c s:UInt8} (hs:s≠c) : ∀{xs:List (List UInt8)},(∀x∈xs,∀b∈x,b≠c)→∀b∈Lib.join xs [s],b≠c
 | [],_,b,h=>by simp [Lib.join_nil] at h
 | [x],h,b,hb=>by
  rw [Lib.join_one] at hb
  exact h x (by simp) b hb
 | x::y::xs,h,b,hb=>by
  have ih:=join_ne hs (xs:=y::xs) fun z hz=>h z (by simp [hz])
  rw [Lib.join_cons,joinTail_cons,List.append_assoc] at hb
  rcases List.mem_append.1 hb with hb | hb
  ·exact h x (by simp) b hb
  ·rcases List.mem_append.1 hb with hb | hb
   ·rw [List.mem_singleton.1 hb]
    exact hs
   ·refine ih b ?_
    rw [Lib.join_cons]
    exact hb
theorem text_ne (f:List Term) {c:UInt8} (hc:c.toNat=58∨c.toNat=59) : ∀b∈textT f,b≠c:=fun b hb=>by
 unfold textT at hb
 split at hb
 ·rw [List.mem_singleton.1 hb]
  intro e
  rw [← e] at hc
  have:(48:UInt8).toNat=48:=rfl
  omega
 ·refine join_ne (fun e=>by
   rw [← e] at hc
   have:(43:UInt8).toNat=43:=rfl
   omega) (fun x hx=>?_) b hb
  obtain ⟨t,_,rfl⟩:=List.mem_map.1 hx
  exact term_ne t (by omega)
structure TmOk (t:Term):Prop where
 len:t.mono.length=8
 bd : ∀j,0≤t.mono.getD j 0∧t.mono.getD j 0≤20
 fac:1≤t.fac∧t.fac≤10006
theorem form_tmOk {ds:List Int} {f:List Term} (hf:isForm ds f=true) (hw:Wfs f) : ∀t∈f,TmOk t:=fun t ht=>by
 have hs:=isForm_sok hw hf
 have hm:(t.mono,t.fac)∈toS f:=List.mem_map.2 ⟨t,ht,rfl⟩
 have h1:=hs.key _ hm
 exact ⟨h1.len,h1.bd,hs.val _ hm⟩
theorem wrdI_term {t:Term} (h:TmOk t):wrdI (termT t)=some t:=by
 unfold wrdI termT;rw [List.append_assoc,List.singleton_append,cut_app _ fun b hb=>okBy_ne (dec_okB _ b hb) (by decide),parse_dec (by have:=h.fac;omega) (by have:=h.fac;omega)];simp only;rw [(name_read h.len h.bd).2]
theorem wrdS_term {t:Term} (h:TmOk t):wrdS (termT t)=some t:=by
 unfold wrdS termT;rw [List.append_assoc,List.singleton_append,spl_app _ fun b hb=>okBy_ne (dec_okB _ b hb) (by decide),spl_clean fun b hb=>okBy_ne (name_okB _ b hb) (by decide)];simp only;rw [(name_read h.len h.bd).1,numS_dec (by have:=h.fac;omega) (by have:=h.fac;omega)]
 rfl
theorem allO_map {α β:Type} {f:List UInt8→Option α} {g:β→List UInt8} {h:β→α} : ∀{l:List β},(∀x∈l,f (g x)=some (h x))→allO f (l.map g)=some (l.map h)
 | [],_=>rfl
 | x::l,hx=>by
  simp only [List.map_cons,allO]
  rw [hx x (by simp),allO_map fun y hy=>hx y (by simp [hy])]
  rfl
theorem spl_text {f:List Term} (h:f≠ []):spl 43 (textT f)=f.map termT:=by
 unfold textT;rw [if_neg fun e=>h (List.length_eq_zero_iff.1 e)];refine spl_join (by simpa using h) fun x hx=>?_;obtain ⟨t,_,rfl⟩:=List.mem_map.1 hx;exact term_ne t (.inl (by decide))
theorem term_long (t:Term):3≤(termT t).length:=by
 have h1:(decL t.fac)≠ []:=(decD_num t.fac.toNat).2.2.1;have h2:=List.length_pos_iff.2 h1
 have h3:0<(nameT t.mono).length:=by
  unfold nameT
  split
  ·simp
  ·rename_i h
   exact List.length_pos_iff.2 h
 unfold termT;simp only [List.length_append,List.length_singleton]
 omega
theorem text_48 {f:List Term} (h:f≠ []):textT f≠ [48]:=fun e=>by
 have h1:=spl_text h
 rw [e] at h1
 have h2:spl 43 [48]=[[48]]:=by decide
 rw [h2] at h1
 cases f with
 | nil=>exact h rfl
 | cons t f=>
  simp only [List.map_cons,List.cons.injEq] at h1
  have:=term_long t
  rw [← h1.1] at this
  simp at this
def okR (ds:List Int) (t:List UInt8) (f:List Term):Prop:=isForm ds f=true∧Wfs f∧textT f=t
theorem isForm_nil (ds:List Int):isForm ds []=true:=by unfold isForm;simp
theorem rd_yes {ds:List Int} {t:List UInt8} {f:List Term} (h:okR ds t f):rdI ds t=(f,true)∧rdS ds t=(f,true):=by
 obtain ⟨h1,h2,h3⟩:=h;unfold rdI rdS
 by_cases hf:f=[]
 ·subst hf
  have:t=[48]:=by rw [← h3];rfl
  rw [if_pos this,if_pos this];exact ⟨rfl,rfl⟩
 ·have ht:t≠ [48]:=by rw [← h3];exact text_48 hf
  have hk:=form_tmOk h1 h2;have e:=spl_text hf;rw [h3] at e;have h4:=isForm_len4 h1
  have hc:chkT ds t f=true:=by unfold chkT;rw [h1,decide_eq_true h3];rfl
  have a1:allO wrdI (f.map termT)=some (f.map id):=allO_map fun x hx=>wrdI_term (hk x hx);have a2:allO wrdS (f.map termT)=some (f.map id):=allO_map fun x hx=>wrdS_term (hk x hx);rw [List.map_id] at a1 a2;rw [if_neg ht,if_neg ht,e,if_neg (by rw [List.length_map];omega),a1,a2];simp only [hc];exact ⟨trivial,trivial⟩
theorem chkT_y {ds:List Int} {t:List UInt8} {f:List Term} (h:chkT ds t f=true):isForm ds f=true∧textT f=t:=by
 unfold chkT at h;exact ⟨(Bool.and_eq_true_iff.1 h).1,of_decide_eq_true (Bool.and_eq_true_iff.1 h).2⟩
theorem allO_wf {f:List UInt8→Option Term} (hf : ∀w t,f w=some t→Term.wf t) : ∀{ws:List (List UInt8)} {ts:List Term},allO f ws=some ts→Wfs ts
 | [],ts,h=>by
  simp only [allO,Option.some.injEq] at h
  rw [← h]
  exact Wfs.nil
 | w::ws,ts,h=>by
  simp only [allO] at h
  cases hw:f w with
  | none=>rw [hw] at h;cases h
  | some x=>
   rw [hw] at h
   cases hr:allO f ws with
   | none=>rw [hr] at h;cases h
   | some xs=>
    rw [hr] at h
    simp only [Option.map_some,Option.some.injEq] at h
    rw [← h]
    intro t ht
    rcases List.mem_cons.1 ht with rfl | ht
    ·exact hf w _ hw
    ·exact allO_wf hf hr t ht
end Go.Proofs.YtefpohpaliocaaaGreatDoor.G
namespace Go.Proofs
open Go.Shelf
def Tryz.lays156_ren:Go.Shelf.Ren:=⟨fun | 156=>62 | 165=>96 | 166=>97 | 169=>98 | 240=>117 | 241=>118 | 276=>128 | 277=>129 | n=>n,fun | 31=>51 | 9=>9 | 3=>3 | 4=>4 | 0=>0 | 20=>20 | 72=>125 | 76=>94 | 70=>122 | 37=>123 | 75=>59 | 127=>144 | 164=>158 | 5=>5 | 80=>127 | n=>n,fun | n=>n⟩
theorem Tryz.lays156:Go.Proofs.Lays.n156 Tryz.prog Tryz.lays156_ren:={
 mixed:=by kernel_rfl
 f156:=Tryz.func62.trans (congrArg some (by kernel_rfl))
 f165:=Tryz.func96.trans (congrArg some (by kernel_rfl))
 f166:=Tryz.func97.trans (congrArg some (by kernel_rfl))
 f169:=Tryz.func98.trans (congrArg some (by kernel_rfl))
 f240:=Tryz.func117.trans (congrArg some (by kernel_rfl))
 f241:=Tryz.func118.trans (congrArg some (by kernel_rfl))
 f276:=Tryz.func128.trans (congrArg some (by kernel_rfl))
 f277:=Tryz.func129.trans (congrArg some (by kernel_rfl))
 t0:=Tryz.underlying0
 a0:=Tryz.isAgg0
 z0:=Tryz.sizeOf0
 v0:=Tryz.zeroValue0
 t3:=Tryz.underlying3
 a3:=Tryz.isAgg3
 z3:=Tryz.sizeOf3
 v3:=Tryz.zeroValue3
 t4:=Tryz.underlying4
 a4:=Tryz.isAgg4
 z4:=Tryz.sizeOf4
 v4:=Tryz.zeroValue4
 t9:=Tryz.underlying9
 a9:=Tryz.isAgg9
 z9:=Tryz.sizeOf9
 v9:=Tryz.zeroValue9
 t20:=Tryz.underlying20
 a20:=Tryz.isAgg20
 z20:=Tryz.sizeOf20
 v20:=Tryz.zeroValue20
 t31:=Tryz.underlying51
 a31:=Tryz.isAgg51
 z31:=Tryz.sizeOf51
 v31:=Tryz.zeroValue51
 t37:=Tryz.underlying123
 a37:=Tryz.isAgg123
 z37:=Tryz.sizeOf123
 v37:=Tryz.zeroValue123
 t70:=Tryz.underlying122
 a70:=Tryz.isAgg122
 z70:=Tryz.sizeOf122
 v70:=Tryz.zeroValue122
 t72:=Tryz.underlying125
 a72:=Tryz.isAgg125
 z72:=Tryz.sizeOf125
 v72:=Tryz.zeroValue125
 t75:=Tryz.underlying59
 a75:=Tryz.isAgg59
 z75:=Tryz.sizeOf59
 v75:=Tryz.zeroValue59
 t76:=Tryz.underlying94
 a76:=Tryz.isAgg94
 z76:=Tryz.sizeOf94
 v76:=Tryz.zeroValue94
 t127:=Tryz.underlying144
 a127:=Tryz.isAgg144
 z127:=Tryz.sizeOf144
 v127:=Tryz.zeroValue144
 t164:=Tryz.underlying158
 a164:=Tryz.isAgg158
 z164:=Tryz.sizeOf158
 v164:=Tryz.zeroValue158}
theorem Tryz.Builder_Extra_156:Builder.Extra Tryz.prog Tryz.lays156_ren:={
 sizeBuilder:=by kernel_rfl
 liesBuilder:=by kernel_rfl
 t5:=Tryz.underlying5
 a5:=Tryz.isAgg5
 z5:=Tryz.sizeOf5
 v5:=Tryz.zeroValue5
 infoByte:=by kernel_rfl
 cellsByte:=by kernel_rfl
 sizeByte:=by kernel_rfl
 neB5:=by decide}
open Go.RowKit in
theorem Tryz.strings_Join_none (a:Option Addr) (c:Nat) (sep:ByteArray) (w:World) :
 Calls Tryz.prog 62 #[.slice a 0 c,.string sep] w fun e w'=>e = .returned (.string ⟨#[]⟩)∧w'=w:=Any.strings_Join_none Tryz.lays156 Tryz.Builder_Extra_156 a c sep w
open Go.RowKit in
theorem Tryz.strings_Join (bk o c:Nat) (xs:List ByteArray) (sep:ByteArray) (w:World) (hcells : ∀(j:Nat) x,xs[j]? = some x→w.cell? ⟨bk,o+j,none⟩=some (.string x)) (hbk:bk<w.heap.size) (hN:xs.length≤140737488355328) (hcap:xs.length≤c) (hlen:(Lib.join (xs.map (·.data.toList)) sep.data.toList).length≤140737488355328) :
 Calls Tryz.prog 62 #[.slice (some ⟨bk,o,none⟩) xs.length c,.string sep] w fun e w'=>e = .returned (.string ⟨(Lib.join (xs.map (·.data.toList)) sep.data.toList).toArray⟩)∧Below w.heap.size w w':=Any.strings_Join Tryz.lays156 Tryz.Builder_Extra_156 bk o c xs sep w hcells hbk hN hcap hlen
def Tryz.laysM173_ren:Go.Shelf.Ren:=⟨fun | 173=>95 | 246=>116 | 283=>124 | 284=>125 | 285=>126 | 286=>127 | 129=>131 | 317=>130 | 318=>132 | 319=>133 | 320=>134 | 337=>135 | 338=>136 | n=>n,fun | 2=>2 | 3=>3 | 9=>9 | 4=>4 | 171=>153 | 0=>0 | 53=>108 | 37=>123 | 5=>5 | 173=>156 | 212=>166 | 51=>147 | 20=>20 | 213=>167 | 46=>111 | 232=>171 | 233=>172 | n=>n,fun | 17=>5 | 18=>6 | 19=>7 | n=>n⟩
theorem Tryz.laysM173:Go.Proofs.LaysM.n173 Tryz.prog Tryz.laysM173_ren:={
 mixed:=by kernel_rfl
 f129:=Tryz.func131.trans (congrArg some (by kernel_rfl))
 f173:=Tryz.func95.trans (congrArg some (by kernel_rfl))
 f246:=Tryz.func116.trans (congrArg some (by kernel_rfl))
 f283:=Tryz.func124.trans (congrArg some (by kernel_rfl))
 f284:=Tryz.func125.trans (congrArg some (by kernel_rfl))
 f285:=Tryz.func126.trans (congrArg some (by kernel_rfl))
 f286:=Tryz.func127.trans (congrArg some (by kernel_rfl))
 f317:=Tryz.func130.trans (congrArg some (by kernel_rfl))
 f318:=Tryz.func132.trans (congrArg some (by kernel_rfl))
 f319:=Tryz.func133.trans (congrArg some (by kernel_rfl))
 f320:=Tryz.func134.trans (congrArg some (by kernel_rfl))
 f337:=Tryz.func135.trans (congrArg some (by kernel_rfl))
 f338:=Tryz.func136.trans (congrArg some (by kernel_rfl))
 t0:=Tryz.underlying0
 a0:=Tryz.isAgg0
 z0:=Tryz.sizeOf0
 v0:=Tryz.zeroValue0
 t2:=Tryz.underlying2
 a2:=Tryz.isAgg2
 z2:=Tryz.sizeOf2
 v2:=Tryz.zeroValue2
 t3:=Tryz.underlying3
 a3:=Tryz.isAgg3
 z3:=Tryz.sizeOf3
 v3:=Tryz.zeroValue3
 t4:=Tryz.underlying4
 a4:=Tryz.isAgg4
 z4:=Tryz.sizeOf4
 v4:=Tryz.zeroValue4
 t5:=Tryz.underlying5
 a5:=Tryz.isAgg5
 z5:=Tryz.sizeOf5
 v5:=Tryz.zeroValue5
 t9:=Tryz.underlying9
 a9:=Tryz.isAgg9
 z9:=Tryz.sizeOf9
 v9:=Tryz.zeroValue9
 t20:=Tryz.underlying20
 a20:=Tryz.isAgg20
 z20:=Tryz.sizeOf20
 v20:=Tryz.zeroValue20
 t37:=Tryz.underlying123
 a37:=Tryz.isAgg123
 z37:=Tryz.sizeOf123
 v37:=Tryz.zeroValue123
 t46:=Tryz.underlying111
 a46:=Tryz.isAgg111
 z46:=Tryz.sizeOf111
 v46:=Tryz.zeroValue111
 t51:=Tryz.underlying147
 a51:=Tryz.isAgg147
 z51:=Tryz.sizeOf147
 v51:=Tryz.zeroValue147
 t53:=Tryz.underlying108
 a53:=Tryz.isAgg108
 z53:=Tryz.sizeOf108
 v53:=Tryz.zeroValue108
 t171:=Tryz.underlying153
 a171:=Tryz.isAgg153
 z171:=Tryz.sizeOf153
 v171:=Tryz.zeroValue153
 t173:=Tryz.underlying156
 a173:=Tryz.isAgg156
 z173:=Tryz.sizeOf156
 v173:=Tryz.zeroValue156
 t212:=Tryz.underlying166
 a212:=Tryz.isAgg166
 z212:=Tryz.sizeOf166
 v212:=Tryz.zeroValue166
 t213:=Tryz.underlying167
 a213:=Tryz.isAgg167
 z213:=Tryz.sizeOf167
 t232:=Tryz.underlying171
 a232:=Tryz.isAgg171
 z232:=Tryz.sizeOf171
 v232:=Tryz.zeroValue171
 t233:=Tryz.underlying172
 a233:=Tryz.isAgg172
 z233:=Tryz.sizeOf172
 v233:=Tryz.zeroValue172
 g17:=by kernel_rfl
 g18:=by kernel_rfl
 g19:=by kernel_rfl
 i0:=by kernel_rfl
 i2:=by kernel_rfl
 i3:=by kernel_rfl
 i4:=by kernel_rfl
 i5:=by kernel_rfl
 i9:=by kernel_rfl
 i20:=by kernel_rfl
 i37:=by kernel_rfl
 i46:=by kernel_rfl
 i51:=by kernel_rfl
 i53:=by kernel_rfl
 i171:=by kernel_rfl
 i173:=by kernel_rfl
 i212:=by kernel_rfl
 i232:=by kernel_rfl
 i233:=by kernel_rfl
 m17:=by kernel_rfl
 m18:=by kernel_rfl
 m19:=by kernel_rfl}
open Go.RowKit Go.Sort Go.Lib in
theorem Tryz.strconv_FormatInt_10 (n:Int) (h0 : -9223372036854775808≤n) (h1:n≤9223372036854775807) (w:World) (htab:Lib.TabIs Tryz.prog w "internal/strconv.uint64pow10" .u64 Lib.pow10Tab) :
 Calls Tryz.prog 95 #[.int .i64 n,.int .i64 10] w fun e w'=>e = .returned (.string ⟨(Lib.itoa n).toArray⟩)∧∃k os,w'=grow (w.drewN k) os:=Any.strconv_FormatInt_10 Tryz.laysM173 n h0 h1 w htab
def Tryz.laysC172_ren:Go.Shelf.Ren:=⟨fun | 172=>68 | 244=>99 | 245=>55 | 247=>54 | 279=>85 | 280=>86 | 281=>87 | 282=>88 | 287=>84 | 316=>110 | 171=>112 | 205=>111 | 321=>108 | 322=>109 | 243=>123 | 246=>116 | 283=>124 | 284=>125 | 285=>126 | 286=>127 | 129=>131 | 317=>130 | 318=>132 | 319=>133 | 320=>134 | 337=>135 | 338=>136 | n=>n,fun | 9=>9 | 3=>3 | 75=>59 | 76=>94 | 4=>4 | 5=>5 | 167=>107 | 37=>123 | 0=>0 | 85=>60 | 2=>2 | 168=>112 | 53=>108 | 175=>109 | 46=>111 | 210=>137 | 127=>144 | 145=>152 | 143=>150 | 21=>21 | 171=>153 | 173=>156 | 212=>166 | 51=>147 | 20=>20 | 213=>167 | 232=>171 | 233=>172 | 80=>127 | n=>n,fun | 15=>1 | 16=>2 | 17=>5 | 18=>6 | 19=>7 | n=>n⟩
theorem Tryz.laysC172:Go.Proofs.LaysC.n172 Tryz.prog Tryz.laysC172_ren:={
 mixed:=by kernel_rfl
 f129:=Tryz.func131.trans (congrArg some (by kernel_rfl))
 f171:=Tryz.func112.trans (congrArg some (by kernel_rfl))
 f172:=Tryz.func68.trans (congrArg some (by kernel_rfl))
 f205:=Tryz.func111.trans (congrArg some (by kernel_rfl))
 f243:=Tryz.func123.trans (congrArg some (by kernel_rfl))
 f244:=Tryz.func99.trans (congrArg some (by kernel_rfl))
 f245:=Tryz.func55.trans (congrArg some (by kernel_rfl))
 f246:=Tryz.func116.trans (congrArg some (by kernel_rfl))
 f247:=Tryz.func54.trans (congrArg some (by kernel_rfl))
 f279:=Tryz.func85.trans (congrArg some (by kernel_rfl))
 f280:=Tryz.func86.trans (congrArg some (by kernel_rfl))
 f281:=Tryz.func87.trans (congrArg some (by kernel_rfl))
 f282:=Tryz.func88.trans (congrArg some (by kernel_rfl))
 f283:=Tryz.func124.trans (congrArg some (by kernel_rfl))
 f284:=Tryz.func125.trans (congrArg some (by kernel_rfl))
 f285:=Tryz.func126.trans (congrArg some (by kernel_rfl))
 f286:=Tryz.func127.trans (congrArg some (by kernel_rfl))
 f287:=Tryz.func84.trans (congrArg some (by kernel_rfl))
 f316:=Tryz.func110.trans (congrArg some (by kernel_rfl))
 f317:=Tryz.func130.trans (congrArg some (by kernel_rfl))
 f318:=Tryz.func132.trans (congrArg some (by kernel_rfl))
 f319:=Tryz.func133.trans (congrArg some (by kernel_rfl))
 f320:=Tryz.func134.trans (congrArg some (by kernel_rfl))
 f321:=Tryz.func108.trans (congrArg some (by kernel_rfl))
 f322:=Tryz.func109.trans (congrArg some (by kernel_rfl))
 f337:=Tryz.func135.trans (congrArg some (by kernel_rfl))
 f338:=Tryz.func136.trans (congrArg some (by kernel_rfl))
 t0:=Tryz.underlying0
 a0:=Tryz.isAgg0
 z0:=Tryz.sizeOf0
 v0:=Tryz.zeroValue0
 t2:=Tryz.underlying2
 a2:=Tryz.isAgg2
 z2:=Tryz.sizeOf2
 v2:=Tryz.zeroValue2
 t3:=Tryz.underlying3
 a3:=Tryz.isAgg3
 z3:=Tryz.sizeOf3
 v3:=Tryz.zeroValue3
 t4:=Tryz.underlying4
 a4:=Tryz.isAgg4
 z4:=Tryz.sizeOf4
 v4:=Tryz.zeroValue4
 t5:=Tryz.underlying5
 a5:=Tryz.isAgg5
 z5:=Tryz.sizeOf5
 v5:=Tryz.zeroValue5
 t9:=Tryz.underlying9
 a9:=Tryz.isAgg9
 z9:=Tryz.sizeOf9
 v9:=Tryz.zeroValue9
 t20:=Tryz.underlying20
 a20:=Tryz.isAgg20
 z20:=Tryz.sizeOf20
 v20:=Tryz.zeroValue20
 t21:=Tryz.underlying21
 a21:=Tryz.isAgg21
 z21:=Tryz.sizeOf21
 v21:=Tryz.zeroValue21
 t37:=Tryz.underlying123
 a37:=Tryz.isAgg123
 z37:=Tryz.sizeOf123
 v37:=Tryz.zeroValue123
 t46:=Tryz.underlying111
 a46:=Tryz.isAgg111
 z46:=Tryz.sizeOf111
 v46:=Tryz.zeroValue111
 t51:=Tryz.underlying147
 a51:=Tryz.isAgg147
 z51:=Tryz.sizeOf147
 v51:=Tryz.zeroValue147
 t53:=Tryz.underlying108
 a53:=Tryz.isAgg108
 z53:=Tryz.sizeOf108
 v53:=Tryz.zeroValue108
 t75:=Tryz.underlying59
 a75:=Tryz.isAgg59
 z75:=Tryz.sizeOf59
 v75:=Tryz.zeroValue59
 t76:=Tryz.underlying94
 a76:=Tryz.isAgg94
 z76:=Tryz.sizeOf94
 v76:=Tryz.zeroValue94
 t85:=Tryz.underlying60
 a85:=Tryz.isAgg60
 z85:=Tryz.sizeOf60
 v85:=Tryz.zeroValue60
 t127:=Tryz.underlying144
 a127:=Tryz.isAgg144
 z127:=Tryz.sizeOf144
 v127:=Tryz.zeroValue144
 t143:=Tryz.underlying150
 a143:=Tryz.isAgg150
 z143:=Tryz.sizeOf150
 v143:=Tryz.zeroValue150
 t145:=Tryz.underlying152
 a145:=Tryz.isAgg152
 z145:=Tryz.sizeOf152
 v145:=Tryz.zeroValue152
 t167:=Tryz.underlying107
 a167:=Tryz.isAgg107
 z167:=Tryz.sizeOf107
 v167:=Tryz.zeroValue107
 t168:=Tryz.underlying112
 a168:=Tryz.isAgg112
 z168:=Tryz.sizeOf112
 v168:=Tryz.zeroValue112
 t171:=Tryz.underlying153
 a171:=Tryz.isAgg153
 z171:=Tryz.sizeOf153
 v171:=Tryz.zeroValue153
 t173:=Tryz.underlying156
 a173:=Tryz.isAgg156
 z173:=Tryz.sizeOf156
 v173:=Tryz.zeroValue156
 t175:=Tryz.underlying109
 a175:=Tryz.isAgg109
 z175:=Tryz.sizeOf109
 v175:=Tryz.zeroValue109
 t210:=Tryz.underlying137
 a210:=Tryz.isAgg137
 z210:=Tryz.sizeOf137
 v210:=Tryz.zeroValue137
 t212:=Tryz.underlying166
 a212:=Tryz.isAgg166
 z212:=Tryz.sizeOf166
 v212:=Tryz.zeroValue166
 t213:=Tryz.underlying167
 a213:=Tryz.isAgg167
 z213:=Tryz.sizeOf167
 t232:=Tryz.underlying171
 a232:=Tryz.isAgg171
 z232:=Tryz.sizeOf171
 v232:=Tryz.zeroValue171
 t233:=Tryz.underlying172
 a233:=Tryz.isAgg172
 z233:=Tryz.sizeOf172
 v233:=Tryz.zeroValue172
 g15:=by kernel_rfl
 g16:=by kernel_rfl
 g17:=by kernel_rfl
 g18:=by kernel_rfl
 g19:=by kernel_rfl
 t80:=Tryz.underlying127
 a80:=Tryz.isAgg127
 z80:=Tryz.sizeOf127
 v80:=Tryz.zeroValue127
 i0:=by kernel_rfl
 i2:=by kernel_rfl
 i3:=by kernel_rfl
 i4:=by kernel_rfl
 i5:=by kernel_rfl
 i9:=by kernel_rfl
 i20:=by kernel_rfl
 i21:=by kernel_rfl
 i37:=by kernel_rfl
 i46:=by kernel_rfl
 i51:=by kernel_rfl
 i53:=by kernel_rfl
 i75:=by kernel_rfl
 i76:=by kernel_rfl
 i80:=by kernel_rfl
 i85:=by kernel_rfl
 i127:=by kernel_rfl
 i143:=by kernel_rfl
 i145:=by kernel_rfl
 i167:=by kernel_rfl
 i168:=by kernel_rfl
 i171:=by kernel_rfl
 i173:=by kernel_rfl
 i175:=by kernel_rfl
 i210:=by kernel_rfl
 i212:=by kernel_rfl
 i232:=by kernel_rfl
 i233:=by kernel_rfl
 m15:=by kernel_rfl
 m16:=by kernel_rfl
 m17:=by kernel_rfl
 m18:=by kernel_rfl
 m19:=by kernel_rfl
 c0:=by kernel_rfl
 c2:=by kernel_rfl
 c3:=by kernel_rfl
 c4:=by kernel_rfl
 c5:=by kernel_rfl
 c9:=by kernel_rfl
 c20:=by kernel_rfl
 c21:=by kernel_rfl
 c37:=by kernel_rfl
 c46:=by kernel_rfl
 c51:=by kernel_rfl
 c53:=by kernel_rfl
 c75:=by kernel_rfl
 c76:=by kernel_rfl
 c80:=by kernel_rfl
 c85:=by kernel_rfl
 c127:=by kernel_rfl
 c143:=by kernel_rfl
 c145:=by kernel_rfl
 c167:=by kernel_rfl
 c168:=by kernel_rfl
 c171:=by kernel_rfl
 c173:=by kernel_rfl
 c175:=by kernel_rfl
 c210:=by kernel_rfl
 c212:=by kernel_rfl
 c213:=by kernel_rfl
 c232:=by kernel_rfl
 c233:=by kernel_rfl}
open Go.RowKit in
theorem Tryz.strconv_Atoi_ok (s:ByteArray) (hmax:s.size≤9223372036854775806) (v:Int) (h:Lib.atoiAll s.data.toList = .ok v) (w:World) :
 Calls Tryz.prog 68 #[.string s] w fun e w'=>e = .returned (.tuple #[.int .i64 v,.nilIface])∧(w'=w∨∃t,w'=Lib.bytesWorld w 5 t):=Any.strconv_Atoi_ok Tryz.laysC172 s hmax v h w
open Go.RowKit in
theorem Tryz.strconv_Atoi_syntax (s:ByteArray) (hlim:s.size≤281474976710656) (h:Lib.atoiAll s.data.toList=Lib.atoiAll []) (ev:Value) (w:World) (hv:w.cell? ⟨1,0,none⟩=some ev) (hev:ev = .nilIface∨∃te pe,ev = .iface te pe) :
 Calls Tryz.prog 68 #[.string s] w fun e w'=>∃N,e = .returned (.tuple #[.int .i64 (0),.iface 112 (.pointer (some ⟨N,0,none⟩))])∧w.heap.size≤N∧w'.heap[N]? = some (.cells #[.string ⟨#[65,116,111,105]⟩,.string s,ev] 137 (0,0))∧Below w.heap.size w w':=Any.strconv_Atoi_syntax Tryz.laysC172 s hlim h ev w hv hev
open Go.RowKit in
theorem Tryz.strconv_Atoi_range (s:ByteArray) (hlim:s.size≤281474976710656) (h:Lib.atoiAll s.data.toList = .range) (ev:Value) (w:World) (hv:w.cell? ⟨2,0,none⟩=some ev) (hev:ev = .nilIface∨∃te pe,ev = .iface te pe) :
 Calls Tryz.prog 68 #[.string s] w fun e w'=>∃N,e = .returned (.tuple #[.int .i64 (Lib.atoiSat s.data.toList),.iface 112 (.pointer (some ⟨N,0,none⟩))])∧w.heap.size≤N∧w'.heap[N]? = some (.cells #[.string ⟨#[65,116,111,105]⟩,.string s,ev] 137 (0,0))∧Below w.heap.size w w':=Any.strconv_Atoi_range Tryz.laysC172 s hlim h ev w hv hev
def Tryz.laysC174_ren:Go.Shelf.Ren:=⟨fun | 174=>36 | 247=>54 | 245=>55 | 287=>84 | 279=>85 | 280=>86 | 281=>87 | 282=>88 | 321=>108 | 322=>109 | 316=>110 | 171=>112 | 205=>111 | 243=>123 | 246=>116 | 283=>124 | 284=>125 | 285=>126 | 286=>127 | 129=>131 | 317=>130 | 318=>132 | 319=>133 | 320=>134 | 337=>135 | 338=>136 | n=>n,fun | 9=>9 | 3=>3 | 2=>2 | 75=>59 | 85=>60 | 4=>4 | 167=>107 | 5=>5 | 53=>108 | 175=>109 | 46=>111 | 168=>112 | 37=>123 | 0=>0 | 210=>137 | 21=>21 | 127=>144 | 145=>152 | 143=>150 | 171=>153 | 173=>156 | 212=>166 | 51=>147 | 20=>20 | 213=>167 | 232=>171 | 233=>172 | 80=>127 | n=>n,fun | 15=>1 | 16=>2 | 17=>5 | 18=>6 | 19=>7 | n=>n⟩
theorem Tryz.laysC174:Go.Proofs.LaysC.n174 Tryz.prog Tryz.laysC174_ren:={
 mixed:=by kernel_rfl
 f129:=Tryz.func131.trans (congrArg some (by kernel_rfl))
 f171:=Tryz.func112.trans (congrArg some (by kernel_rfl))
 f174:=Tryz.func36.trans (congrArg some (by kernel_rfl))
 f205:=Tryz.func111.trans (congrArg some (by kernel_rfl))
 f243:=Tryz.func123.trans (congrArg some (by kernel_rfl))
 f245:=Tryz.func55.trans (congrArg some (by kernel_rfl))
 f246:=Tryz.func116.trans (congrArg some (by kernel_rfl))
 f247:=Tryz.func54.trans (congrArg some (by kernel_rfl))
 f279:=Tryz.func85.trans (congrArg some (by kernel_rfl))
 f280:=Tryz.func86.trans (congrArg some (by kernel_rfl))
 f281:=Tryz.func87.trans (congrArg some (by kernel_rfl))
 f282:=Tryz.func88.trans (congrArg some (by kernel_rfl))
 f283:=Tryz.func124.trans (congrArg some (by kernel_rfl))
 f284:=Tryz.func125.trans (congrArg some (by kernel_rfl))
 f285:=Tryz.func126.trans (congrArg some (by kernel_rfl))
 f286:=Tryz.func127.trans (congrArg some (by kernel_rfl))
 f287:=Tryz.func84.trans (congrArg some (by kernel_rfl))
 f316:=Tryz.func110.trans (congrArg some (by kernel_rfl))
 f317:=Tryz.func130.trans (congrArg some (by kernel_rfl))
 f318:=Tryz.func132.trans (congrArg some (by kernel_rfl))
 f319:=Tryz.func133.trans (congrArg some (by kernel_rfl))
 f320:=Tryz.func134.trans (congrArg some (by kernel_rfl))
 f321:=Tryz.func108.trans (congrArg some (by kernel_rfl))
 f322:=Tryz.func109.trans (congrArg some (by kernel_rfl))
 f337:=Tryz.func135.trans (congrArg some (by kernel_rfl))
 f338:=Tryz.func136.trans (congrArg some (by kernel_rfl))
 t0:=Tryz.underlying0
 a0:=Tryz.isAgg0
 z0:=Tryz.sizeOf0
 v0:=Tryz.zeroValue0
 t2:=Tryz.underlying2
 a2:=Tryz.isAgg2
 z2:=Tryz.sizeOf2
 v2:=Tryz.zeroValue2
 t3:=Tryz.underlying3
 a3:=Tryz.isAgg3
 z3:=Tryz.sizeOf3
 v3:=Tryz.zeroValue3
 t4:=Tryz.underlying4
 a4:=Tryz.isAgg4
 z4:=Tryz.sizeOf4
 v4:=Tryz.zeroValue4
 t5:=Tryz.underlying5
 a5:=Tryz.isAgg5
 z5:=Tryz.sizeOf5
 v5:=Tryz.zeroValue5
 t9:=Tryz.underlying9
 a9:=Tryz.isAgg9
 z9:=Tryz.sizeOf9
 v9:=Tryz.zeroValue9
 t20:=Tryz.underlying20
 a20:=Tryz.isAgg20
 z20:=Tryz.sizeOf20
 v20:=Tryz.zeroValue20
 t21:=Tryz.underlying21
 a21:=Tryz.isAgg21
 z21:=Tryz.sizeOf21
 v21:=Tryz.zeroValue21
 t37:=Tryz.underlying123
 a37:=Tryz.isAgg123
 z37:=Tryz.sizeOf123
 v37:=Tryz.zeroValue123
 t46:=Tryz.underlying111
 a46:=Tryz.isAgg111
 z46:=Tryz.sizeOf111
 v46:=Tryz.zeroValue111
 t51:=Tryz.underlying147
 a51:=Tryz.isAgg147
 z51:=Tryz.sizeOf147
 v51:=Tryz.zeroValue147
 t53:=Tryz.underlying108
 a53:=Tryz.isAgg108
 z53:=Tryz.sizeOf108
 v53:=Tryz.zeroValue108
 t75:=Tryz.underlying59
 a75:=Tryz.isAgg59
 z75:=Tryz.sizeOf59
 v75:=Tryz.zeroValue59
 t85:=Tryz.underlying60
 a85:=Tryz.isAgg60
 z85:=Tryz.sizeOf60
 v85:=Tryz.zeroValue60
 t127:=Tryz.underlying144
 a127:=Tryz.isAgg144
 z127:=Tryz.sizeOf144
 v127:=Tryz.zeroValue144
 t143:=Tryz.underlying150
 a143:=Tryz.isAgg150
 z143:=Tryz.sizeOf150
 v143:=Tryz.zeroValue150
 t145:=Tryz.underlying152
 a145:=Tryz.isAgg152
 z145:=Tryz.sizeOf152
 v145:=Tryz.zeroValue152
 t167:=Tryz.underlying107
 a167:=Tryz.isAgg107
 z167:=Tryz.sizeOf107
 v167:=Tryz.zeroValue107
 t168:=Tryz.underlying112
 a168:=Tryz.isAgg112
 z168:=Tryz.sizeOf112
 v168:=Tryz.zeroValue112
 t171:=Tryz.underlying153
 a171:=Tryz.isAgg153
 z171:=Tryz.sizeOf153
 v171:=Tryz.zeroValue153
 t173:=Tryz.underlying156
 a173:=Tryz.isAgg156
 z173:=Tryz.sizeOf156
 v173:=Tryz.zeroValue156
 t175:=Tryz.underlying109
 a175:=Tryz.isAgg109
 z175:=Tryz.sizeOf109
 v175:=Tryz.zeroValue109
 t210:=Tryz.underlying137
 a210:=Tryz.isAgg137
 z210:=Tryz.sizeOf137
 v210:=Tryz.zeroValue137
 t212:=Tryz.underlying166
 a212:=Tryz.isAgg166
 z212:=Tryz.sizeOf166
 v212:=Tryz.zeroValue166
 t213:=Tryz.underlying167
 a213:=Tryz.isAgg167
 z213:=Tryz.sizeOf167
 t232:=Tryz.underlying171
 a232:=Tryz.isAgg171
 z232:=Tryz.sizeOf171
 v232:=Tryz.zeroValue171
 t233:=Tryz.underlying172
 a233:=Tryz.isAgg172
 z233:=Tryz.sizeOf172
 v233:=Tryz.zeroValue172
 g15:=by kernel_rfl
 g16:=by kernel_rfl
 g17:=by kernel_rfl
 g18:=by kernel_rfl
 g19:=by kernel_rfl
 t80:=Tryz.underlying127
 a80:=Tryz.isAgg127
 z80:=Tryz.sizeOf127
 v80:=Tryz.zeroValue127
 i0:=by kernel_rfl
 i2:=by kernel_rfl
 i3:=by kernel_rfl
 i4:=by kernel_rfl
 i5:=by kernel_rfl
 i9:=by kernel_rfl
 i20:=by kernel_rfl
 i21:=by kernel_rfl
 i37:=by kernel_rfl
 i46:=by kernel_rfl
 i51:=by kernel_rfl
 i53:=by kernel_rfl
 i75:=by kernel_rfl
 i80:=by kernel_rfl
 i85:=by kernel_rfl
 i127:=by kernel_rfl
 i143:=by kernel_rfl
 i145:=by kernel_rfl
 i167:=by kernel_rfl
 i168:=by kernel_rfl
 i171:=by kernel_rfl
 i173:=by kernel_rfl
 i175:=by kernel_rfl
 i210:=by kernel_rfl
 i212:=by kernel_rfl
 i232:=by kernel_rfl
 i233:=by kernel_rfl
 m15:=by kernel_rfl
 m16:=by kernel_rfl
 m17:=by kernel_rfl
 m18:=by kernel_rfl
 m19:=by kernel_rfl
 c0:=by kernel_rfl
 c2:=by kernel_rfl
 c3:=by kernel_rfl
 c4:=by kernel_rfl
 c5:=by kernel_rfl
 c9:=by kernel_rfl
 c20:=by kernel_rfl
 c21:=by kernel_rfl
 c37:=by kernel_rfl
 c46:=by kernel_rfl
 c51:=by kernel_rfl
 c53:=by kernel_rfl
 c75:=by kernel_rfl
 c80:=by kernel_rfl
 c85:=by kernel_rfl
 c127:=by kernel_rfl
 c143:=by kernel_rfl
 c145:=by kernel_rfl
 c167:=by kernel_rfl
 c168:=by kernel_rfl
 c171:=by kernel_rfl
 c173:=by kernel_rfl
 c175:=by kernel_rfl
 c210:=by kernel_rfl
 c212:=by kernel_rfl
 c213:=by kernel_rfl
 c232:=by kernel_rfl
 c233:=by kernel_rfl}
open Go.RowKit in
theorem Tryz.strconv_ParseInt_10_at64_ok (s:ByteArray) (hmax:s.size≤9223372036854775806) (v:Int) (h:Lib.parseIntB 64 s.data.toList = .ok v) (w:World) :
 Calls Tryz.prog 36 #[.string s,.int .i64 10,.int .i64 64] w fun e w'=>e = .returned (.tuple #[.int .i64 v,.nilIface])∧(w'=w∨∃t,w'=Lib.bytesWorld w 5 t):=Any.strconv_ParseInt_10_at64_ok Tryz.laysC174 s hmax v h w
open Go.RowKit in
theorem Tryz.strconv_ParseInt_10_at64_syntax (s:ByteArray) (hlim:s.size≤281474976710656) (h:Lib.parseIntB 64 s.data.toList=Lib.parseIntB 64 []) (ev:Value) (w:World) (hv:w.cell? ⟨1,0,none⟩=some ev) (hev:ev = .nilIface∨∃te pe,ev = .iface te pe) :
 Calls Tryz.prog 36 #[.string s,.int .i64 10,.int .i64 64] w fun e w'=>∃N,e = .returned (.tuple #[.int .i64 (0),.iface 112 (.pointer (some ⟨N,0,none⟩))])∧w.heap.size≤N∧w'.heap[N]? = some (.cells #[.string ⟨#[80,97,114,115,101,73,110,116]⟩,.string s,ev] 137 (0,0))∧Below w.heap.size w w':=Any.strconv_ParseInt_10_at64_syntax Tryz.laysC174 s hlim h ev w hv hev
open Go.RowKit in
theorem Tryz.strconv_ParseInt_10_at64_range (s:ByteArray) (hlim:s.size≤281474976710656) (h:Lib.parseIntB 64 s.data.toList = .range) (ev:Value) (w:World) (hv:w.cell? ⟨2,0,none⟩=some ev) (hev:ev = .nilIface∨∃te pe,ev = .iface te pe) :
 Calls Tryz.prog 36 #[.string s,.int .i64 10,.int .i64 64] w fun e w'=>∃N,e = .returned (.tuple #[.int .i64 (Lib.intSat 64 s.data.toList),.iface 112 (.pointer (some ⟨N,0,none⟩))])∧w.heap.size≤N∧w'.heap[N]? = some (.cells #[.string ⟨#[80,97,114,115,101,73,110,116]⟩,.string s,ev] 137 (0,0))∧Below w.heap.size w w':=Any.strconv_ParseInt_10_at64_range Tryz.laysC174 s hlim h ev w hv hev
def Tryz.lays145_ren:Go.Shelf.Ren:=⟨fun | 145=>35 | 220=>53 | 219=>83 | 217=>104 | 225=>105 | 224=>106 | 267=>107 | 266=>121 | 314=>122 | n=>n,fun | 9=>9 | 4=>4 | 59=>56 | 3=>3 | 5=>5 | 46=>111 | 146=>148 | 51=>147 | n=>n,fun | 1=>0 | n=>n⟩
theorem Tryz.lays145:Go.Proofs.Lays.n145 Tryz.prog Tryz.lays145_ren:={
 mixed:=by kernel_rfl
 f145:=Tryz.func35.trans (congrArg some (by kernel_rfl))
 f217:=Tryz.func104.trans (congrArg some (by kernel_rfl))
 f219:=Tryz.func83.trans (congrArg some (by kernel_rfl))
 f220:=Tryz.func53.trans (congrArg some (by kernel_rfl))
 f224:=Tryz.func106.trans (congrArg some (by kernel_rfl))
 f225:=Tryz.func105.trans (congrArg some (by kernel_rfl))
 f266:=Tryz.func121.trans (congrArg some (by kernel_rfl))
 f267:=Tryz.func107.trans (congrArg some (by kernel_rfl))
 f314:=Tryz.func122.trans (congrArg some (by kernel_rfl))
 t3:=Tryz.underlying3
 a3:=Tryz.isAgg3
 z3:=Tryz.sizeOf3
 v3:=Tryz.zeroValue3
 t4:=Tryz.underlying4
 a4:=Tryz.isAgg4
 z4:=Tryz.sizeOf4
 v4:=Tryz.zeroValue4
 t5:=Tryz.underlying5
 a5:=Tryz.isAgg5
 z5:=Tryz.sizeOf5
 v5:=Tryz.zeroValue5
 t9:=Tryz.underlying9
 a9:=Tryz.isAgg9
 z9:=Tryz.sizeOf9
 v9:=Tryz.zeroValue9
 t46:=Tryz.underlying111
 a46:=Tryz.isAgg111
 z46:=Tryz.sizeOf111
 v46:=Tryz.zeroValue111
 t51:=Tryz.underlying147
 a51:=Tryz.isAgg147
 z51:=Tryz.sizeOf147
 v51:=Tryz.zeroValue147
 t59:=Tryz.underlying56
 a59:=Tryz.isAgg56
 z59:=Tryz.sizeOf56
 v59:=Tryz.zeroValue56
 t146:=Tryz.underlying148
 a146:=Tryz.isAgg148
 z146:=Tryz.sizeOf148
 v146:=Tryz.zeroValue148
 g1:=by kernel_rfl}
open Go.RowKit Go.Lib in
theorem Tryz.strings_Cut (s sep:ByteArray) (m:Int) (w:World) (hs:s.size<4294967281) (hm:w.cell? ⟨0,0,none⟩=some (.int .i64 m)) :
 Calls Tryz.prog 35 #[.string s,.string sep] w fun e w'=>e = .returned (.tuple #[.string ⟨(Lib.cut s.data.toList sep.data.toList).1.toArray⟩,.string ⟨(Lib.cut s.data.toList sep.data.toList).2.1.toArray⟩,.bool (Lib.cut s.data.toList sep.data.toList).2.2])∧∃n,w'=w.drewN n:=Any.strings_Cut Tryz.lays145 s sep m w hs hm
def Tryz.lays146_ren:Go.Shelf.Ren:=⟨fun | 146=>34 | 221=>52 | 268=>80 | 138=>81 | 143=>82 | 195=>101 | 197=>102 | 218=>103 | 219=>83 | 260=>120 | 217=>104 | 225=>105 | 224=>106 | 267=>107 | 266=>121 | 314=>122 | n=>n,fun | 9=>9 | 31=>51 | 3=>3 | 4=>4 | 0=>0 | 105=>130 | 21=>21 | 5=>5 | 46=>111 | 119=>161 | 139=>164 | 138=>163 | 146=>148 | 51=>147 | n=>n,fun | 1=>0 | 3=>3 | 4=>4 | n=>n⟩
theorem Tryz.lays146:Go.Proofs.Lays.n146 Tryz.prog Tryz.lays146_ren:={
 mixed:=by kernel_rfl
 f138:=Tryz.func81.trans (congrArg some (by kernel_rfl))
 f143:=Tryz.func82.trans (congrArg some (by kernel_rfl))
 f146:=Tryz.func34.trans (congrArg some (by kernel_rfl))
 f195:=Tryz.func101.trans (congrArg some (by kernel_rfl))
 f197:=Tryz.func102.trans (congrArg some (by kernel_rfl))
 f217:=Tryz.func104.trans (congrArg some (by kernel_rfl))
 f218:=Tryz.func103.trans (congrArg some (by kernel_rfl))
 f219:=Tryz.func83.trans (congrArg some (by kernel_rfl))
 f221:=Tryz.func52.trans (congrArg some (by kernel_rfl))
 f224:=Tryz.func106.trans (congrArg some (by kernel_rfl))
 f225:=Tryz.func105.trans (congrArg some (by kernel_rfl))
 f260:=Tryz.func120.trans (congrArg some (by kernel_rfl))
 f266:=Tryz.func121.trans (congrArg some (by kernel_rfl))
 f267:=Tryz.func107.trans (congrArg some (by kernel_rfl))
 f268:=Tryz.func80.trans (congrArg some (by kernel_rfl))
 f314:=Tryz.func122.trans (congrArg some (by kernel_rfl))
 t0:=Tryz.underlying0
 a0:=Tryz.isAgg0
 z0:=Tryz.sizeOf0
 v0:=Tryz.zeroValue0
 t3:=Tryz.underlying3
 a3:=Tryz.isAgg3
 z3:=Tryz.sizeOf3
 v3:=Tryz.zeroValue3
 t4:=Tryz.underlying4
 a4:=Tryz.isAgg4
 z4:=Tryz.sizeOf4
 v4:=Tryz.zeroValue4
 t5:=Tryz.underlying5
 a5:=Tryz.isAgg5
 z5:=Tryz.sizeOf5
 v5:=Tryz.zeroValue5
 t9:=Tryz.underlying9
 a9:=Tryz.isAgg9
 z9:=Tryz.sizeOf9
 v9:=Tryz.zeroValue9
 t21:=Tryz.underlying21
 a21:=Tryz.isAgg21
 z21:=Tryz.sizeOf21
 v21:=Tryz.zeroValue21
 t31:=Tryz.underlying51
 a31:=Tryz.isAgg51
 z31:=Tryz.sizeOf51
 v31:=Tryz.zeroValue51
 t46:=Tryz.underlying111
 a46:=Tryz.isAgg111
 z46:=Tryz.sizeOf111
 v46:=Tryz.zeroValue111
 t51:=Tryz.underlying147
 a51:=Tryz.isAgg147
 z51:=Tryz.sizeOf147
 v51:=Tryz.zeroValue147
 t105:=Tryz.underlying130
 a105:=Tryz.isAgg130
 z105:=Tryz.sizeOf130
 v105:=Tryz.zeroValue130
 t119:=Tryz.underlying161
 a119:=Tryz.isAgg161
 z119:=Tryz.sizeOf161
 t138:=Tryz.underlying163
 a138:=Tryz.isAgg163
 z138:=Tryz.sizeOf163
 v138:=Tryz.zeroValue163
 t139:=Tryz.underlying164
 a139:=Tryz.isAgg164
 z139:=Tryz.sizeOf164
 v139:=Tryz.zeroValue164
 t146:=Tryz.underlying148
 a146:=Tryz.isAgg148
 z146:=Tryz.sizeOf148
 v146:=Tryz.zeroValue148
 g1:=by kernel_rfl
 g3:=by kernel_rfl
 g4:=by kernel_rfl}
open Go.RowKit Go.Lib in
theorem Tryz.strings_Split (s sep:ByteArray) (m:Int) (w:World) (hs:s.size<4294967281) (hm:w.cell? ⟨0,0,none⟩=some (.int .i64 m)) (h1:1≤sep.size) :
 Calls Tryz.prog 34 #[.string s,.string sep] w fun e w'=>
  e = .returned (.slice (some ⟨w.heap.size,0,none⟩) (Lib.countB s sep+1) (Lib.countB s sep+1))∧w'=w.alloc (.cells ((Lib.splitB sep 0 (Lib.countB s sep) s).map Value.string).toArray 9):=Any.strings_Split Tryz.lays146 (by kernel_rfl) s sep m w hs hm h1
end Go.Proofs
namespace Go.Proofs.YtefpohpaliocaaaGreatDoor.G
open Go Go.RowKit
theorem vS_data (b:ByteArray):Value.string b=sV b.data.toList:=by
 cases b
 simp [sV]
structure LbOk (H:HP):Prop where
 mx : ∃m:Int,CellAt H 0 0 (.int .i64 m)
 syn : ∃te pe,CellAt H 1 0 (.iface te pe)
 rng : ∃te pe,CellAt H 2 0 (.iface te pe)
theorem LbOk.le {H H':HP} (h:LbOk H) (hle:Le H H'):LbOk H':=⟨h.mx.imp fun _ h=>h.le hle,h.syn.imp fun _ h=>h.imp fun _ h=>h.le hle,h.rng.imp fun _ h=>h.imp fun _ h=>h.le hle⟩
theorem Hp.cell0 {B:World} {H0 H:HP} {L:List SA} {w:World} (hH:Hp B H0 H L w) {b:Nat} {v:Value} (h:CellAt H b 0 v):w.cell? ⟨b,0,none⟩=some v:=by
 have h1:=h.le (show Le H (G.hp w) from fun b o hb=>hH.agree b o hb);exact h1
theorem split_cells (s:List UInt8) (c:UInt8):((Lib.splitB ⟨#[c]⟩ 0 (Lib.countB ⟨s.toArray⟩ ⟨#[c]⟩) ⟨s.toArray⟩).map Value.string)=(spl c s).map sV∧Lib.countB ⟨s.toArray⟩ ⟨#[c]⟩+1=(spl c s).length:=by
 have h1:=Lib.splitB_data ⟨#[c]⟩ 0 (Lib.countB ⟨s.toArray⟩ ⟨#[c]⟩) ⟨s.toArray⟩;have h2:Lib.splitK (⟨#[c]⟩:ByteArray).data.toList 0 (Lib.countB ⟨s.toArray⟩ ⟨#[c]⟩) (⟨s.toArray⟩:ByteArray).data.toList=spl c s:=split_spl c s;rw [h2] at h1;refine ⟨?_,?_⟩
 ·rw [← h1,List.map_map];exact List.map_congr_left fun b _=>vS_data b
 ·have h3:=Lib.splitB_all ⟨#[c]⟩ (Nat.le_refl 1) 0 _ ⟨s.toArray⟩ rfl;rw [← h3,← List.length_map (f:=fun b:ByteArray=>b.data.toList),h1]
theorem split_c {B:World} {H0 H:HP} {L:List SA} {w:World} {s:List UInt8} {c:UInt8} (hl:s.length≤1048576) (hB:LbOk H) (hH:Hp B H0 H L w):Calls Tryz.prog 34 [sV s,sV [c]].toArray w fun e w'=>∃q k,e = .returned (.slice q (spl c s).length k)∧Hp B H0 H (own 9 1 q (spl c s).length k ((spl c s).map sV)::L) w':=by
 obtain ⟨m,hm⟩:=hB.mx;refine (Tryz.strings_Split ⟨s.toArray⟩ ⟨#[c]⟩ m w (by simp [ByteArray.size];omega) (hH.cell0 hm) (Nat.le_refl 1)).mono ?_;rintro _ w' ⟨rfl,rfl⟩;obtain ⟨h1,h2⟩:=split_cells s c;refine ⟨_,_,by rw [h2],?_⟩;rw [h1];have h3:=own_of_obj (cs:=(spl c s).map sV) (m:=(spl c s).length) (c:=(spl c s).length) (sz:=1) (e:=9) (hH.alloc (.cells ((spl c s).map sV).toArray 9)) (by simp) (Nat.le_refl _) (by have:=spl_len c s;simp only [maxLen];omega) .z;rw [List.take_of_length_le (by simp)] at h3;exact h3
theorem cut_c {B:World} {H0 H:HP} {L:List SA} {w:World} {s:List UInt8} {c:UInt8} (hl:s.length≤1048576) (hB:LbOk H) (hH:Hp B H0 H L w):Calls Tryz.prog 35 [sV s,sV [c]].toArray w fun e w'=>e = .returned (.tuple #[sV (Lib.cut s [c]).1,sV (Lib.cut s [c]).2.1,.bool (Lib.cut s [c]).2.2])∧Hp B H0 H L w':=by
 obtain ⟨m,hm⟩:=hB.mx;refine (Tryz.strings_Cut ⟨s.toArray⟩ ⟨#[c]⟩ m w (by simp [ByteArray.size];omega) (hH.cell0 hm)).mono ?_;rintro _ w' ⟨rfl,n,rfl⟩;exact ⟨rfl,hH.belowOf ⟨rfl,rfl,rfl,Nat.le_refl _,fun _ _=>rfl⟩⟩
def okP (s:List UInt8):Option Int:=match Lib.parseIntB 64 s with
 | .ok v=>some v
 | _=>none
def erV (ok:Bool) (t:TypeId) (N:Nat):Value:=if ok then .nilIface else .iface t (.pointer (some ⟨N,0,none⟩))
theorem parseInt_c {B:World} {H0 H:HP} {L:List SA} {w:World} {s:List UInt8} (hl:s.length≤1048576) (hB:LbOk H) (hH:Hp B H0 H L w):Calls Tryz.prog 36 [sV s,.int .i64 10,.int .i64 64].toArray w fun e w'=>∃v t N,e = .returned (.tuple #[.int .i64 v,erV (okP s).isSome t N])∧(∀u,okP s=some u→v=u)∧Hp B H0 H L w':=by
 have hsz:(⟨s.toArray⟩:ByteArray).size=s.length:=by simp [ByteArray.size]
 have hd:(⟨s.toArray⟩:ByteArray).data.toList=s:=by simp
 rcases h:Lib.parseIntB 64 s with v | _ | _
 ·refine (Tryz.strconv_ParseInt_10_at64_ok ⟨s.toArray⟩ (by omega) v (by rw [hd];exact h) w).mono ?_;rintro _ w' ⟨rfl,hw⟩
  have e:okP s=some v:=by unfold okP;rw [h]
  refine ⟨v,0,0,by rw [e];rfl,fun u hu=>by rw [e] at hu;exact Option.some.inj hu,?_⟩
  rcases hw with rfl | ⟨t,rfl⟩
  ·exact hH
  ·exact hH.belowOf (Lib.bytesWorld_below _ _ _)
 ·obtain ⟨te,pe,hs⟩:=hB.syn;refine (Tryz.strconv_ParseInt_10_at64_syntax ⟨s.toArray⟩ (by omega) (by rw [hd];exact h) _ w (hH.cell0 hs) (.inr ⟨te,pe,rfl⟩)).mono ?_;rintro _ w' ⟨N,rfl,_,_,hb⟩
  have e:okP s=none:=by unfold okP;rw [h]
  exact ⟨_,_,N,by rw [e];rfl,(fun u hu=>by rw [e] at hu;cases hu),hH.belowOf hb⟩
 ·obtain ⟨te,pe,hs⟩:=hB.rng;refine (Tryz.strconv_ParseInt_10_at64_range ⟨s.toArray⟩ (by omega) (by rw [hd];exact h) _ w (hH.cell0 hs) (.inr ⟨te,pe,rfl⟩)).mono ?_;rintro _ w' ⟨N,rfl,_,_,hb⟩
  have e:okP s=none:=by unfold okP;rw [h]
  exact ⟨_,_,N,by rw [e];rfl,(fun u hu=>by rw [e] at hu;cases hu),hH.belowOf hb⟩
theorem atoi_c {B:World} {H0 H:HP} {L:List SA} {w:World} {s:List UInt8} (hl:s.length≤1048576) (hB:LbOk H) (hH:Hp B H0 H L w):Calls Tryz.prog 68 [sV s].toArray w fun e w'=>∃v,e = .returned (.tuple #[.int .i64 (atV s),v])∧Hp B H0 H L w':=by
 have hsz:(⟨s.toArray⟩:ByteArray).size=s.length:=by simp [ByteArray.size]
 have hd:(⟨s.toArray⟩:ByteArray).data.toList=s:=by simp
 rcases h:Lib.atoiAll s with v | _ | _
 ·refine (Tryz.strconv_Atoi_ok ⟨s.toArray⟩ (by omega) v (by rw [hd];exact h) w).mono ?_;rintro _ w' ⟨rfl,hw⟩
  have e:atV s=v:=by unfold atV;rw [h]
  refine ⟨_,by rw [e],?_⟩
  rcases hw with rfl | ⟨t,rfl⟩
  ·exact hH
  ·exact hH.belowOf (Lib.bytesWorld_below _ _ _)
 ·obtain ⟨te,pe,hs⟩:=hB.syn;refine (Tryz.strconv_Atoi_syntax ⟨s.toArray⟩ (by omega) (by rw [hd];exact h) _ w (hH.cell0 hs) (.inr ⟨te,pe,rfl⟩)).mono ?_;rintro _ w' ⟨N,rfl,_,_,hb⟩
  have e:atV s=0:=by unfold atV;rw [h]
  exact ⟨_,by rw [e],hH.belowOf hb⟩
 ·obtain ⟨te,pe,hs⟩:=hB.rng;refine (Tryz.strconv_Atoi_range ⟨s.toArray⟩ (by omega) (by rw [hd];exact h) _ w (hH.cell0 hs) (.inr ⟨te,pe,rfl⟩)).mono ?_;rintro _ w' ⟨N,rfl,_,_,hb⟩
  have e:atV s=Lib.atoiSat s:=by unfold atV;rw [h]
  rw [hd];exact ⟨_,by rw [e],hH.belowOf hb⟩
theorem atV_nn {d:List UInt8} (h : ∀x∈d,isDig x=true):0≤atV d∧atV d≤9223372036854775807:=by
 unfold atV
 cases d with
 | nil=>
  simp [Lib.atoiAll]
 | cons a l=>
  have ha:=isDig_iff.1 (h a (by simp));have e:=Lib.atoiAll_plain a l (by omega) (by omega)
  rcases hh:Lib.atoiAll (a::l) with v | _ | _
  ·have hb:=Lib.atoiAll_bounds hh;refine ⟨?_,hb.2⟩;rw [e] at hh
   rcases hp:Lib.parseMag (a::l) with u | _ | _
   ·rw [hp] at hh;simp only [Lib.signless] at hh
    by_cases hu:9223372036854775808≤u
    ·rw [if_pos hu] at hh
     cases hh
    ·rw [if_neg hu] at hh
     cases hh
     simp only
     omega
   ·rw [hp] at hh
    cases hh
   ·rw [hp] at hh
    cases hh
  ·simp
  ·simp only;rw [Lib.atoiSat_other a l (by omega)]
   omega
theorem u51:Tryz.prog.underlying 51=some (TypeDesc.slice 9):=by kernel_rfl
theorem sz9:Size Tryz.prog 9 1:=by unfold Size;kernel_rfl
theorem by9:Bytes Tryz.prog 9 16:=by unfold Bytes;kernel_rfl
theorem ze9:Zero Tryz.prog 9 [.string ⟨#[]⟩]:=by unfold Zero;kernel_rfl
theorem nf_stop {s:List UInt8} {k:Nat} {n:Int} (hk:k<s.length) (h:isDig (s.getD k 0)=false):numF (s.drop k) n = -1:=by
 rw [List.drop_eq_getElem_cons hk]
 have e:s[k]=s.getD k 0:=by simp [List.getD_eq_getElem?_getD,hk]
 simp only [numF];rw [e,h]
 rfl
theorem nf_step {s:List UInt8} {k:Nat} {n:Int} (hk:k<s.length) (h:isDig (s.getD k 0)=true):numF (s.drop k) n=numF (s.drop (k+1)) (n * 10+dgV (s.getD k 0)):=by
 rw [List.drop_eq_getElem_cons hk]
 have e:s[k]=s.getD k 0:=by simp [List.getD_eq_getElem?_getD,hk]
 simp only [numF];rw [e,h]
 rfl
def numB (s:List UInt8):Bool:=decide (s.length=0∨9<s.length∨(1<s.length∧s.getD 0 0=48))
theorem numB_1 {s:List UInt8} (h:(s.length:Int)=0):true=numB s:=(decide_eq_true (.inl (by omega))).symm
theorem numB_2 {s:List UInt8} (h:(s.length:Int)>9):true=numB s:=(decide_eq_true (.inr (.inl (by omega)))).symm
theorem numB_3 {s:List UInt8} (h0 : ¬(s.length:Int)=0) (h : ¬(s.length:Int)>9) (h1:(s.length:Int)>1):decide (((s.getD 0 0).toNat:Int)=48)=numB s:=by
 unfold numB;refine decide_eq_decide.2 ⟨fun h2=>.inr (.inr ⟨by omega,?_⟩),fun h2=>?_⟩
 ·rw [← UInt8.ofNat_toNat (x:=s.getD 0 0),show (s.getD 0 0).toNat=48 by omega]
  rfl
 ·rcases h2 with h2 | h2 | ⟨_,h2⟩
  ·omega
  ·omega
  ·rw [h2]
   rfl
theorem numB_4 {s:List UInt8} (h0 : ¬(s.length:Int)=0) (h : ¬(s.length:Int)>9) (h1 : ¬(s.length:Int)>1):false=numB s:=by
 unfold numB;rw [decide_eq_false];rintro (h2 | h2 | ⟨h2,_⟩) <;> omega
theorem numS_b {s:List UInt8} (h:numB s=true):numS s = -1:=by
 unfold numS;rw [if_pos (of_decide_eq_true h)]
theorem numS_n {s:List UInt8} (h:numB s=false):numS s=numF s 0∧s.length≤9:=by
 have h1:=of_decide_eq_false h;unfold numS;rw [if_neg h1];exact ⟨rfl,Classical.byContradiction fun h2=>h1 (.inr (.inl (by omega)))⟩
theorem dig_f1 {b:UInt8} (h:(b.toNat:Int)<48):isDig b=false:=by unfold isDig;rw [decide_eq_false (show ¬48≤b.toNat by omega)];rfl
theorem dig_f2 {b:UInt8} (h:(b.toNat:Int)>57):isDig b=false:=by unfold isDig;rw [decide_eq_false (show ¬b.toNat≤57 by omega)];simp
theorem dig_t {b:UInt8} (h : ¬(b.toNat:Int)<48) (h2 : ¬(b.toNat:Int)>57):isDig b=true:=by unfold isDig;rw [decide_eq_true (show 48≤b.toNat by omega),decide_eq_true (show b.toNat≤57 by omega)];rfl
theorem p10_s (k:Nat):(10:Int) ^ (k+1)=10 ^ k * 10:=Int.pow_succ 10 k
theorem l01Number_c {B:World} {H0 H:HP} {L:List SA} {w:World} {s:List UInt8} (hl:s.length≤1048576) (hH:Hp B H0 H L w):Calls Tryz.prog 32 [sV s].toArray w fun e w'=>e = .returned (.int .i64 (numS s))∧Hp B H0 H L w':=by
 refine JB Tryz.func32 rfl 48 rfl rfl [(0,sV s)] rfl hH ?_;clear hH;refine Je fun _ hK1 _=>(Jb (Jg (Jd rfl) rfl (Jf (Ja (hK1 (Je fun _ hK2 _=>(CJ.cutU (σ:=Bool) (fun (b:Bool)=>[(22,.bool b)]) (fun (b:Bool)=>H) (fun (b:Bool)=>L) (fun (b:Bool)=>b=numB s) ?_ ?_)))))))
 ·
  intro _ hMt1;refine Jb (Jg (Jc rfl) rfl (Jg (EF u9 rfl) rfl (Jg (EB rfl rfl) rfl (Jg (Jc rfl) rfl (Ee (jd:=8) rfl (fun h8=>?_) (fun h8=>?_))))))
  ·
   try have h8p:=of_decide_eq_true h8
   refine JJ rfl rfl rfl h8 (JJ rfl rfl rfl h8 (JJ rfl rfl rfl h8 (Jg (JU rfl h8 rfl) rfl (Jg (Jc rfl) rfl (JJ rfl rfl rfl rfl (JJ rfl rfl rfl rfl (JJ rfl rfl rfl rfl (JJ rfl rfl rfl rfl (J.gu rfl rfl rfl (J.gu rfl rfl rfl (J.gu rfl rfl rfl (JJ rfl rfl rfl rfl (Jg (JU rfl rfl rfl) rfl (Jf ?_))))))))))))));refine Ja ?_;exact hMt1 true (numB_1 h8p) 18 rfl rfl ⟨rfl,trivial⟩ rfl rfl
  ·
   try have h8p:=of_decide_eq_false h8
   refine JQ (Jc rfl) rfl rfl rfl h8 (JQ (EF u9 rfl) rfl rfl rfl h8 (JQ (Ep rfl rfl) rfl rfl rfl h8 (Jg (JM rfl h8 rfl) rfl (Jg (Jc rfl) rfl (Ee (jd:=13) rfl (fun h13=>?_) (fun h13=>?_))))))
   ·
    try have h13p:=of_decide_eq_true h13
    refine JJ rfl rfl rfl h13 (JJ rfl rfl rfl h13 (JJ rfl rfl rfl h13 (JJ rfl rfl rfl h13 (J.gu rfl rfl rfl (J.gu rfl rfl rfl (J.gu rfl rfl rfl (JJ rfl rfl rfl h13 (Jg (JU rfl h13 rfl) rfl (Jf (Ja ?_))))))))));exact hMt1 true (numB_2 h13p) 18 rfl rfl ⟨rfl,trivial⟩ rfl rfl
   ·
    try have h13p:=of_decide_eq_false h13
    refine JQ (Jc rfl) rfl rfl rfl h13 (JQ (EF u9 rfl) rfl rfl rfl h13 (JQ (Ep rfl rfl) rfl rfl rfl h13 (JQ (Jc rfl) rfl rfl rfl h13 (Ee (jd:=17) rfl (fun h17=>?_) (fun h17=>?_)))))
    ·
     try have h17p:=of_decide_eq_true h17
     refine JQ (Jc rfl) rfl rfl rfl h17 (JQ (Eu (i':=0) u9 rfl rfl rfl (by omega)) rfl rfl rfl h17 (JQ (EB rfl rfl) rfl rfl rfl h17 (JQ (JU rfl h17 rfl) rfl rfl rfl h13 (Jg (JM rfl h13 rfl) rfl (Jf (Ja ?_))))));exact hMt1 (decide (((s.getD 0 0).toNat:Int)=48)) (numB_3 h8p h13p h17p) 18 rfl rfl ⟨rfl,trivial⟩ rfl rfl
    ·
     try have h17p:=of_decide_eq_false h17
     refine JJ rfl rfl rfl h17 (JJ rfl rfl rfl h17 (JJ rfl rfl rfl h17 (JQ (JM rfl h17 rfl) rfl rfl rfl h13 (Jg (JM rfl h13 rfl) rfl (Jf (Ja ?_))))));exact hMt1 false (numB_4 h8p h13p h17p) 18 rfl rfl ⟨rfl,trivial⟩ rfl rfl
 ·
  rintro b hb;refine Eh rfl (fun h22=>?_) (fun h22=>?_)
  ·
   refine Je fun _ hK3 _=>(Jb (Jg (Jd rfl) rfl (Jf (Ja (hK3 (Jp (Jh (Jt rfl (Res.tmp rfl) fun w hH=>?_))))))));exact ⟨ri (by rw [numS_b (by rw [← hb];exact h22)]),hH⟩
  ·
   have hnb:numB s=false:=by rw [← hb];exact h22
   obtain ⟨hns,hs9⟩:=numS_n hnb;refine Ji (Ja (hK2 (Je fun _ hK4 _=>(Jb (Jg (Jd rfl) rfl (Jf (Ja (hK4 (Je fun _ hK5 _=>(Je fun _ hK6 _=>(Jb (Jg (Jd rfl) rfl (Jf (Ja (hK6 (Jm (JE (σ:=Int × Nat) (fun ⟨n,k⟩=>[(4,.int .i64 (k:Int)),(3,.int .i64 n)]) (fun ⟨n,k⟩=>H) (fun ⟨n,k⟩=>L) (fun ⟨n,k⟩=>k≤s.length∧0≤n∧n<10 ^ k∧numF s 0=numF (s.drop k) n) (fun ⟨n,k⟩=>s.length - k) (0,0) ⟨by omega,by omega,by decide,rfl⟩ ⟨rfl,⟨rfl,trivial⟩⟩ rfl rfl ?_)))))))))))))))));rintro ⟨n,k⟩ ⟨hk,hn0,hn,hI⟩ _ hAg0;refine Je fun _ hK7 _=>(Je fun _ hK8 _=>(Jb (Jg (Jc rfl) rfl (Jg (Jc rfl) rfl (Jg (EF u9 rfl) rfl (Jg (JK rfl rfl) rfl (Jf (Ja (hK8 (Jk rfl (fun h26=>?_) (fun h26=>?_)))))))))))
   ·
    have hk1:k<s.length:=by omega
    have hu:=u8_bd (s.getD k 0);have hp:=p10_s k;have hpl:=p10_le (i:=k+1) (by omega);refine Ji (Ja (hK7 (Je fun _ hK9 _=>(Jm (Je fun _ hK10 _=>(Je fun _ hK11 _=>(Jb (Jg (Jc rfl) rfl (Jg (Jc rfl) rfl (Jg (Eu (i':=k) u9 rfl rfl rfl hk1) rfl (Jg (JK rfl rfl) rfl (Jg (Jc rfl) rfl (Ee (jd:=33) rfl (fun h33=>?_) (fun h33=>?_))))))))))))))
    ·
     try have h33p:=of_decide_eq_true h33
     refine JJ rfl rfl rfl h33 (JJ rfl rfl rfl h33 (JJ rfl rfl rfl h33 (JJ rfl rfl rfl h33 (Jg (JU rfl h33 rfl) rfl (Jf (Ja (hK11 (Er rfl (Je fun _ hK12 _=>(Jb (Jg (Jd rfl) rfl (Jf (Ja (hK12 (Jp (Jh ?_))))))))))))))));refine JH (Jh (Jh (JH (Jh (Jt rfl (Res.tmp rfl) fun w hH=>?_)))));exact ⟨ri (by rw [hns,hI,nf_stop hk1 (dig_f1 h33p)]),hH⟩
    ·
     try have h33p:=of_decide_eq_false h33
     refine JQ (Jc rfl) rfl rfl rfl h33 (JQ (Jc rfl) rfl rfl rfl h33 (JQ (Eu (i':=k) u9 rfl rfl rfl hk1) rfl rfl rfl h33 (JQ (Ep rfl rfl) rfl rfl rfl h33 (Jg (JM rfl h33 rfl) rfl (Jf (Ja (hK11 (Jk rfl (fun h38=>?_) (fun h38=>?_)))))))))
     ·
      refine Je fun _ hK13 _=>(Jb (Jg (Jd rfl) rfl (Jf (Ja (hK13 (Jp (Jh (JH (Jh (Jh (JH (Jh (Jt rfl (Res.tmp rfl) fun w hH=>?_)))))))))))));exact ⟨ri (by rw [hns,hI,nf_stop hk1 (dig_f2 h38)]),hH⟩
     ·
      refine Ji (Ja (hK10 (Jb (Jg (Jc rfl) rfl (Jg (EM rfl rfl (nw _ (by omega))) rfl (Jg (Jc rfl) rfl (Jg (Jc rfl) rfl (Jg (Eu (i':=k) u9 rfl rfl rfl hk1) rfl (Jg (PR.sub rfl rfl (su8_id (by omega))) rfl (Jg (Ey u5 u2 rfl (by first | exact nw _ (by omega) | rfl)) rfl (Jg (Jy rfl rfl (nw _ (by omega))) rfl (Jg (Jd rfl) rfl (Jf (JD (Ja (hK9 ?_))))))))))))))));refine Jb (Jg (Jc rfl) rfl (Jg (Jy rfl rfl (by first | exact nw _ (by omega) | rfl)) rfl (Jg (Jd rfl) rfl (Jf (Ja ?_)))));exact hAg0 (n * 10+dgV (s.getD k 0),k+1) ⟨by omega,by unfold dgV;omega,by rw [hp];unfold dgV;omega,by rw [hI,nf_step hk1 (dig_t h33p h38)]⟩ (by show s.length - (k+1)<s.length - k;omega) 28 rfl rfl ⟨rfl,⟨rfl,trivial⟩⟩ rfl rfl
   ·
    refine JI (Jl (Jl (JR (Ja (hK5 (Je fun _ hK14 _=>(Jb (Jg (Jc rfl) rfl (Jg (Jd rfl) rfl (Jf (Ja (hK14 (Jp (Jt rfl (Res.tmp rfl) fun w hH=>?_))))))))))))))
    have hke:k=s.length:=by omega
    exact ⟨ri (by rw [hns,hI,hke,List.drop_length];rfl),hH⟩
theorem drop_get {s:List UInt8} {k:Nat} (hk:k<s.length):s.drop k=s.getD k 0::s.drop (k+1):=by
 rw [List.drop_eq_getElem_cons hk]
 simp [List.getD_eq_getElem?_getD,hk]
theorem spl_hit {s:List UInt8} {c:UInt8} {k a:Nat} {out:List (List UInt8)} (hk:k<s.length) (h:s.getD k 0=c) (hI:spl c s=out++att ((s.drop a).take (k - a)) (spl c (s.drop k))):spl c s=(out++[(s.drop a).take (k - a)])++att ((s.drop (k+1)).take (k+1 - (k+1))) (spl c (s.drop (k+1))):=by
 rw [hI,drop_get hk];simp only [spl];rw [if_pos h,Nat.sub_self,List.take_zero,att_nil (spl_ne _ _)]
 simp [att]
theorem spl_on {s:List UInt8} {c:UInt8} {k a:Nat} {out:List (List UInt8)} (hk:k<s.length) (ha:a≤k) (h:s.getD k 0≠c) (hI:spl c s=out++att ((s.drop a).take (k - a)) (spl c (s.drop k))):spl c s=out++att ((s.drop a).take (k+1 - a)) (spl c (s.drop (k+1))):=by
 rw [hI,drop_get hk];simp only [spl];rw [if_neg h,att_att]
 congr 2
 have e:k+1 - a=(k - a)+1:=by omega
 have hl:k - a<(s.drop a).length:=by rw [List.length_drop];omega
 rw [e,List.take_succ_eq_append_getElem hl]
 congr 2
 simp only [List.getElem_drop]
 simp [List.getD_eq_getElem?_getD,show a+(k - a)=k by omega,hk]
theorem spl_fin {s:List UInt8} {c:UInt8} {a:Nat} {out:List (List UInt8)} (hI:spl c s=out++att ((s.drop a).take (s.length - a)) (spl c (s.drop s.length))):spl c s=out++[s.drop a]:=by
 rw [hI,List.drop_length];simp only [spl,att,List.append_nil];rw [List.take_of_length_le (by simp)]
theorem u8_eq {b c:UInt8} (h:(b.toNat:Int)=c.toNat):b=c:=by
 rw [← UInt8.ofNat_toNat (x:=b),show b.toNat=c.toNat by omega,UInt8.ofNat_toNat]
theorem l01Split_c {B:World} {H0 H:HP} {L:List SA} {w:World} {s:List UInt8} {x:Int} {c:UInt8} (hx:x=(c.toNat:Int)) (hl:s.length≤1048576) (hH:Hp B H0 H L w):Calls Tryz.prog 31 [sV s,.int .u8 x].toArray w fun e w'=>∃q k,e = .returned (.slice q (spl c s).length k)∧Hp B H0 H (own 9 1 q (spl c s).length k ((spl c s).map sV)::L) w':=by
 refine JB Tryz.func31 rfl 35 rfl rfl [(0,sV s),(1,.int .u8 x)] rfl hH ?_;clear hH;refine Je fun _ hK1 _=>(Jb (Jg (Jd rfl) rfl (Jf (Ja (hK1 (Je fun _ hK2 _=>(Jb (J.mk (MK.lit0 u51 sz9) rfl fun qo8 co8=>(Jg (Jd rfl) rfl (Jf (Ja (hK2 (Je fun _ hK3 _=>(Jb (Jg (Jd rfl) rfl (Jf ?_))))))))))))))));refine Ja (hK3 (Je fun _ hK4 _=>(Je fun _ hK5 _=>(Jb (Jg (Jd rfl) rfl (Jf (Ja (hK5 (Jm (JE (σ:=Option Addr × Nat × List (List UInt8) × Nat × Nat) (fun ⟨q,c2,out,a,k⟩=>[(7,.int .i64 (k:Int)),(6,.int .i64 (a:Int)),(5,.slice q out.length c2)]) (fun ⟨q,c2,out,a,k⟩=>H) (fun ⟨q,c2,out,a,k⟩=>own 9 1 q out.length c2 (out.map sV)::L) (fun ⟨q,c2,out,a,k⟩=>k≤s.length∧a≤k∧spl c s=out++att ((s.drop a).take (k - a)) (spl c (s.drop k))) (fun ⟨q,c2,out,a,k⟩=>s.length - k) (qo8,co8, [],0,0) ⟨by omega,by omega,by rw [Nat.sub_self,List.take_zero,att_nil (spl_ne _ _)];rfl⟩ ⟨rfl,⟨rfl,⟨rfl,trivial⟩⟩⟩ rfl rfl ?_))))))))));rintro ⟨q,c2,out,a,k⟩ ⟨hk,ha,hI⟩ _ hAg0;have hol:=spl_len c s;have hil:=congrArg List.length hI;rw [List.length_append,att_len _ (spl_ne c _)] at hil;have hpp:=List.length_pos_iff.2 (spl_ne c (s.drop k));refine Je fun _ hK6 _=>(Je fun _ hK7 _=>(Jb (Jg (Jc rfl) rfl (Jg (Jc rfl) rfl (Jg (EF u9 rfl) rfl (Jg (JK rfl rfl) rfl (Jf (Ja (hK7 (Jk rfl (fun h12=>?_) (fun h12=>?_)))))))))))
 ·
  have hk1:k<s.length:=by omega
  refine Ji (Ja (hK6 (Je fun _ hK8 _=>(Jm (Je fun _ hK9 _=>(Jb (Jg (Jc rfl) rfl (Jg (Jc rfl) rfl (Jg (Eu (i':=k) u9 rfl rfl rfl hk1) rfl (Jg (Jc rfl) rfl (Jg (EB rfl rfl) rfl (Jf (Ja (hK9 (Jk rfl (fun h19=>?_) (fun h19=>?_))))))))))))))))
  ·
   refine Je fun _ hK10 _=>(Jb (Jg (Jc rfl) rfl (Jg (Jc rfl) rfl (Jg (Jc rfl) rfl (Jg (Jc rfl) rfl (Jg (PR.strSl (i':=a) (j':=k) u9 rfl rfl rfl rfl rfl (by omega) (by omega)) rfl (J.mk (EK u51 ze9 sz9 rfl rfl) rfl fun qo25 co25=>(J.append1 u51 ze9 sz9 by9 rfl rfl rfl rfl (by omega) .z At.z (fun _ _=>At.z) rfl fun qo26 co26=>(Jg (Jd rfl) rfl (Jf (Ja (hK10 (Jb (Jg (Jc rfl) rfl (Jg (Jy rfl rfl (by first | exact nw _ (by omega) | rfl)) rfl ?_)))))))))))))));refine Jg (Jd rfl) rfl (Jf (JD (Ja (hK8 (Jb (Jg (Jc rfl) rfl (Jg (Jy rfl rfl (by first | exact nw _ (by omega) | rfl)) rfl (Jg (Jd rfl) rfl (Jf (Ja (JL .z ?_)))))))))));exact hAg0 (qo26,co26,out++[(s.drop a).take (k - a)],k+1,k+1) ⟨by omega,by omega,spl_hit hk1 (u8_eq (by omega)) hI⟩ (by show s.length - (k+1)<s.length - k;omega) 26 rfl rfl ⟨rfl,⟨rfl,⟨(by rw [List.length_append];rfl),trivial⟩⟩⟩ rfl (by dsimp only;rw [List.length_append,List.map_append];rfl)
  ·
   refine Ji (JD (Ja (hK8 (Jb (Jg (Jc rfl) rfl (Jg (Jy rfl rfl (by first | exact nw _ (by omega) | rfl)) rfl (Jg (Jd rfl) rfl (Jf (Ja ?_)))))))));exact hAg0 (q,c2,out,a,k+1) ⟨by omega,by omega,spl_on hk1 ha (fun h=>h19 (by rw [h];omega)) hI⟩ (by show s.length - (k+1)<s.length - k;omega) 15 rfl rfl ⟨rfl,⟨rfl,⟨rfl,trivial⟩⟩⟩ rfl rfl
 ·
  refine JI (Jl (Jl (JR (Ja (hK4 (Je fun _ hK11 _=>(Jb (Jg (Jc rfl) rfl (Jg (Jc rfl) rfl (Jg (Jc rfl) rfl (Jg (PR.strSlF (i':=a) u9 rfl rfl rfl (by omega)) rfl (J.mk (EK u51 ze9 sz9 rfl rfl) rfl fun qo33 co33=>(J.append1 u51 ze9 sz9 by9 rfl rfl rfl rfl (by omega) .z At.z (fun _ _=>At.z) rfl fun qo34 co34=>(Jg (Jd rfl) rfl (Jf ?_)))))))))))))));refine Ja (hK11 (Jp (Jt rfl (Res.tmp rfl) fun w hH=>?_)));replace hH:=hH.sublist (.cons _ (.cons_cons _ (List.Sublist.refl _)))
  obtain rfl:k=s.length:=by omega
  have e9:=spl_fin hI;rw [e9];exact ⟨_,_,by rw [List.length_append];rfl,by rw [List.length_append,List.map_append];exact hH⟩
end Go.Proofs.YtefpohpaliocaaaGreatDoor.G
