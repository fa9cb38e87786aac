/- A part of the walk of one law: what the functions compute. No condition. -/
import Derived.Test.YthenedanhcnccaaGreatRows
import Derived.Test.YthenedanhcnccaaGreatProg
import Derived.WalkKit
import Derived.KernelRfl
import Derived.JoinedOf
import Derived.Maps.AppendAt
import Derived.Still
import Derived.ProofKit
import Derived.OpenShut
import Derived.StillTail
import Derived.Deep.Upon
import Derived.WalkSpells
import Derived.Maps.Range
import Derived.DeepKeys4
import Derived.Maps.Keyed
import Derived.ChangeOld
import Derived.Below
import Derived.SizedLaws
import Derived.Test.YthenedanhcnccaaGreatPIsog
set_option linter.unusedVariables false
set_option linter.unusedSimpArgs false
set_option maxRecDepth 10000
set_option maxHeartbeats 8000000
open Nat (reduceEqDiff reduceSub reduceAdd)
namespace Go.Proofs.YthenedanhcnccaaGreat.G
open Go Go.RowKit
theorem fn111:Fn Tryz.prog 111:=⟨_,Tryz.func111,by kernel_rfl,rfl⟩
theorem fn127:Fn Tryz.prog 127:=⟨_,Tryz.func127,by kernel_rfl,rfl⟩
theorem fn75:Fn Tryz.prog 75:=⟨_,Tryz.func75,by kernel_rfl,rfl⟩
theorem csK_succ {ds:List Int} {fs:List (List Term)} {n:Int} {k:Nat} (hk:k<(clS ds fs n).length):redS (lfK ds fs n (k+1))=putS (redS (lfK ds fs n k)) (byS (rw_ (clS ds fs n) k) (bdS ds fs n)):=by
 unfold redS;rw [lfK_succ hk,List.foldl_append]
 rfl
theorem Hp.byM {B:World} {H0 H:HP} {L:List SA} {w:World} {q q2:Option Addr} {c c2 W:Nat} {row:List Int} {rs:List (List Int)} {vs:Vs} (hw:RowOk W row) (hW : ∀r∈rs,RowOk W r∧ldR r<W) (hn:rs.length≤1000000) (hWn:W≤1000000) (hH:Hp B H0 H (mlt (RwK q2 c2 rs) H vs::own 2 1 q row.length c (intsC row)::L) w) :
 Calls Tryz.prog 109 [.slice q row.length c,.slice q2 rs.length c2].toArray w fun e w'=>∃q c vs,e = .returned (.slice q (byS row rs).length c)∧Hp B H0 H (mlt (InK q c (byS row rs)) H vs::L) w':=
 hH.lend .z fun H1 hle hA _ hH1=>hH1.lend .z fun H2 hle2 hA2 _ hH2=>(l03By_c (crow:=c) (crs:=c2) (own_ints hA2) ((mlt_rows hle hA).1.le hle2) hw hW hn hWn (own_le hA2) hH2).mono fun e w' h=>by
  obtain ⟨H',q',c',hle',hI,hc,he,hH'⟩:=h
  obtain ⟨vs',h2⟩:=hH.melt (K:=InK q' c' (byS row rs)) hH' ((hle.trans hle2).trans hle') ⟨hI,hc⟩
  exact ⟨q',c',vs',he,h2⟩
theorem l03Classes_c {B:World} {H0 H:HP} {L:List SA} {w:World} {qad qaf:Option Addr} {cad caf:Nat} {ad:List Int} {af:List (List Term)} {n:Int} (had:Ints H qad ad) (haf:Forms H qaf af) (hG:isAlg ad af=true) (hn:0≤n∧n≤40) (hfit:fit3 ad n) (hH:Hp B H0 H L w):Calls Tryz.prog 75 [.agg [.slice qad ad.length cad,.slice qaf af.length caf].toArray,.int .i64 n].toArray w fun e w'=>∃H' q c,Le H H' ∧RowsR H' q (csS ad af n)∧(csS ad af n).length≤c∧e = .returned (.slice q (csS ad af n).length c)∧Hp B H0 H' L w':=by
 refine Jz Tryz.func75 rfl 31 rfl rfl [(0,.agg [.slice qad ad.length cad,.slice qaf af.length caf].toArray),(1,.int .i64 n)] rfl hH ?_;have hw0:=hH.old;have hw1:=hH.le;clear hH;have hwf:=haf.wfss;have hA:=isAlg_ok hG hwf;have h8:=hA.hn;have hd:=alg_112 hG;have hml:=monL_len ad n;have hml1:=monL_len ad (n+1);have hclR:=clS_red (n:=n) hA h8 hd;have hbdR:=bdS_red (n:=n) hA h8 hd;have hcll:=clS_len (n:=n) hA h8 hd;have hbdl:=bdS_len (n:=n) hA h8 hd;have hcsR:=csS_red (n:=n) hA h8 hd;have hcsl:=csS_len (n:=n) hA h8 hd;refine Je fun _ hK1 _=>(Jb (Ee rfl rfl rfl fun g2=>(Jg (Jd rfl) rfl (Jf (Ja (hK1 (Je fun _ hK2 _=>(Ej (Rs:=[_]) 10 [[], [], [0,1], [], [], [0,1,2,3,4], [], [0,1,2,3,4,5], [0,1,2,3,4,5,7], [0,1,2,3,4,5,6,7,8]] [[10], [], [], [10], [], [], [], [], [], []] [[], [], [], [], [], [], [], [], [], []] rfl rfl (by kernel_rfl) ?_))))))));apply Jj 1 rfl
 iterate 3 focus (intros;(conv=>lhs;simp only [Jh,Jt,JN,Jv,JI,eq_self,reduceEqDiff,reduceIte,reduceSub,reduceAdd,JxA,JxB]);all_goals rfl)
 ·
  intro gh X K zq zc zq2 zc2 zb zv hK;refine Jg (Jx rfl At.z (by simpa [*] using ag35)) rfl (Ji ?_);exact hK zq zc zq2 zc2 zb zv
 ·
  intro gh gh' h
  rfl
 apply Jj 2 rfl
 iterate 3 focus (intros;(conv=>lhs;simp only [Jh,Jt,JN,Jv,JI,eq_self,reduceEqDiff,reduceIte,reduceSub,reduceAdd,JxA,JxB]);all_goals rfl)
 ·
  intro gh X K zq zc zq2 zc2 zb zv hK;refine Jg (Jc rfl) rfl (Ji ?_);exact hK zq zc zq2 zc2 zb zv
 ·
  intro gh gh' h
  rfl
 apply Ea 3 rfl
 iterate 3 focus (intros;(conv=>lhs;simp only [Jh,Jt,JN,Jv,JI,eq_self,reduceEqDiff,reduceIte,reduceSub,reduceAdd,JxA,JxB]);all_goals rfl)
 ·
  intro gh X K zq zc zq2 zc2 zb zv hK;refine Jw fn127 rfl rfl fun w hH=>(l03Closed_m had haf hG (by omega) hfit.1 hH).mono ?_;rintro _ w ⟨qo11,co11,vso11,rfl,hH⟩;refine ⟨_,rfl,fun a hF=>JL hF hH ?_⟩;refine Ji ?_;exact hK qo11 co11 zq2 zc2 zb vso11
 ·
  intro gh gh' h;refine ⟨?_,?_⟩ <;> rfl
 apply Jj 4 rfl
 iterate 3 focus (intros;(conv=>lhs;simp only [Jh,Jt,JN,Jv,JI,eq_self,reduceEqDiff,reduceIte,reduceSub,reduceAdd,JxA,JxB]);all_goals rfl)
 ·
  intro gh X K zq zc zq2 zc2 zb zv hK;refine Jg (Jx rfl At.z (by simpa [*] using ag35)) rfl (Ji ?_);exact hK zq zc zq2 zc2 zb zv
 ·
  intro gh gh' h
  rfl
 apply Jj 5 rfl
 iterate 3 focus (intros;(conv=>lhs;simp only [Jh,Jt,JN,Jv,JI,eq_self,reduceEqDiff,reduceIte,reduceSub,reduceAdd,JxA,JxB]);all_goals rfl)
 ·
  intro gh X K zq zc zq2 zc2 zb zv hK;refine Jg (Jc rfl) rfl (Ji ?_);exact hK zq zc zq2 zc2 zb zv
 ·
  intro gh gh' h
  rfl
 apply Ea 6 rfl
 iterate 3 focus (intros;(conv=>lhs;simp only [Jh,Jt,JN,Jv,JI,eq_self,reduceEqDiff,reduceIte,reduceSub,reduceAdd,JxA,JxB]);all_goals rfl)
 ·
  intro gh X K zq zc zq2 zc2 zb zv hK;refine Jw fn111 rfl rfl fun w hH=>(l03Bounds_m had haf hG (by omega) (fun h=>⟨hfit.2 h,by rw [Int.sub_add_cancel];exact hfit.1.1⟩) hH).mono ?_;rintro _ w ⟨qo14,co14,vso14,rfl,hH⟩;refine ⟨_,rfl,fun a hF=>JL hF hH ?_⟩;refine Ji ?_;exact hK qo14 co14 zq2 zc2 zb vso14
 ·
  intro gh gh' h;refine ⟨?_,?_⟩ <;> (first | simp only [h 2 rfl] | rfl)
 apply Ea 7 rfl
 iterate 3 focus (intros;(conv=>lhs;simp only [Jh,Jt,JN,Jv,JI,eq_self,reduceEqDiff,reduceIte,reduceSub,reduceAdd,JxA,JxB]);all_goals rfl)
 ·
  intro gh X K zq zc zq2 zc2 zb zv hK;refine EK (EP u57 sz22) rfl fun qo15 co15=>(Ji ?_);exact hK qo15 co15 zq2 zc2 zb zv
 ·
  intro gh gh' h;refine ⟨?_,?_⟩ <;> rfl
 apply Jj 8 rfl
 iterate 3 focus (intros;(conv=>lhs;simp only [Jh,Jt,JN,Jv,JI,eq_self,reduceEqDiff,reduceIte,reduceSub,reduceAdd,JxA,JxB]);all_goals rfl)
 ·
  intro gh X K zq zc zq2 zc2 zb zv hK;refine Jg (Jd rfl) rfl (Ji ?_);exact hK zq zc zq2 zc2 zb zv
 ·
  intro gh gh' h
  first | simp only [h 2 rfl,h 5 rfl] | rfl
 apply Jj 9 rfl
 iterate 3 focus (intros;(conv=>lhs;simp only [Jh,Jt,JN,Jv,JI,eq_self,reduceEqDiff,reduceIte,reduceSub,reduceAdd,JxA,JxB]);all_goals rfl)
 ·
  intro gh X K zq zc zq2 zc2 zb zv hK;refine Jg (Jd rfl) rfl (Ji ?_);exact hK zq zc zq2 zc2 zb zv
 ·
  intro gh gh' h
  first | simp only [h 2 rfl,h 5 rfl] | rfl
 apply Jj 10 rfl
 iterate 3 focus (intros;(conv=>lhs;simp only [Jh,Jt,JN,Jv,JI,eq_self,reduceEqDiff,reduceIte,reduceSub,reduceAdd,JxA,JxB]);all_goals rfl)
 ·
  intro gh X K zq zc zq2 zc2 zb zv hK;refine Jg (Jd rfl) rfl (Ji ?_);exact hK zq zc zq2 zc2 zb zv
 ·
  intro gh gh' h
  first | simp only [h 2 rfl,h 5 rfl,h 6 rfl] | rfl
 apply Ek [0,1,2,3,4,5,6,7,8,9] [0,1,2,3,4,5,6,7,8,9,10] foll0 rfl rfl rfl (by rfl)
 iterate 2 focus (intros;(conv=>lhs;simp only [Jh,Jt,JN,Jv,JI,eq_self,reduceEqDiff,reduceIte,reduceSub,reduceAdd,JxA,JxB]);all_goals rfl)
 intro gh;generalize (gh 2).c=co11;generalize (gh 2).q=qo11;generalize (gh 2).vs=vso11;generalize (gh 5).c=co14;generalize (gh 5).q=qo14;generalize (gh 5).vs=vso14;generalize (gh 6).c=co15;generalize (gh 6).q=qo15;clear gh;have hnil:=SlF.nil H;refine EV .z fun Ho11 hleo11 hAo11=>?_;replace had:=had.le hleo11;replace haf:=haf.le hleo11;replace hnil:=hnil.le hleo11;obtain ⟨hxo11,hco11⟩:=mlt_rows hleo11 hAo11;refine EV .z fun Ho14 hleo14 hAo14=>?_;replace had:=had.le hleo14;replace haf:=haf.le hleo14;replace hnil:=hnil.le hleo14;replace hxo11:=hxo11.le hleo14;obtain ⟨hxo14,hco14⟩:=mlt_rows (hleo11.trans hleo14) hAo14;refine EV .z fun Ho15 hleo15 hAo15=>?_;replace had:=had.le hleo15;replace haf:=haf.le hleo15;replace hnil:=hnil.le hleo15;replace hxo11:=hxo11.le hleo15;replace hxo14:=hxo14.le hleo15;have hxo15:=hnil.rows (Le.refl _) hAo15;have hco15:=own_le hAo15;refine Ja (hK2 (Je fun _ hK3 _=>(Je fun _ hK4 _=>(Jb (Jg (Jd rfl) rfl (Jf (Ja (hK4 (Jn (JE (σ:=HP × Option Addr × Nat × Nat) (fun ⟨Hk,q,c,k⟩=>[(8,.int .i64 (k:Int)),(7,.slice q (redS (lfK ad af n k)).length c)]) (fun ⟨Hk,q,c,k⟩=>Hk) (fun ⟨Hk,q,c,k⟩=>obj g2 (.cells [.slice qad ad.length cad,.slice qaf af.length caf].toArray 35 (0,0))::L) (fun ⟨Hk,q,c,k⟩=>Le Ho15 Hk∧RowsR Hk q (redS (lfK ad af n k))∧(redS (lfK ad af n k)).length≤c∧k≤(clS ad af n).length) (fun ⟨Hk,q,c,k⟩=>(clS ad af n).length - k) (Ho15,qo15,co15,0) ⟨Le.refl _,hxo15,hco15,by omega⟩ ⟨rfl,⟨rfl,trivial⟩⟩ rfl rfl ?_))))))))));rintro ⟨Hk,q,c,k⟩ ⟨hlk,hS,hSc,hk⟩ _ hAg0;replace had:=had.le hlk;replace haf:=haf.le hlk;replace hnil:=hnil.le hlk;replace hxo11:=hxo11.le hlk;replace hxo14:=hxo14.le hlk;replace hxo15:=hxo15.le hlk;have hRk:=(redS_ok (lfK_ok (n:=n) (k:=k) hA h8 hd)).1;refine Je fun _ hK5 _=>(Je fun _ hK6 _=>(Jb (Jg (Jc rfl) rfl (Jg (Jc rfl) rfl (Jg (Jm u57 rfl rfl) rfl (Jg (JR rfl rfl) rfl (Jf (Ja (hK6 (Jp rfl (fun h19=>?_) (fun h19=>?_)))))))))))
 ·
  have hk1:k<(clS ad af n).length:=by omega
  have hrk:=hclR.row _ (rw_mem hk1);refine Jo (Ja (hK5 (Je fun _ hK7 _=>(Jn (Jb (Jg (Jc rfl) rfl (Jg (Jc rfl) rfl (Jg (Jc rfl) rfl (Jg (JP u57 sz22 rfl rfl rfl hk1 hxo11.sm) rfl ?_)))))))));obtain ⟨qe26,ce26,he26,le26,Fe26⟩:=hxo11 k hk1;refine Jg (JB rfl he26 pl22) rfl (Jg (Jc rfl) rfl (Jw fn109 rfl rfl fun w hH=>(l03By_c Fe26 hxo14 hrk hbdR.led (by omega) (by omega) le26 hH).mono ?_));rintro _ w ⟨Hf28,qf28,cf28,hlf28,hI28,hcc28,rfl,hH⟩;refine ⟨_,rfl,fun a hF=>JL hF hH ?_⟩;replace had:=had.le hlf28;replace haf:=haf.le hlf28;replace hnil:=hnil.le hlf28;replace hxo11:=hxo11.le hlf28;replace hxo14:=hxo14.le hlf28;replace hxo15:=hxo15.le hlf28;replace hS:=hS.le hlf28;replace Fe26:=Fe26.le hlf28;refine Jw fn128 rfl rfl fun w hH=>(l03Put_c hS hI28 hRk (byS_ok hrk hbdR.row) (by omega) hcc28 hSc hH).mono ?_;rintro _ w ⟨Hf29,qf29,cf29,hlf29,hI29,hcc29,rfl,hH⟩;refine ⟨_,rfl,fun a hF=>JL hF hH ?_⟩;replace had:=had.le hlf29;replace haf:=haf.le hlf29;replace hnil:=hnil.le hlf29;replace hxo11:=hxo11.le hlf29;replace hxo14:=hxo14.le hlf29;replace hxo15:=hxo15.le hlf29;replace hS:=hS.le hlf29;replace Fe26:=Fe26.le hlf29;replace hI28:=hI28.le hlf29;refine Jg (Jd rfl) rfl (Jf (JF (Ja (hK7 (Jb (Jg (Jc rfl) rfl (Jg (JC rfl rfl (by first | exact nw _ (by omega) | rfl)) rfl (Jg (Jd rfl) rfl (Jf (Ja ?_))))))))));exact hAg0 (Hf29,qf29,cf29,k+1) ⟨((hlk.trans hlf28).trans hlf29),by rw [csK_succ hk1];exact hI29,by rw [csK_succ hk1];exact hcc29,by omega⟩ (by show (clS ad af n).length - (k+1)<(clS ad af n).length - k;omega) 18 rfl rfl ⟨rfl,⟨(by rw [csK_succ hk1];rfl),trivial⟩⟩ rfl rfl
 ·
  refine JH (Jl (Jl (JQ (Ja (hK3 (Je fun _ hK8 _=>(Jb (Jg (Jc rfl) rfl (Jg (Jd rfl) rfl (Jf (Ja (hK8 (Js (Jq rfl (Res.tmp rfl) fun w hH=>?_))))))))))))));replace hH:=hH.tail
  have hke:k=(clS ad af n).length:=by omega
  rw [lfK_end hke] at hS hSc;exact ⟨_,q,c,(((hleo11.trans hleo14).trans hleo15).trans hlk),hS,hSc,by rw [lfK_end hke],hH⟩
theorem l03Classes_m {B:World} {H0 H:HP} {L:List SA} {w:World} {qad qaf:Option Addr} {cad caf:Nat} {ad:List Int} {af:List (List Term)} {n:Int} (had:Ints H qad ad) (haf:Forms H qaf af) (hG:isAlg ad af=true) (hn:0≤n∧n≤40) (hfit:fit3 ad n) (hH:Hp B H0 H L w) :
 Calls Tryz.prog 75 [.agg [.slice qad ad.length cad,.slice qaf af.length caf].toArray,.int .i64 n].toArray w fun e w'=>∃q c vs,e = .returned (.slice q (csS ad af n).length c)∧Hp B H0 H (mlt (RwK q c (csS ad af n)) H vs::L) w':=(l03Classes_c had haf hG hn hfit hH).mono fun e w' h=>by
 obtain ⟨H',q,c,hle,hI,hc,he,hH'⟩:=h
 obtain ⟨vs,h2⟩:=hH.melt (K:=RwK q c (csS ad af n)) hH' hle ⟨hI,hc⟩
 exact ⟨q,c,vs,he,h2⟩
theorem cfR_ok {ds:List Int} {n:Int} {M:Int} {s:Sm} (hs:Sok M s):RowOk (monL ds n).length ((monL ds n).map (cf s)):=⟨by simp,fun k=>by
 by_cases hk:k<(monL ds n).length
 ·have e:((monL ds n).map (cf s)).getD k 0=cf s (monL ds n)[k]:=by simp [List.getD_eq_getElem?_getD,List.getElem?_eq_getElem hk]
  rw [e]
  exact cf_bd hs _
 ·rw [getD_ge (by simp;omega)]
  omega⟩
theorem vec_mon {ds:List Int} {n:Int} {M:Int} {f:List Term} (h8:ds.length≤8) (hf:Sok M (toS f)) (hi : ∀x∈toS f,x.1∈monL ds n):vec f (monL ds n)=(monL ds n).map (cf (toS f)):=vec_cf hf.srt (monL_srt ds n h8) hi
def clK (ds:List Int) (fs:List (List Term)) (n:Int) (v:List Int) (k:Nat):List Int:=((csS ds fs n).take k).map fun r=>(byS v (bdS ds fs n)).getD (ldR r) 0
theorem clK_succ {ds:List Int} {fs:List (List Term)} {n:Int} {v:List Int} {k:Nat} (hk:k<(csS ds fs n).length):clK ds fs n v (k+1)=clK ds fs n v k++[(byS v (bdS ds fs n)).getD (ldR (rw_ (csS ds fs n) k)) 0]:=by
 unfold clK;rw [rw_take hk,List.map_append]
 rfl
theorem clK_end {ds:List Int} {fs:List (List Term)} {n:Int} {v:List Int} {k:Nat} (hk:k=(csS ds fs n).length):clK ds fs n v k=clV ds fs n v:=by
 subst hk;unfold clK clV;rw [List.take_length]
theorem clK_len {ds:List Int} {fs:List (List Term)} {n:Int} {v:List Int} {k:Nat} (hk:k≤(csS ds fs n).length):(clK ds fs n v k).length=k:=by
 unfold clK;rw [List.length_map,List.length_take]
 omega
theorem clV_len (ds:List Int) (fs:List (List Term)) (n:Int) (v:List Int):(clV ds fs n v).length=(csS ds fs n).length:=by simp [clV]
theorem l03Class_c {B:World} {H0 H:HP} {L:List SA} {w:World} {qad qaf:Option Addr} {cad caf:Nat} {ad:List Int} {af:List (List Term)} {n:Int} {qts:Option Addr} {cts:Nat} {ts:List Term} {M:Int} (had:Ints H qad ad) (haf:Forms H qaf af) (hts:Terms H qts ts) (hG:isAlg ad af=true) (hn:0≤n∧n≤40) (hfit:fit3 ad n) (hfl:ts.length≤1000000) (hfs:Sok M (toS ts)) (hfi : ∀x∈toS ts,x.1∈monL ad n) (hH:Hp B H0 H L w):Calls Tryz.prog 69 [.agg [.slice qad ad.length cad,.slice qaf af.length caf].toArray,.int .i64 n,.agg [.slice qts ts.length cts].toArray].toArray w fun e w'=>∃q c,e = .returned (.slice q (clV ad af n ((monL ad n).map (cf (toS ts)))).length c)∧Hp B H0 H (own 2 1 q (clV ad af n ((monL ad n).map (cf (toS ts)))).length c (intsC (clV ad af n ((monL ad n).map (cf (toS ts)))))::L) w':=by
 refine Jz Tryz.func69 rfl 43 rfl rfl [(0,.agg [.slice qad ad.length cad,.slice qaf af.length caf].toArray),(1,.int .i64 n),(2,.agg [.slice qts ts.length cts].toArray)] rfl hH ?_;have hw0:=hH.old;have hw1:=hH.le;clear hH;have hwf:=haf.wfss;have hA:=isAlg_ok hG hwf;have h8:=hA.hn;have hd:=alg_112 hG;have hml:=monL_len ad n;have hml1:=monL_len ad (n+1);have hclR:=clS_red (n:=n) hA h8 hd;have hbdR:=bdS_red (n:=n) hA h8 hd;have hcll:=clS_len (n:=n) hA h8 hd;have hbdl:=bdS_len (n:=n) hA h8 hd;have hcsR:=csS_red (n:=n) hA h8 hd;have hcsl:=csS_len (n:=n) hA h8 hd;have hmT0:=monT_L hfit.1.1;have hv:=vec_mon h8 hfs hfi;have hvo:=cfR_ok (ds:=ad) (n:=n) hfs;have hbo:=byS_ok hvo hbdR.row;have hbl:=hbo.len;refine Je fun _ hK1 _=>(Jb (Ee rfl rfl rfl fun g3=>(Ee rfl rfl rfl fun g5=>(Jg (Jd rfl) rfl (Jf (Ja (hK1 (Je fun _ hK2 _=>(Ej (Rs:=[_,_]) 11 [[], [], [1], [], [1,2,3], [0,1,2,3,4], [], [], [0,1,2,3,4,5,6,7], [0,1,2,3,4,5,6,7,8], [0,1,2,3,4,5,6,7,8,9]] [[11], [], [12], [], [], [4], [12], [], [], [], []] [[], [], [], [], [], [], [], [], [], [5,8], []] rfl rfl (by kernel_rfl) ?_)))))))));apply Jj 1 rfl
 iterate 3 focus (intros;(conv=>lhs;simp only [Jh,Jt,JN,Jv,JI,eq_self,reduceEqDiff,reduceIte,reduceSub,reduceAdd,JxA,JxB]);all_goals rfl)
 ·
  intro gh X K zq zc zq2 zc2 zb zv hK;refine Jg (Jx rfl At.z (by simpa [*] using ag39)) rfl (Ji ?_);exact hK zq zc zq2 zc2 zb zv
 ·
  intro gh gh' h
  rfl
 apply Jj 2 rfl
 iterate 3 focus (intros;(conv=>lhs;simp only [Jh,Jt,JN,Jv,JI,eq_self,reduceEqDiff,reduceIte,reduceSub,reduceAdd,JxA,JxB]);all_goals rfl)
 ·
  intro gh X K zq zc zq2 zc2 zb zv hK;refine Jg (Ju u35 rfl sz22 rfl) rfl (Ji ?_);exact hK zq zc zq2 zc2 zb zv
 ·
  intro gh gh' h
  rfl
 apply Jj 3 rfl
 iterate 3 focus (intros;(conv=>lhs;simp only [Jh,Jt,JN,Jv,JI,eq_self,reduceEqDiff,reduceIte,reduceSub,reduceAdd,JxA,JxB]);all_goals rfl)
 ·
  intro gh X K zq zc zq2 zc2 zb zv hK;refine Jg (Jy rfl At.z rfl pl22) rfl (Ji ?_);exact hK zq zc zq2 zc2 zb zv
 ·
  intro gh gh' h
  rfl
 apply Jj 4 rfl
 iterate 3 focus (intros;(conv=>lhs;simp only [Jh,Jt,JN,Jv,JI,eq_self,reduceEqDiff,reduceIte,reduceSub,reduceAdd,JxA,JxB]);all_goals rfl)
 ·
  intro gh X K zq zc zq2 zc2 zb zv hK;refine Jg (Jc rfl) rfl (Ji ?_);exact hK zq zc zq2 zc2 zb zv
 ·
  intro gh gh' h
  rfl
 apply Ea 5 rfl
 iterate 3 focus (intros;(conv=>lhs;simp only [Jh,Jt,JN,Jv,JI,eq_self,reduceEqDiff,reduceIte,reduceSub,reduceAdd,JxA,JxB]);all_goals rfl)
 ·
  intro gh X K zq zc zq2 zc2 zb zv hK;refine Jw fn66 rfl rfl fun w hH=>(l01Monomials_c had hd h8 (by omega) hH).mono ?_;rintro _ w ⟨qo15,co15,rfl,hH⟩;refine ⟨_,rfl,fun a hF=>JL hF hH ?_⟩;refine Ji ?_;exact hK qo15 co15 zq2 zc2 zb zv
 ·
  intro gh gh' h;refine ⟨?_,?_⟩ <;> rfl
 apply Ea 6 rfl
 iterate 3 focus (intros;(conv=>lhs;simp only [Jh,Jt,JN,Jv,JI,eq_self,reduceEqDiff,reduceIte,reduceSub,reduceAdd,JxA,JxB]);all_goals rfl)
 ·
  intro gh X K zq zc zq2 zc2 zb zv hK;refine Jw fn110 rfl rfl fun w hH=>hH.lend .z fun Hl1 hle1 hA1 hB1 hH=>(l03Vector_c (hts.le hle1) (own_monos (monT_8 h8) hA1) (by rw [hmT0];omega) (by omega) (by rw [hmT0];exact monL_mn h8) hH).mono ?_;rintro _ w ⟨qo16,co16,rfl,hH⟩;replace hH:=hB1 _ _ hH;refine ⟨_,rfl,fun a hF=>JL hF hH ?_⟩;refine Jr .z (Jr (.s .z) (Ji ?_));exact hK qo16 co16 zq2 zc2 zb zv
 ·
  intro gh gh' h;refine ⟨?_,?_⟩ <;> (first | simp only [h 4 rfl] | rfl)
 apply Jj 7 rfl
 iterate 3 focus (intros;(conv=>lhs;simp only [Jh,Jt,JN,Jv,JI,eq_self,reduceEqDiff,reduceIte,reduceSub,reduceAdd,JxA,JxB]);all_goals rfl)
 ·
  intro gh X K zq zc zq2 zc2 zb zv hK;refine Jg (Jx rfl At.z (by simpa [*] using ag35)) rfl (Ji ?_);exact hK zq zc zq2 zc2 zb zv
 ·
  intro gh gh' h
  rfl
 apply Jj 8 rfl
 iterate 3 focus (intros;(conv=>lhs;simp only [Jh,Jt,JN,Jv,JI,eq_self,reduceEqDiff,reduceIte,reduceSub,reduceAdd,JxA,JxB]);all_goals rfl)
 ·
  intro gh X K zq zc zq2 zc2 zb zv hK;refine Jg (Jc rfl) rfl (Ji ?_);exact hK zq zc zq2 zc2 zb zv
 ·
  intro gh gh' h
  rfl
 apply Ea 9 rfl
 iterate 3 focus (intros;(conv=>lhs;simp only [Jh,Jt,JN,Jv,JI,eq_self,reduceEqDiff,reduceIte,reduceSub,reduceAdd,JxA,JxB]);all_goals rfl)
 ·
  intro gh X K zq zc zq2 zc2 zb zv hK;refine Jw fn111 rfl rfl fun w hH=>(l03Bounds_m had haf hG (by omega) (fun h=>⟨hfit.2 h,by rw [Int.sub_add_cancel];exact hfit.1.1⟩) hH).mono ?_;rintro _ w ⟨qo19,co19,vso19,rfl,hH⟩;refine ⟨_,rfl,fun a hF=>JL hF hH ?_⟩;refine Ji ?_;exact hK qo19 co19 zq2 zc2 zb vso19
 ·
  intro gh gh' h;refine ⟨?_,?_⟩ <;> (first | simp only [h 4 rfl,h 5 rfl] | rfl)
 apply Ea 10 rfl
 iterate 3 focus (intros;(conv=>lhs;simp only [Jh,Jt,JN,Jv,JI,eq_self,reduceEqDiff,reduceIte,reduceSub,reduceAdd,JxA,JxB]);all_goals rfl)
 ·
  intro gh X K zq zc zq2 zc2 zb zv hK;refine Jw fn109 rfl rfl fun w hH=>(Hp.byM (by rw [hmT0,hv];exact hvo) hbdR.led (by omega) (by omega) ((hH.front .z).front (.s .z))).mono ?_;rintro _ w ⟨qo20,co20,vso20,rfl,hH⟩;refine ⟨_,rfl,fun a hF=>JL hF hH ?_⟩;refine Ji ?_;exact hK qo20 co20 zq2 zc2 zb vso20
 ·
  intro gh gh' h;refine ⟨?_,?_⟩ <;> (first | simp only [h 4 rfl,h 5 rfl,h 8 rfl] | rfl)
 apply Jj 11 rfl
 iterate 3 focus (intros;(conv=>lhs;simp only [Jh,Jt,JN,Jv,JI,eq_self,reduceEqDiff,reduceIte,reduceSub,reduceAdd,JxA,JxB]);all_goals rfl)
 ·
  intro gh X K zq zc zq2 zc2 zb zv hK;refine Jg (Jd rfl) rfl (Ji ?_);exact hK zq zc zq2 zc2 zb zv
 ·
  intro gh gh' h
  first | simp only [h 4 rfl,h 5 rfl,h 8 rfl,h 9 rfl] | rfl
 apply Ek [0,1,2,3,4,5,6,7,8,9,10] [0,1,2,3,4,6,7,9,10,11,12] foll0 rfl rfl rfl (by rfl)
 iterate 2 focus (intros;(conv=>lhs;simp only [Jh,Jt,JN,Jv,JI,eq_self,reduceEqDiff,reduceIte,reduceSub,reduceAdd,JxA,JxB]);all_goals rfl)
 intro gh;generalize (gh 4).c=co15;generalize (gh 4).q=qo15;generalize (gh 5).c=co16;generalize (gh 5).q=qo16;generalize (gh 8).c=co19;generalize (gh 8).q=qo19;generalize (gh 8).vs=vso19;generalize (gh 9).c=co20;generalize (gh 9).q=qo20;generalize (gh 9).vs=vso20;clear gh;refine EV .z fun Ho15 hleo15 hAo15=>?_;replace had:=had.le hleo15;replace haf:=haf.le hleo15;replace hts:=hts.le hleo15;have hxo15:=own_monos (monT_8 h8) hAo15;have hco15:=own_le hAo15;refine EV .z fun Ho20 hleo20 hAo20=>?_;replace had:=had.le hleo20;replace haf:=haf.le hleo20;replace hts:=hts.le hleo20;replace hxo15:=hxo15.le hleo20;obtain ⟨hxo20,hco20⟩:=mlt_ints (hleo15.trans hleo20) hAo20;rw [hmT0,hv] at hxo20 hco20 ⊢;refine Ja (hK2 (Je fun _ hK3 _=>(Jb (Jg (Jx rfl (.s .z) (by simpa [*] using ag35)) rfl (Jg (Jc rfl) rfl (Jw fn75 rfl rfl fun w hH=>(l03Classes_c had haf hG (by omega) hfit hH).mono ?_))))));rintro _ w ⟨Hf23,qf23,cf23,hlf23,hI23,hcc23,rfl,hH⟩;refine ⟨_,rfl,fun a hF=>JL hF hH ?_⟩;replace had:=had.le hlf23;replace haf:=haf.le hlf23;replace hts:=hts.le hlf23;replace hxo15:=hxo15.le hlf23;replace hxo20:=hxo20.le hlf23;refine EK (MK.lit0I u22 sz2) rfl fun qo24 co24=>(Jg (Jd rfl) rfl (Jg (Jd rfl) rfl (Jf (Ja (hK3 (Je fun _ hK4 _=>(Je fun _ hK5 _=>(Jb (Jg (Jd rfl) rfl (Jf (Ja (hK5 (Jn (JE (σ:=Option Addr × Nat × Nat) (fun ⟨q,c,k⟩=>[(10,.int .i64 (k:Int)),(9,.slice q (clK ad af n ((monL ad n).map (cf (toS ts))) k).length c)]) (fun ⟨q,c,k⟩=>Hf23) (fun ⟨q,c,k⟩=>own 2 1 q (clK ad af n ((monL ad n).map (cf (toS ts))) k).length c (intsC (clK ad af n ((monL ad n).map (cf (toS ts))) k))::obj g5 (.cells [.slice qts ts.length cts].toArray 39 (0,0))::obj g3 (.cells [.slice qad ad.length cad,.slice qaf af.length caf].toArray 35 (0,0))::L) (fun ⟨q,c,k⟩=>k≤(csS ad af n).length) (fun ⟨q,c,k⟩=>(csS ad af n).length - k) (qo24,co24,0) (by show 0≤_;omega) ⟨rfl,⟨rfl,trivial⟩⟩ rfl rfl ?_))))))))))))));rintro ⟨q,c,k⟩ hk _ hAg0;have hckl:=clK_len (v:=((monL ad n).map (cf (toS ts)))) hk;refine Je fun _ hK6 _=>(Je fun _ hK7 _=>(Jb (Jg (Jc rfl) rfl (Jg (Jc rfl) rfl (Jg (Jm u57 rfl rfl) rfl (Jg (JR rfl rfl) rfl (Jf (Ja (hK7 (Jp rfl (fun h28=>?_) (fun h28=>?_)))))))))))
 ·
  have hk1:k<(csS ad af n).length:=by omega
  have hrk:=hcsR.led _ (rw_mem hk1);have hrl:=hrk.1.len;have hld:=idxOf_ld (r:=rw_ (csS ad af n) k) (by omega);have hrle:=hrk.2;refine Jo (Ja (hK6 (Je fun _ hK8 _=>(Jn (Jb (Jg (Jc rfl) rfl (Jg (Jc rfl) rfl (Jg (Jc rfl) rfl (Jg (Jc rfl) rfl (Jg (JP u57 sz22 rfl rfl rfl hk1 hI23.sm) rfl ?_))))))))));obtain ⟨qe36,ce36,he36,le36,Fe36⟩:=hI23 k hk1;refine Jg (JB rfl he36 pl22) rfl (Jw fn108 rfl rfl fun w hH=>(l03First_c Fe36 (by omega) hH).mono ?_);rintro _ w ⟨rfl,hH⟩;refine ⟨_,rfl,fun a hF=>JL hF hH ?_⟩;rw [hld];refine Jg (JP u22 sz2 rfl rfl rfl (by omega) hxo20.sm) rfl (Jg (JB rfl (hxo20 _ (by omega)) pl2) rfl (EK (MK.lit1I u22 ze2 sz2 rfl) rfl fun qo40 co40=>(J.appendOI u22 ze2 sz2 by2 rfl rfl (by simp only [List.length_cons,List.length_nil];omega) .z At.z (fun _ _=>At.z) rfl fun qo41 co41=>(Jg (Jd rfl) rfl (Jf (JF (Ja (hK8 (Jb (Jg (Jc rfl) rfl (Jg (JC rfl rfl (by first | exact nw _ (by omega) | rfl)) rfl (Jg (Jd rfl) rfl (Jf (Ja (JK .z ?_)))))))))))))));exact hAg0 (qo41,co41,k+1) (by show k+1≤_;omega) (by show (csS ad af n).length - (k+1)<(csS ad af n).length - k;omega) 21 rfl rfl ⟨rfl,⟨(by rw [clK_succ hk1];rfl),trivial⟩⟩ rfl (by dsimp only;rw [clK_succ hk1])
 ·
  refine JH (Jl (Jl (JQ (Ja (hK4 (Je fun _ hK9 _=>(Jb (Jg (Jc rfl) rfl (Jg (Jd rfl) rfl (Jf (Ja (hK9 (Js (Jq rfl (Res.tmp rfl) fun w hH=>?_))))))))))))));replace hH:=hH.sublist (.cons_cons _ (.cons _ (.cons _ (List.Sublist.refl _))))
  have hke:k=(csS ad af n).length:=by omega
  rw [clK_end hke] at hH ⊢;exact ⟨_,_,rfl,hH.weaken ((hleo15.trans hleo20).trans hlf23) hw0 hw1⟩
theorem fn68:Fn Tryz.prog 68:=⟨_,Tryz.func68,by kernel_rfl,rfl⟩
theorem bd172_0_1 : ∀(p0:Option Addr) (b1:Nat) w,(Instr.build 172 #[(0,.pointer p0),(1,.map (some b1))]).run Tryz.prog w = .ok (.agg [.pointer p0,.map (some b1)].toArray) w:=fun p0 b1 _=>by kernel_rfl
theorem lvO_cell : ∀{ls:List (Int × Lv)} {x:Int × Lv} {h:HP},x∈ls→(lvO ls).holds h→(lvB x.2).holds h
 | [],_,_,hx,_=>by simp at hx
 | y::ls,x,h,hx,hh=>by
  rcases List.mem_cons.1 hx with rfl | hx
  ·exact hh.1
  ·exact lvO_cell hx hh.2.1
theorem cpx_cell {lb:Nat} {ls:List (Int × Lv)} {n:Int} {x:Lv} {h:HP} {k:Nat} {v:Value} (hx:(n,x)∈ls) (hh:(cpx lb ls).holds h) (hk:x.cells[k]? = some v):cellO h (some ⟨x.b,0,none⟩) k=some v:=obj_cell (lvO_cell hx hh.2.1) hk
section
variable {P : Program} {ops : Array Oper} {Q : Exit → Act → World → Prop} {n : Nat} {B : World} {H0 H : HP} {rest : List Oper} {us : List (Nat × Value)} {L L' : List SA} {t : TypeId} {p : String} {af : Array Edge} {d : Nat} {x y : Operand}
theorem PR.loadCx {ty:TypeId} {lb k b:Nat} {ls:List (Int × Lv)} {m:Int} {lv:Lv} {v:Value} (hx:opv us x=some (ptr (some ⟨b,0,none⟩) k)) (hat:At L (cpx lb ls) (cpx lb ls) L) (hm:(m,lv)∈ls) (hb:lv.b=b) (hk:lv.cells[k]? = some v) (hp:Plain P ty):PR P n B H0 us H L (.load ty x) t v:=
 fun c' w' d' b' a w hF hH=>by
  subst hb
  exact JB (H:=G.hp w) (L:=[]) (B:=w) (H0:=G.hp w) hx (cpx_cell hm (hH.objs _ hat.mem).1 hk) hp c' w' d' b' a w hF (Hp.start fun _ _ h=>h)
end
theorem Hp.cpx0 {B:World} {H0 H:HP} {L:List SA} {w:World} {lb:Nat} (h:Hp B H0 H (lvM lb []::L) w):Hp B H0 H (cpx lb []::L) w:=(h.emp.front (.s .z)).star
theorem monL_pok {ds:List Int} {n:Int} (h8:ds.length≤8) : ∀p∈monL ds n,Pok 20 p:=fun p hp=>mon_pok h8 (List.mem_of_mem_take hp)
theorem newComplex_c {B:World} {H0 H:HP} {L:List SA} {w:World} {ba:Nat} {qad qaf:Option Addr} {cad caf:Nat} {ad:List Int} {af:List (List Term)} (pad:CellAt H ba 0 (.slice qad ad.length cad)) (paf:CellAt H ba 1 (.slice qaf af.length caf)) (had:Ints H qad ad) (haf:Forms H qaf af) (hH:Hp B H0 H L w):Calls Tryz.prog 83 [.pointer (some ⟨ba,0,none⟩)].toArray w fun e w'=>∃H' b lc,Le H H' ∧CellAt H' b 0 (.pointer (some ⟨ba,0,none⟩))∧CellAt H' b 1 (.map (some lc))∧e = .returned (.pointer (some ⟨b,0,none⟩))∧Hp B H0 H' (cpx lc []::L) w':=by
 refine Jz Tryz.func83 rfl 7 rfl rfl [(0,.pointer (some ⟨ba,0,none⟩))] rfl hH ?_;clear hH;refine Je fun _ hK1 _=>(Jb (Jg (Jd rfl) rfl (Jf (Ja (hK1 (Je fun _ hK2 _=>(Jb (Jg (Jc rfl) rfl (EI ekI evB okI rfl fun bm4=>(Jg (EX rfl rfl (fun w=>bd172_0_1 _ _ w)) rfl (Ee rfl rfl rfl fun g6=>(ER .z fun H6 hle6 hc6=>?_))))))))))));replace pad:=pad.le hle6;replace paf:=paf.le hle6;replace had:=had.le hle6;replace haf:=haf.le hle6;refine Jg (Jd rfl) rfl (Jf (Ja (hK2 (Js (Jq rfl (Res.tmp rfl) fun w hH=>?_)))));replace hH:=hH.sublist (.cons_cons _ (List.Sublist.refl _));exact ⟨_,_,_,hle6,hc6 0 _ rfl,hc6 1 _ rfl,rfl,hH.cpx0⟩
theorem class_c {B:World} {H0 H:HP} {L:List SA} {w:World} {bc lc:Nat} {bca:Nat} {qcad qcaf:Option Addr} {ccad ccaf:Nat} {cad:List Int} {caf:List (List Term)} {lsc:List (Int × Lv)} {n:Int} {vs:Value} {Ms:Int} {s:Sm} (pc0:CellAt H bc 0 (.pointer (some ⟨bca,0,none⟩))) (pc1:CellAt H bc 1 (.map (some lc))) (pcad:CellAt H bca 0 (.slice qcad cad.length ccad)) (pcaf:CellAt H bca 1 (.slice qcaf caf.length ccaf)) (hcad:Ints H qcad cad) (hcaf:Forms H qcaf caf) (hs:SumH H vs s) (ks:Sok Ms s) (hGc:isAlg cad caf=true) (hn:0≤n∧n≤39) (hfit:fit3 cad n) (hCc:CpxOk H cad caf (fun _=>False) lsc) (hNc:Nxt (fun _=>False) lsc) (hM:Ms≤1000000) (hin : ∀x∈s,x.1∈monL cad n) (hH:Hp B H0 H (cpx lc lsc::L) w):Calls Tryz.prog 70 [.pointer (some ⟨bc,0,none⟩),.int .i64 n,vs].toArray w fun e w'=>∃H' ls' q c,Le H H' ∧CpxOk H' cad caf (fun _=>False) ls' ∧Nxt (fun _=>False) ls' ∧Kp lsc ls' ∧e = .returned (.slice q (clV cad caf n ((monL cad n).map (cf s))).length c)∧Hp B H0 H' (own 2 1 q (clV cad caf n ((monL cad n).map (cf s))).length c (intsC (clV cad caf n ((monL cad n).map (cf s))))::cpx lc ls'::L) w':=by
 refine Jz Tryz.func70 rfl 43 rfl rfl [(0,.pointer (some ⟨bc,0,none⟩)),(1,.int .i64 n),(2,vs)] rfl hH ?_;clear hH;have hwc:=hcaf.wfss;have hAc:=isAlg_ok hGc hwc;have h8c:=hAc.hn;have hdc:=alg_112 hGc;have hml:=monL_len cad n;have hcsR:=csS_red (n:=n) hAc h8c hdc;have hcsl:=csS_len (n:=n) hAc h8c hdc;have hbdR:=bdS_red (n:=n) hAc h8c hdc;have hbdl:=bdS_len (n:=n) hAc h8c hdc;have hclR:=clS_red (n:=n) hAc h8c hdc;have hcll:=clS_len (n:=n) hAc h8c hdc;have hvo:=cfR_ok (ds:=cad) (n:=n) ks;have hbo:=byS_ok hvo hbdR.row;have hbl:=hbo.len;refine Je fun _ hK1 _=>(Jb (Jg (Jd rfl) rfl (Jf (Ja (hK1 (Je fun _ hK2 _=>(Jb (Jg (Jc rfl) rfl (Jg (Jc rfl) rfl (Jw fn68 rfl rfl fun w hH=>(at_c pc0 pc1 pcad pcaf hcad hcaf hdc h8c (by omega) hAc hfit (fun m hm hf=>hom_of hGc hwc h8c hdc (by omega) hf) hCc hNc (hH.front .z)).mono ?_))))))))));rintro _ w ⟨Hf14,ls14,⟨b14,p14,⟨ql14,kl14,cl14⟩,⟨qm14,km14,cm14⟩,⟨qz14,kz14,cz14⟩,⟨qy14,ky14,cy14⟩,⟨qx14,kx14,cx14⟩⟩,hlf14,hC14,hN14,hx14,⟨hL14,hM14,hkp14⟩,rfl,hH⟩;refine ⟨_,rfl,fun a hF=>JL hF hH ?_⟩;replace pc0:=pc0.le hlf14;replace pc1:=pc1.le hlf14;replace pcad:=pcad.le hlf14;replace pcaf:=pcaf.le hlf14;replace hcad:=hcad.le hlf14;replace hcaf:=hcaf.le hlf14;replace hs:=hs.le hlf14;replace hCc:=hCc.le hlf14;obtain rfl:kl14=(monL cad (n)).length:=(hC14.ok _ hx14).one.len;have hpw14:Pows Hf14 ql14 (monL cad (n)):=(hC14.ok _ hx14).one.pw;have hpl14:SumH Hf14 (.map (some p14)) (plM (monL cad (n))):=(hC14.ok _ hx14).one.pl;obtain ⟨⟨e1,hz14⟩,⟨e2,hb14⟩,e3,hs14⟩:(kz14=(clS cad caf (n)).length∧RowsR Hf14 qz14 (clS cad caf (n)))∧(ky14=(bdS cad caf (n)).length∧RowsR Hf14 qy14 (bdS cad caf (n)))∧kx14=(csS cad caf (n)).length∧RowsR Hf14 qx14 (csS cad caf (n)):=hL14;subst e1 e2 e3;refine Jg (Jd rfl) rfl (Jf (Ja (hK2 (Je fun _ hK3 _=>(Ej (Rs:=[_]) 11 [[], [], [0,1], [], [3], [3,4], [3,4,5], [0,1,2,3,4,5,6], [], [0,1,2,3,4,5,6,7], [0,1,2,3,4,5,6,7,8,9]] [[], [], [11], [], [], [], [11], [2], [], [], []] [[], [], [], [], [], [], [], [], [], [], []] rfl rfl (by kernel_rfl) ?_)))));apply Jj 1 rfl
 iterate 3 focus (intros;(conv=>lhs;simp only [Jh,Jt,JN,Jv,JI,eq_self,reduceEqDiff,reduceIte,reduceSub,reduceAdd,JxA,JxB]);all_goals rfl)
 ·
  intro gh X K zq zc zq2 zc2 zb zv hK;refine Jg (Jc rfl) rfl (Ji ?_);exact hK zq zc zq2 zc2 zb zv
 ·
  intro gh gh' h
  rfl
 apply Jj 2 rfl
 iterate 3 focus (intros;(conv=>lhs;simp only [Jh,Jt,JN,Jv,JI,eq_self,reduceEqDiff,reduceIte,reduceSub,reduceAdd,JxA,JxB]);all_goals rfl)
 ·
  intro gh X K zq zc zq2 zc2 zb zv hK;refine Jg (Jc rfl) rfl (Ji ?_);exact hK zq zc zq2 zc2 zb zv
 ·
  intro gh gh' h
  rfl
 apply Ea 3 rfl
 iterate 3 focus (intros;(conv=>lhs;simp only [Jh,Jt,JN,Jv,JI,eq_self,reduceEqDiff,reduceIte,reduceSub,reduceAdd,JxA,JxB]);all_goals rfl)
 ·
  intro gh X K zq zc zq2 zc2 zb zv hK;refine Jw fn117 rfl rfl fun w hH=>hH.lend .z fun Hl1 hle1 hA1 hB1 hH=>(row_c (cpx_cell hx14 hA1 rfl) (cpx_cell hx14 hA1 rfl) (hs.le hle1) ks (hpw14.le hle1) (hpl14.le hle1) (monL_nodup h8c _) (by omega) hin (by omega) hH).mono ?_;rintro _ w ⟨qo17,co17,rfl,hH⟩;replace hH:=hB1 _ _ hH;refine ⟨_,rfl,fun a hF=>JL hF hH ?_⟩;refine Jr .z (Jr (.s .z) (Ji ?_));exact hK qo17 co17 zq2 zc2 zb zv
 ·
  intro gh gh' h;refine ⟨?_,?_⟩ <;> rfl
 apply Jj 4 rfl
 iterate 3 focus (intros;(conv=>lhs;simp only [Jh,Jt,JN,Jv,JI,eq_self,reduceEqDiff,reduceIte,reduceSub,reduceAdd,JxA,JxB]);all_goals rfl)
 ·
  intro gh X K zq zc zq2 zc2 zb zv hK;refine Jg (Jc rfl) rfl (Ji ?_);exact hK zq zc zq2 zc2 zb zv
 ·
  intro gh gh' h
  rfl
 apply Jj 5 rfl
 iterate 3 focus (intros;(conv=>lhs;simp only [Jh,Jt,JN,Jv,JI,eq_self,reduceEqDiff,reduceIte,reduceSub,reduceAdd,JxA,JxB]);all_goals rfl)
 ·
  intro gh X K zq zc zq2 zc2 zb zv hK;refine Jg (JG rfl) rfl (Ji ?_);exact hK zq zc zq2 zc2 zb zv
 ·
  intro gh gh' h
  rfl
 apply Jj 6 rfl
 iterate 3 focus (intros;(conv=>lhs;simp only [Jh,Jt,JN,Jv,JI,eq_self,reduceEqDiff,reduceIte,reduceSub,reduceAdd,JxA,JxB]);all_goals rfl)
 ·
  intro gh X K zq zc zq2 zc2 zb zv hK;refine Jg (Ju u95 rfl sz57 rfl) rfl (Ji ?_);exact hK zq zc zq2 zc2 zb zv
 ·
  intro gh gh' h
  rfl
 apply Jj 7 rfl
 iterate 3 focus (intros;(conv=>lhs;simp only [Jh,Jt,JN,Jv,JI,eq_self,reduceEqDiff,reduceIte,reduceSub,reduceAdd,JxA,JxB]);all_goals rfl)
 ·
  intro gh X K zq zc zq2 zc2 zb zv hK;refine Jg (PR.loadCx (b:=b14) (k:=4) (v:=.slice qy14 (bdS cad caf (n)).length cy14) rfl At.z hx14 rfl rfl pl57) rfl (Ji ?_);exact hK zq zc zq2 zc2 zb zv
 ·
  intro gh gh' h
  rfl
 apply Ea 8 rfl
 iterate 3 focus (intros;(conv=>lhs;simp only [Jh,Jt,JN,Jv,JI,eq_self,reduceEqDiff,reduceIte,reduceSub,reduceAdd,JxA,JxB]);all_goals rfl)
 ·
  intro gh X K zq zc zq2 zc2 zb zv hK;refine Jw fn116 rfl rfl fun w hH=>hH.lend .z fun Hl1 hle1 hA1 hB1 hH=>(reduceBy_c (own_ints hA1) (hb14.le hle1) (hvo) hbdR.led (by omega) (by omega) hH).mono ?_;rintro _ w ⟨qo22,co22,rfl,hH⟩;replace hH:=hB1 _ _ hH;refine ⟨_,rfl,fun a hF=>JL hF hH ?_⟩;refine Jr .z (Jr (.s .z) (Ji ?_));exact hK qo22 co22 zq2 zc2 zb zv
 ·
  intro gh gh' h;refine ⟨?_,?_⟩ <;> (first | simp only [h 2 rfl] | rfl)
 apply Ea 9 rfl
 iterate 3 focus (intros;(conv=>lhs;simp only [Jh,Jt,JN,Jv,JI,eq_self,reduceEqDiff,reduceIte,reduceSub,reduceAdd,JxA,JxB]);all_goals rfl)
 ·
  intro gh X K zq zc zq2 zc2 zb zv hK;refine EK (MK.lit0I u22 sz2) rfl fun qo23 co23=>(Ji ?_);exact hK qo23 co23 zq2 zc2 zb zv
 ·
  intro gh gh' h;refine ⟨?_,?_⟩ <;> rfl
 apply Jj 10 rfl
 iterate 3 focus (intros;(conv=>lhs;simp only [Jh,Jt,JN,Jv,JI,eq_self,reduceEqDiff,reduceIte,reduceSub,reduceAdd,JxA,JxB]);all_goals rfl)
 ·
  intro gh X K zq zc zq2 zc2 zb zv hK;refine Jg (Jd rfl) rfl (Ji ?_);exact hK zq zc zq2 zc2 zb zv
 ·
  intro gh gh' h
  first | simp only [h 2 rfl,h 7 rfl] | rfl
 apply Jj 11 rfl
 iterate 3 focus (intros;(conv=>lhs;simp only [Jh,Jt,JN,Jv,JI,eq_self,reduceEqDiff,reduceIte,reduceSub,reduceAdd,JxA,JxB]);all_goals rfl)
 ·
  intro gh X K zq zc zq2 zc2 zb zv hK;refine Jg (Jd rfl) rfl (Ji ?_);exact hK zq zc zq2 zc2 zb zv
 ·
  intro gh gh' h
  first | simp only [h 2 rfl,h 7 rfl,h 8 rfl] | rfl
 apply Ek [0,1,2,3,4,5,6,7,8,9,10] [0,1,2,3,4,5,6,7,8,9,10,11] foll0 rfl rfl rfl (by rfl)
 iterate 2 focus (intros;(conv=>lhs;simp only [Jh,Jt,JN,Jv,JI,eq_self,reduceEqDiff,reduceIte,reduceSub,reduceAdd,JxA,JxB]);all_goals rfl)
 intro gh;generalize (gh 2).c=co17;generalize (gh 2).q=qo17;generalize (gh 7).c=co22;generalize (gh 7).q=qo22;generalize (gh 8).c=co23;generalize (gh 8).q=qo23;clear gh;refine Ja (hK3 (Je fun _ hK4 _=>(Je fun _ hK5 _=>(Jb (Jg (Jc rfl) rfl (Jg (JG rfl) rfl (Jg (Ju u95 rfl sz57 rfl) rfl (Jg (PR.loadCx (b:=b14) (k:=5) (v:=.slice qx14 (csS cad caf (n)).length cx14) rfl (.s (.s (.s .z))) hx14 rfl rfl pl57) rfl (Jg (Jm u57 rfl rfl) rfl (Jg (Jc rfl) rfl (Jf (Ja (hK5 (Jn (JE (σ:=Option Addr × Nat × Nat) (fun ⟨q,c,k⟩=>[(29,.int .i64 (k:Int)),(9,.slice q (clK cad caf n ((monL cad n).map (cf s)) k).length c)]) (fun ⟨q,c,k⟩=>Hf14) (fun ⟨q,c,k⟩=>own 2 1 qo17 ((monL cad n).map (cf s)).length co17 (intsC ((monL cad n).map (cf s)))::own 2 1 qo22 (byS ((monL cad n).map (cf s)) (bdS cad caf n)).length co22 (intsC (byS ((monL cad n).map (cf s)) (bdS cad caf n)))::own 2 1 q (clK cad caf n ((monL cad n).map (cf s)) k).length c (intsC (clK cad caf n ((monL cad n).map (cf s)) k))::cpx lc ls14::L) (fun ⟨q,c,k⟩=>k≤(csS cad caf n).length) (fun ⟨q,c,k⟩=>(csS cad caf n).length - k) (qo23,co23,0) (by show 0≤_;omega) ⟨rfl,⟨rfl,trivial⟩⟩ rfl rfl ?_)))))))))))))));rintro ⟨q,c,k⟩ hk _ hAg0;have hckl:=clK_len (ds:=cad) (fs:=caf) (v:=((monL cad n).map (cf s))) hk;refine Je fun _ hK6 _=>(Jb (Jg (JR rfl rfl) rfl (Jf (Ja (hK6 (Je fun _ hK7 _=>(Jp rfl (fun h30=>?_) (fun h30=>?_))))))))
 ·
  have hk1:k<(csS cad caf n).length:=by omega
  have hrk:=hcsR.led _ (rw_mem hk1);have hrl:=hrk.1.len;have hld:=idxOf_ld (r:=rw_ (csS cad caf n) k) (by omega);have hrle:=hrk.2;refine Jo (Ja (hK7 (Je fun _ hK8 _=>(Jn (Je fun _ hK9 _=>(Jb (Jg (JP u57 sz22 rfl rfl rfl hk1 hs14.sm) rfl ?_)))))));obtain ⟨qe32,ce32,he32,le32,Fe32⟩:=hs14 k hk1;refine Jg (JB rfl he32 pl22) rfl (Jg (Jd rfl) rfl (Jf (Ja (hK9 (Jb (Jg (Jc rfl) rfl (Jg (Jc rfl) rfl (Jg (Jc rfl) rfl (Jw fn125 rfl rfl fun w hH=>(lead_c Fe32 (by omega) hH).mono ?_)))))))));rintro _ w ⟨rfl,hH⟩;refine ⟨_,rfl,fun a hF=>JL hF hH ?_⟩;rw [hld];refine Jg (Es u22 sz2 rfl rfl rfl (by omega) (.s .z)) rfl (Jg (EE rfl (.s .z) (intsC_get (by omega)) pl2) rfl (EK (MK.lit1I u22 ze2 sz2 rfl) rfl fun qo39 co39=>(J.appendOI u22 ze2 sz2 by2 rfl rfl (by simp only [List.length_cons,List.length_nil];omega) .z (.s (.s .z)) (fun _ _=>(.s (.s .z))) rfl fun qo40 co40=>(Jg (Jd rfl) rfl (Jf (JF (Ja (hK8 (Jb (Jg (JC rfl rfl (by first | exact nw _ (by omega) | rfl)) rfl (Jg (Jc rfl) rfl (Jf (Ja (JK .z ?_))))))))))))));exact hAg0 (qo40,co40,k+1) (by show k+1≤_;omega) (by show (csS cad caf n).length - (k+1)<(csS cad caf n).length - k;omega) 17 rfl rfl ⟨rfl,⟨(by rw [clK_succ hk1];rfl),trivial⟩⟩ rfl (by dsimp only;rw [clK_succ hk1])
 ·
  refine JH (Jl (Jl (JQ (Ja (hK4 (Je fun _ hK10 _=>(Jb (Jg (Jc rfl) rfl (Jg (Jd rfl) rfl (Jf (Ja (hK10 (Js (Jq rfl (Res.tmp rfl) fun w hH=>?_))))))))))))));replace hH:=hH.sublist (.cons _ (.cons _ (.cons_cons _ (.cons_cons _ (List.Sublist.refl _)))))
  have hke:k=(csS cad caf n).length:=by omega
  rw [clK_end hke] at hH ⊢;exact ⟨_,_,_,_,hlf14,hC14,hN14,hkp14,rfl,hH⟩
theorem fn83:Fn Tryz.prog 83:=⟨_,Tryz.func83,by kernel_rfl,rfl⟩
theorem ar_wi (ds:List Int) (fs:List (List Term)) (hG:isAlg ds fs=true) (n:Int):arB ds n=wiB ds (n - 1) (n+1):=by
 cases h:wiB ds (n - 1) (n+1) with
 | true=>
  unfold arB;rw [wi_fit' hG h (by omega) (by omega),wi_fit' hG h (by omega) (by omega),wi_fit' hG h (by omega) (by omega)]
  rfl
 | false=>
  cases h2:arB ds n with
  | false=>rfl
  | true=>
   exfalso
   unfold arB at h2;simp only [Bool.and_eq_true] at h2;rw [wiB_yes fun k hk=>?_] at h
   ·cases h
   ·rcases (show max (n - 1) 0+(k:Int)=n - 1∨max (n - 1) 0+(k:Int)=n∨max (n - 1) 0+(k:Int)=n+1 by omega) with e | e | e <;> rw [e]
    ·exact h2.1
    ·exact h2.2.1
    ·exact h2.2.2
theorem fn69:Fn Tryz.prog 69:=⟨_,Tryz.func69,by kernel_rfl,rfl⟩
theorem fn70:Fn Tryz.prog 70:=⟨_,Tryz.func70,by kernel_rfl,rfl⟩
theorem fn129:Fn Tryz.prog 129:=⟨_,Tryz.func129,by kernel_rfl,rfl⟩
theorem fn172:Fn Tryz.prog 172:=⟨_,Tryz.func172,by kernel_rfl,rfl⟩
def fmR (ps:List Pw) (rs:List (List Int)):List (List Term):=rs.map (fmS ps)
def fmRK (ps:List Pw) (rs:List (List Int)) (k:Nat):List (List Term):=(rs.take k).map (fmS ps)
theorem fmRK_len {ps:List Pw} {rs:List (List Int)} {k:Nat} (hk:k≤rs.length):(fmRK ps rs k).length=k:=by
 unfold fmRK;rw [List.length_map,List.length_take]
 omega
theorem fmRK_succ {ps:List Pw} {rs:List (List Int)} {k:Nat} (hk:k<rs.length):fmRK ps rs (k+1)=fmRK ps rs k++[fmS ps (rw_ rs k)]:=by
 unfold fmRK;rw [rw_take hk,List.map_append]
 rfl
theorem fmRK_end {ps:List Pw} {rs:List (List Int)} {k:Nat} (hk:k=rs.length):fmRK ps rs k=fmR ps rs:=by
 subst hk;unfold fmRK fmR;rw [List.take_length]
@[simp] theorem fmR_len (ps:List Pw) (rs:List (List Int)):(fmR ps rs).length=rs.length:=by simp [fmR]
theorem fmR_at {ps:List Pw} {rs:List (List Int)} {k:Nat} (hk:k<rs.length):fm (fmR ps rs) k=fmS ps (rw_ rs k):=by
 simp [fm,fmR,rw_,List.getD_eq_getElem?_getD,List.getElem?_eq_getElem hk]
theorem fmR_wf {W:Nat} {ps:List Pw} {rs:List (List Int)} (hp : ∀p∈ps,Mono p) (hr : ∀r∈rs,RowOk W r):Wfss (fmR ps rs):=fun f hf=>by
 obtain ⟨r,hr',rfl⟩:=List.mem_map.1 hf
 exact fmK_wf hp (hr r hr').val (Nat.le_refl _)
theorem fmS_len (ps:List Pw) (row:List Int):(fmS ps row).length≤ps.length:=fmK_len ps row _
theorem fmS_mon {ds:List Int} {n:Int} {row:List Int} (h8:ds.length≤8) (hr:RowOk (monL ds n).length row):toS (fmS (monL ds n) row)=sumR (monL ds n) row:=by
 rw [fmS_sum (M:=20) (monL_srt ds n h8) (monL_pok h8) hr.val hr.len,toS_ofS]
theorem sumR_mon {ds:List Int} {n:Int} {row:List Int} (h8:ds.length≤8) (hr:row.length≤(monL ds n).length):Sok 20 (sumR (monL ds n) row):=sumR_sok (monL_pok h8) hr
theorem sumR_key {ps:List Pw} {row:List Int} (hr:row.length≤ps.length) : ∀x∈sumR ps row,x.1∈ps:=fun x hx=>by
 rcases acc_mem hx with h | ⟨y,hy,e⟩
 ·simp at h
 ·obtain ⟨i,hi,rfl⟩:=List.mem_map.1 hy
  rw [e]
  exact rw_mem (by have:=List.mem_range.1 hi;omega)
theorem monL_wt {ds:List Int} {n:Int} (h8:ds.length≤8) : ∀p∈monL ds n,wsum ds p ds.length=n:=fun p hp=>mon_wt h8 (List.mem_of_mem_take hp)
theorem l03Forms_c {B:World} {H0 H:HP} {L:List SA} {w:World} {qrs:Option Addr} {crs:Nat} {rs:List (List Int)} {qps:Option Addr} {cps:Nat} {ps:List (List Int)} {W:Nat} (hrs:RowsR H qrs rs) (hps:Monos H qps ps) (hW : ∀r∈rs,RowOk ps.length r) (hn:rs.length≤1000000) (hpn:ps.length≤1000000) (hpm : ∀p∈ps,Mono p) (hH:Hp B H0 H L w):Calls Tryz.prog 129 [.slice qrs rs.length crs,.slice qps ps.length cps].toArray w fun e w'=>∃q c vs,e = .returned (.slice q (fmR ps rs).length c)∧Hp B H0 H (ownFs 39 152 q c vs (fmR ps rs)::L) w':=by
 refine Jz Tryz.func129 rfl 24 rfl rfl [(0,.slice qrs rs.length crs),(1,.slice qps ps.length cps)] rfl hH ?_;clear hH;refine Je fun _ hK1 _=>(Jb (Jg (Jd rfl) rfl (Jf (Ja (hK1 (Je fun _ hK2 _=>(Jb (EK (EP u33 sz39) rfl fun qo7 co7=>(J.ts0 152 (Jg (Jd rfl) rfl (Jf (Ja (hK2 (Je fun _ hK3 _=>(Je fun _ hK4 _=>(Jb ?_))))))))))))))));refine Jg (Jd rfl) rfl (Jf (Ja (hK4 (Jn (JE (σ:=Option Addr × Nat × Vs × Nat) (fun ⟨q,c,vs,k⟩=>[(6,.int .i64 (k:Int)),(5,.slice q k c)]) (fun ⟨q,c,vs,k⟩=>H) (fun ⟨q,c,vs,k⟩=>ownTs 152 vs (fmRK ps rs k)::own 39 1 q k c (slicesC vs (fmRK ps rs k))::L) (fun ⟨q,c,vs,k⟩=>k≤rs.length) (fun ⟨q,c,vs,k⟩=>rs.length - k) (qo7,co7,nilVs,0) (by show 0≤rs.length;omega) ⟨rfl,⟨rfl,trivial⟩⟩ rfl rfl ?_)))));rintro ⟨q,c,vs,k⟩ hk _ hAg0;refine Je fun _ hK5 _=>(Je fun _ hK6 _=>(Jb (Jg (Jc rfl) rfl (Jg (Jc rfl) rfl (Jg (Jm u57 rfl rfl) rfl (Jg (JR rfl rfl) rfl (Jf (Ja (hK6 (Jp rfl (fun h11=>?_) (fun h11=>?_)))))))))))
 ·
  have hk1:k<rs.length:=by omega
  have hrk:=hW _ (rw_mem hk1);refine Jo (Ja (hK5 (Je fun _ hK7 _=>(Jn (Jb (Jg (Jc rfl) rfl (Jg (Jc rfl) rfl (Jg (Jc rfl) rfl (Jg (JP u57 sz22 rfl rfl rfl hk1 hrs.sm) rfl ?_)))))))));obtain ⟨qe18,ce18,he18,le18,Fe18⟩:=hrs k hk1;refine Jg (JB rfl he18 pl22) rfl (Jg (Jc rfl) rfl (Jw fn172 rfl rfl fun w hH=>(l03Form_c Fe18 hps hrk.len hpn hpm hrk.val hH).mono ?_));rintro _ w ⟨qo20,co20,rfl,hH⟩;refine ⟨_,rfl,fun a hF=>JL hF hH ?_⟩;refine EK (EM u33 ze39 sz39 rfl rfl) rfl fun qo21 co21=>(EF u33 ze39 sz39 by39 rfl rfl rfl rfl (by omega) .z (.s (.s .z)) (fun _ _=>(.s (.s .z))) rfl fun qo22 co22=>(Jg (Jd rfl) rfl (Jf (JF (Ja (hK7 (Jb (Jg (Jc rfl) rfl (Jg (JC rfl rfl (by first | exact nw _ (by omega) | rfl)) rfl (Jg (Jd rfl) rfl (Jf (Ja (Jr (.s (.s (.s .z))) (Jr (.s .z) (Jr (.s (.s (.s .z))) ?_)))))))))))))));refine Jr (.s (.s (.s .z))) (EJ.fsSnoc (fs:=fmRK ps rs k) (fmRK_len hk) rfl (JK (.s .z) ?_));exact hAg0 (qo22,co22,setV vs k (qo20,co20),k+1) (by show k+1≤rs.length;omega) (by show rs.length - (k+1)<rs.length - k;omega) 19 rfl rfl ⟨rfl,⟨rfl,trivial⟩⟩ rfl (by dsimp only;rw [fmRK_succ hk1,slicesC_set (fmRK_len hk)])
 ·
  refine JH (Jl (Jl (JQ (Ja (hK3 (Je fun _ hK8 _=>(Jb (Jg (Jc rfl) rfl (Jg (Jd rfl) rfl (Jf (Ja (hK8 (Js (Jq rfl (Res.tmp rfl) fun w hH=>?_))))))))))))));replace hH:=hH.sublist (.cons_cons _ (.cons_cons _ (List.Sublist.refl _)))
  have hke:k=rs.length:=by omega
  rw [fmRK_end hke] at hH;exact ⟨q,c,vs,by rw [fmR_len,hke],by unfold ownFs;rw [fmR_len,← hke];exact (hH.front (.s .z)).star⟩
theorem l03ClassForms_c {B:World} {H0 H:HP} {L:List SA} {w:World} {qad qaf:Option Addr} {cad caf:Nat} {ad:List Int} {af:List (List Term)} {n:Int} (had:Ints H qad ad) (haf:Forms H qaf af) (hG:isAlg ad af=true) (hn:0≤n∧n≤40) (hfit:fit3 ad n) (hH:Hp B H0 H L w):Calls Tryz.prog 76 [.agg [.slice qad ad.length cad,.slice qaf af.length caf].toArray,.int .i64 n].toArray w fun e w'=>∃q c vs,e = .returned (.slice q (fmR (monL ad n) (csS ad af n)).length c)∧Hp B H0 H (ownFs 39 152 q c vs (fmR (monL ad n) (csS ad af n))::L) w':=by
 refine Jz Tryz.func76 rfl 13 rfl rfl [(0,.agg [.slice qad ad.length cad,.slice qaf af.length caf].toArray),(1,.int .i64 n)] rfl hH ?_;have hw0:=hH.old;have hw1:=hH.le;clear hH;have hwf:=haf.wfss;have hA:=isAlg_ok hG hwf;have h8:=hA.hn;have hd:=alg_112 hG;have hml:=monL_len ad n;have hml1:=monL_len ad (n+1);have hclR:=clS_red (n:=n) hA h8 hd;have hbdR:=bdS_red (n:=n) hA h8 hd;have hcll:=clS_len (n:=n) hA h8 hd;have hbdl:=bdS_len (n:=n) hA h8 hd;have hcsR:=csS_red (n:=n) hA h8 hd;have hcsl:=csS_len (n:=n) hA h8 hd;have hmT0:=monT_L hfit.1.1;refine Je fun _ hK1 _=>(Jb (Ee rfl rfl rfl fun g2=>(Jg (Jd rfl) rfl (Jf (Ja (hK1 (Je fun _ hK2 _=>(Ej (Rs:=[_]) 9 [[], [], [0,1], [], [3], [], [0,1,2,3,4,5], [0,1,2,3,4,5,6], [0,1,2,3,4,5,6,7]] [[9], [], [], [], [9], [], [], [2,6], []] [[], [], [], [], [], [], [], [], []] rfl rfl (by kernel_rfl) ?_))))))));apply Jj 1 rfl
 iterate 3 focus (intros;(conv=>lhs;simp only [Jh,Jt,JN,Jv,JI,eq_self,reduceEqDiff,reduceIte,reduceSub,reduceAdd,JxA,JxB]);all_goals rfl)
 ·
  intro gh X K zq zc zq2 zc2 zb zv hK;refine Jg (Jx rfl At.z (by simpa [*] using ag35)) rfl (Ji ?_);exact hK zq zc zq2 zc2 zb zv
 ·
  intro gh gh' h
  rfl
 apply Jj 2 rfl
 iterate 3 focus (intros;(conv=>lhs;simp only [Jh,Jt,JN,Jv,JI,eq_self,reduceEqDiff,reduceIte,reduceSub,reduceAdd,JxA,JxB]);all_goals rfl)
 ·
  intro gh X K zq zc zq2 zc2 zb zv hK;refine Jg (Jc rfl) rfl (Ji ?_);exact hK zq zc zq2 zc2 zb zv
 ·
  intro gh gh' h
  rfl
 apply Ea 3 rfl
 iterate 3 focus (intros;(conv=>lhs;simp only [Jh,Jt,JN,Jv,JI,eq_self,reduceEqDiff,reduceIte,reduceSub,reduceAdd,JxA,JxB]);all_goals rfl)
 ·
  intro gh X K zq zc zq2 zc2 zb zv hK;refine Jw fn75 rfl rfl fun w hH=>(l03Classes_m had haf hG (by omega) hfit hH).mono ?_;rintro _ w ⟨qo7,co7,vso7,rfl,hH⟩;refine ⟨_,rfl,fun a hF=>JL hF hH ?_⟩;refine Ji ?_;exact hK qo7 co7 zq2 zc2 zb vso7
 ·
  intro gh gh' h;refine ⟨?_,?_⟩ <;> rfl
 apply Jj 4 rfl
 iterate 3 focus (intros;(conv=>lhs;simp only [Jh,Jt,JN,Jv,JI,eq_self,reduceEqDiff,reduceIte,reduceSub,reduceAdd,JxA,JxB]);all_goals rfl)
 ·
  intro gh X K zq zc zq2 zc2 zb zv hK;refine Jg (Ju u35 rfl sz22 rfl) rfl (Ji ?_);exact hK zq zc zq2 zc2 zb zv
 ·
  intro gh gh' h
  rfl
 apply Jj 5 rfl
 iterate 3 focus (intros;(conv=>lhs;simp only [Jh,Jt,JN,Jv,JI,eq_self,reduceEqDiff,reduceIte,reduceSub,reduceAdd,JxA,JxB]);all_goals rfl)
 ·
  intro gh X K zq zc zq2 zc2 zb zv hK;refine Jg (Jy rfl At.z rfl pl22) rfl (Ji ?_);exact hK zq zc zq2 zc2 zb zv
 ·
  intro gh gh' h
  rfl
 apply Jj 6 rfl
 iterate 3 focus (intros;(conv=>lhs;simp only [Jh,Jt,JN,Jv,JI,eq_self,reduceEqDiff,reduceIte,reduceSub,reduceAdd,JxA,JxB]);all_goals rfl)
 ·
  intro gh X K zq zc zq2 zc2 zb zv hK;refine Jg (Jc rfl) rfl (Ji ?_);exact hK zq zc zq2 zc2 zb zv
 ·
  intro gh gh' h
  rfl
 apply Ea 7 rfl
 iterate 3 focus (intros;(conv=>lhs;simp only [Jh,Jt,JN,Jv,JI,eq_self,reduceEqDiff,reduceIte,reduceSub,reduceAdd,JxA,JxB]);all_goals rfl)
 ·
  intro gh X K zq zc zq2 zc2 zb zv hK;refine Jw fn66 rfl rfl fun w hH=>(l01Monomials_c had hd h8 (by omega) hH).mono ?_;rintro _ w ⟨qo11,co11,rfl,hH⟩;refine ⟨_,rfl,fun a hF=>JL hF hH ?_⟩;refine Ji ?_;exact hK qo11 co11 zq2 zc2 zb zv
 ·
  intro gh gh' h;refine ⟨?_,?_⟩ <;> (first | simp only [h 2 rfl] | rfl)
 apply Ea 8 rfl
 iterate 3 focus (intros;(conv=>lhs;simp only [Jh,Jt,JN,Jv,JI,eq_self,reduceEqDiff,reduceIte,reduceSub,reduceAdd,JxA,JxB]);all_goals rfl)
 ·
  intro gh X K zq zc zq2 zc2 zb zv hK;refine Jw fn129 rfl rfl fun w hH=>hH.lend .z fun Hl1 hle1 hA1 hB1 hH=>hH.lend .z fun Hl2 hle2 hA2 hB2 hH=>(l03Forms_c (W:=0) ((mlt_rows hle1 hA1).1.le hle2) (own_monos (monT_8 h8) hA2) (by rw [hmT0];exact hcsR.row) (by omega) (by rw [hmT0];omega) (by rw [hmT0];exact monL_mn h8) hH).mono ?_;rintro _ w ⟨qo12,co12,vso12,rfl,hH⟩;replace hH:=hB2 _ _ hH;replace hH:=hB1 _ _ hH;refine ⟨_,rfl,fun a hF=>JL hF hH ?_⟩;refine Jr (.s .z) (Jr (.s .z) (Jr (.s (.s .z)) (Ji ?_)));exact hK qo12 co12 zq2 zc2 zb vso12
 ·
  intro gh gh' h;refine ⟨?_,?_⟩ <;> (first | simp only [h 2 rfl,h 6 rfl] | rfl)
 apply Jj 9 rfl
 iterate 3 focus (intros;(conv=>lhs;simp only [Jh,Jt,JN,Jv,JI,eq_self,reduceEqDiff,reduceIte,reduceSub,reduceAdd,JxA,JxB]);all_goals rfl)
 ·
  intro gh X K zq zc zq2 zc2 zb zv hK;refine Jg (Jd rfl) rfl (Ji ?_);exact hK zq zc zq2 zc2 zb zv
 ·
  intro gh gh' h
  first | simp only [h 2 rfl,h 6 rfl,h 7 rfl] | rfl
 apply Ek [0,1,2,3,4,5,6,7,8] [0,1,2,3,4,5,6,7,8,9] foll0 rfl rfl rfl (by rfl)
 iterate 2 focus (intros;(conv=>lhs;simp only [Jh,Jt,JN,Jv,JI,eq_self,reduceEqDiff,reduceIte,reduceSub,reduceAdd,JxA,JxB]);all_goals rfl)
 intro gh;generalize (gh 2).c=co7;generalize (gh 2).q=qo7;generalize (gh 2).vs=vso7;generalize (gh 6).c=co11;generalize (gh 6).q=qo11;generalize (gh 7).c=co12;generalize (gh 7).q=qo12;generalize (gh 7).vs=vso12;clear gh;refine Ja (hK2 (Js (Jq rfl (Res.tmp rfl) fun w hH=>?_)));replace hH:=hH.sublist (.cons _ (.cons _ (.cons_cons _ (.cons _ (List.Sublist.refl _)))));rw [hmT0] at hH ⊢;exact ⟨_,_,_,rfl,hH⟩
theorem fn137:Fn Tryz.prog 137:=⟨_,Tryz.func137,by kernel_rfl,rfl⟩
theorem fn79:Fn Tryz.prog 79:=⟨_,Tryz.func79,by kernel_rfl,rfl⟩
theorem fn87:Fn Tryz.prog 87:=⟨_,Tryz.func87,by kernel_rfl,rfl⟩
section
variable {ds : List Int} {fs : List (List Term)} {n i m j : Int}
def pcA (n i m j:Int):Bool:=!decide (i<0) && (!decide (j<0) && (askB n && (askB m && askB (n+m))))
def pc1 (ds:List Int) (fs:List (List Term)) (n i m j:Int):Int:=if isAlg ds fs then if pcA n i m j then 0 else 2 else 1
theorem ar_fit3 (h:arB ds n=true):fit3 ds n:=by
 unfold arB at h;simp only [Bool.and_eq_true] at h;exact ⟨h.2,fun _=>h.1⟩
end
theorem isAsked_c {B:World} {H0 H:HP} {L:List SA} {w:World} {n:Int} (hH:Hp B H0 H L w):Calls Tryz.prog 87 [.int .i64 n].toArray w fun e w'=>e = .returned (.bool (askB n))∧Hp B H0 H L w':=by
 refine Jz Tryz.func87 rfl 5 rfl rfl [(0,.int .i64 n)] rfl hH ?_;clear hH;refine Je fun _ hK1 _=>(Jb (Jg (Jd rfl) rfl (Jf (Ja (hK1 (Je fun _ hK2 _=>(Jb (Jg (Jc rfl) rfl (Jw fn82 rfl rfl fun w hH=>(within_c hH).mono ?_)))))))));rintro _ w ⟨rfl,hH⟩;refine ⟨_,rfl,fun a hF=>JL hF hH ?_⟩;refine Jg (Jd rfl) rfl (Jf (Ja (hK2 (Js (Jq rfl (Res.tmp rfl) fun w hH=>?_)))));exact ⟨rfl,hH⟩
theorem fn76:Fn Tryz.prog 76:=⟨_,Tryz.func76,by kernel_rfl,rfl⟩
theorem fn146:Fn Tryz.prog 146:=⟨_,Tryz.func146,by kernel_rfl,rfl⟩
theorem fn147:Fn Tryz.prog 147:=⟨_,Tryz.func147,by kernel_rfl,rfl⟩
theorem fn182:Fn Tryz.prog 182:=⟨_,Tryz.func182,by kernel_rfl,rfl⟩
theorem fn94:Fn Tryz.prog 94:=⟨_,Tryz.func94,by kernel_rfl,rfl⟩
theorem fn95:Fn Tryz.prog 95:=⟨_,Tryz.func95,by kernel_rfl,rfl⟩
theorem fn96:Fn Tryz.prog 96:=⟨_,Tryz.func96,by kernel_rfl,rfl⟩
def clF (ds:List Int) (fs:List (List Term)) (n:Int):List (List Term):=if cdC ds fs n=0 then fmR (monL ds n) (csS ds fs n) else []
def imS (bd:List Int) (ms:List (List Term)) (s:Sm):Sm:=leadS bd (ssF ms) ms.length s
def mmR (ad bd:List Int) (bf ms:List (List Term)) (n:Int) (r:List Int):List Int:=clV bd bf n ((monL bd n).map (cf (imS bd ms (sumR (monL ad n) r))))
def mmS (ad:List Int) (af:List (List Term)) (bd:List Int) (bf ms:List (List Term)) (n:Int):List (List Int):=(csS ad af n).map (mmR ad bd bf ms n)
def mmK (ad:List Int) (af:List (List Term)) (bd:List Int) (bf ms:List (List Term)) (n:Int) (k:Nat):List (List Int):=((csS ad af n).take k).map (mmR ad bd bf ms n)
def mm1 (ad:List Int) (af:List (List Term)) (bd:List Int) (bf ms:List (List Term)) (n:Int):Int:=if isMp ad af bd bf ms then if askB n then 0 else 2 else 1
def mm2 (ad bd:List Int) (n:Int):Int:=if arB ad n && arB bd n then 0 else 3
section
variable {ad bd : List Int} {af bf ms : List (List Term)} {n : Int}
theorem mmK_len {k:Nat} (hk:k≤(csS ad af n).length):(mmK ad af bd bf ms n k).length=k:=by
 unfold mmK;rw [List.length_map,List.length_take_of_le hk]
theorem mmK_succ {k:Nat} (hk:k<(csS ad af n).length):mmK ad af bd bf ms n (k+1)=mmK ad af bd bf ms n k++[mmR ad bd bf ms n (rw_ (csS ad af n) k)]:=by
 unfold mmK;rw [List.take_succ_eq_append_getElem hk,List.map_append]
 show _=_++[mmR ad bd bf ms n (rw_ (csS ad af n) k)]
 unfold rw_;rw [List.getD_eq_getElem?_getD,List.getElem?_eq_getElem hk]
 rfl
theorem mmK_end {k:Nat} (hk:k=(csS ad af n).length):mmK ad af bd bf ms n k=mmS ad af bd bf ms n:=by
 unfold mmK mmS;rw [hk,List.take_length]
theorem mmS_len:(mmS ad af bd bf ms n).length=(csS ad af n).length:=by simp [mmS]
theorem clF_len (h:cdC ad af n=0):(clF ad af n).length=(csS ad af n).length:=by unfold clF;rw [if_pos h];simp [fmR]
theorem clF_at (h:cdC ad af n=0) (hA:AlgOk ad af) (h8:ad.length≤8) (hd : ∀j,j<ad.length→1≤ad.getD j 0∧ad.getD j 0≤12) {i:Nat} (hi:i<(csS ad af n).length):toS (fm (clF ad af n) i)=sumR (monL ad n) (rw_ (csS ad af n) i):=by
 unfold clF;rw [if_pos h,fmR_at hi,fmS_mon h8 ((csS_red (n:=n) hA h8 hd).row _ (rw_mem hi))]
theorem clF_flen (h:cdC ad af n=0) {i:Nat} (hi:i<(csS ad af n).length):(fm (clF ad af n) i).length≤121:=by
 unfold clF;rw [if_pos h,fmR_at hi];exact Nat.le_trans (fmS_len _ _) (monL_len ad n)
theorem clF_wf (hG:isAlg ad af=true) (hw:Wfss af):Wfss (clF ad af n):=by
 unfold clF
 split
 ·have hA:=isAlg_ok hG hw;exact fmR_wf (monL_mn hA.hn) (csS_red (n:=n) hA hA.hn (alg_112 hG)).row
 ·intro f hf
  simp at hf
theorem Ld.cls (hM:isMp ad af bd bf ms=true) (hwa:Wfss af) (hwm:Wfss ms) (hn:n≤20) {r:List Int} (hr:r∈csS ad af n):Ld bd ad (ssF ms) ms.length 20 (sumR (monL ad n) r):=by
 unfold isMp at hM;simp only [Bool.and_eq_true] at hM;obtain ⟨⟨hA,hB⟩,⟨hl,h⟩,_⟩:=hM;have hl:=of_decide_eq_true hl;have hD:=isAlg_deg hA;have hd:=isDeg_bd hD;have hAo:=isAlg_ok hA hwa;have h8:=hAo.hn;have hrl:=((csS_red (n:=n) hAo h8 (alg_112 hA)).row _ hr).len;refine ⟨Dg.of (isAlg_deg hB),fun j=>(hd j).1,fun j hj=>?_,sumR_mon h8 (by omega),fun x hx=>?_⟩
 ·have h4:=mpsOk_at h hj;unfold mpOk at h4;obtain ⟨h5,h6⟩:=Bool.and_eq_true_iff.1 h4;exact form_ws (isAlg_deg hB) (hwm.fm j) h5 h6 (by have:=hd j;omega)
 ·rw [hl,monL_wt h8 _ (sumR_key (by omega) x hx)];exact hn
theorem im_mon (hM:isMp ad af bd bf ms=true) (hwa:Wfss af) (hwb:Wfss bf) (hwm:Wfss ms) (hn:n≤20) (hf:fitB bd n=true) {r:List Int} (hr:r∈csS ad af n) : ∀x∈imS bd ms (sumR (monL ad n) r),x.1∈monL bd n:=fun x hx=>by
 have hL:=Ld.cls hM hwa hwm hn hr
 unfold isMp at hM
 simp only [Bool.and_eq_true] at hM
 obtain ⟨⟨hA,hB⟩,⟨hl,_⟩,_⟩:=hM
 have hl:=of_decide_eq_true hl
 have hAo:=isAlg_ok hA hwa
 have hBo:=isAlg_ok hB hwb
 have hrl:=((csS_red (n:=n) hAo hAo.hn (alg_112 hA)).row _ hr).len
 rcases acc_mem hx with h1 | ⟨y,hy,e⟩
 ·simp at h1
 ·obtain ⟨z,hz,h1⟩:=List.mem_flatMap.1 hy
  obtain ⟨u,hu,rfl⟩:=List.mem_map.1 h1
  have hp:=hL.pr hz (Ws.one (c:=1) (by omega)) (Nat.le_refl ms.length)
  have hzw:wsum ad z.1 ms.length=n:=by rw [hl];exact monL_wt hAo.hn _ (sumR_key (by omega) z hz)
  rw [hzw] at hp
  rw [monL_fit hf]
  rw [e]
  exact mon_in hBo.hn (alg_112 hB) (by omega) (hp.sok.key u hu) (hp.kex u hu) (hp.wt u hu)
theorem im_sok (hM:isMp ad af bd bf ms=true) (hwa:Wfss af) (hwm:Wfss ms) (hn:n≤20) {r:List Int} (hr:r∈csS ad af n):Sok 20 (imS bd ms (sumR (monL ad n) r)):=(Ld.cls hM hwa hwm hn hr).lead
theorem nd_len {α:Type} [DecidableEq α] : ∀{a b:List α},a.Nodup→(∀x∈a,x∈b)→a.length≤b.length
 | [],_,_,_=>Nat.zero_le _
 | x::a,b,h,hs=>by
  have h1:=List.nodup_cons.1 h
  have ih:=nd_len (a:=a) (b:=b.erase x) h1.2 fun y hy=>(List.mem_erase_of_ne (fun e:y=x=>h1.1 (by rw [← e];exact hy))).2 (hs y (by simp [hy]))
  have hm:=hs x (by simp)
  rw [List.length_erase_of_mem hm] at ih
  have:=List.length_pos_of_mem hm
  simp only [List.length_cons]
  omega
theorem sok_mon {M:Int} {s:Sm} {ps:List Pw} (h:Sok M s) (hk : ∀x∈s,x.1∈ps):s.length≤ps.length:=by
 have:=nd_len h.nodup (b:=ps) fun p hp=>by
  obtain ⟨x,hx,rfl⟩:=List.mem_map.1 hp;exact hk x hx
 rwa [List.length_map] at this
theorem byS_0 {W:Nat} : ∀{B:List (List Int)} {v:List Int},RowOk W v→(∀r∈B,RowOk W r)→(∀k,v.getD k 0=0)→∀k,(byS v B).getD k 0=0
 | [],_,_,_,h=>h
 | r::B,v,hv,hB,h=>by
  have hr:=hB r (by simp)
  exact byS_0 (B:=B) (hv.one hr) (fun r hr=>hB r (by simp [hr])) fun k=>by
   rw [oneBy_get hv hr,h k,h (ldR r),Int.zero_mul]
   exact fld_0
theorem mmR_0 (hG:isAlg bd bf=true) (hw:Wfss bf) {r:List Int} (h:imS bd ms (sumR (monL ad n) r)=[]):mmR ad bd bf ms n r=List.replicate (csS bd bf n).length 0:=by
 have hA:=isAlg_ok hG hw;unfold mmR clV;rw [h];refine List.eq_replicate_iff.2 ⟨by simp,fun x hx=>?_⟩;obtain ⟨s,_,rfl⟩:=List.mem_map.1 hx
 exact byS_0 (cfR_ok (M:=20) Sok.nil) (bdS_red (n:=n) hA hA.hn (alg_112 hG)).row (fun k=>by
  rw [List.getD_eq_getElem?_getD,List.getElem?_map]
  cases (monL bd n)[k]? <;> rfl) _
theorem mmR_ok (hM:isMp ad af bd bf ms=true) (hwa:Wfss af) (hwb:Wfss bf) (hwm:Wfss ms) (hn:n≤20) {r:List Int} (hr:r∈csS ad af n):RowOk (csS bd bf n).length (mmR ad bd bf ms n r):=by
 have hs:=im_sok hM hwa hwm hn hr;unfold isMp at hM;simp only [Bool.and_eq_true] at hM;have hB:=hM.1.2;have hBo:=isAlg_ok hB hwb;refine ⟨clV_len _ _ _ _,fun k=>?_⟩;unfold mmR clV;rw [List.getD_eq_getElem?_getD,List.getElem?_map]
 cases (csS bd bf n)[k]? with
 | none=>exact ⟨by simp,by simp⟩
 | some s=>exact (byS_ok (cfR_ok hs) (bdS_red (n:=n) hBo hBo.hn (alg_112 hB)).row).val _
theorem mmS_ok (hM:isMp ad af bd bf ms=true) (hwa:Wfss af) (hwb:Wfss bf) (hwm:Wfss ms) (hn:n≤20) : ∀r∈mmS ad af bd bf ms n,RowOk (csS bd bf n).length r:=fun r hr=>by
 obtain ⟨s,hs,rfl⟩:=List.mem_map.1 hr
 exact mmR_ok hM hwa hwb hwm hn hs
theorem mm1_1 (h:isMp ad af bd bf ms=false):mm1 ad af bd bf ms n=1:=by unfold mm1;rw [h];rfl
theorem mm1_2 (h:isMp ad af bd bf ms=true) (h2:askB n=false):mm1 ad af bd bf ms n=2:=by unfold mm1;rw [h,h2];rfl
theorem mm1_0 (h:isMp ad af bd bf ms=true) (h2:askB n=true):mm1 ad af bd bf ms n=0:=by unfold mm1;rw [h,h2];rfl
theorem mm1_y (h : ¬mm1 ad af bd bf ms n≠0):isMp ad af bd bf ms=true∧askB n=true:=by
 unfold mm1 at h
 cases h1:isMp ad af bd bf ms with
 | false=>rw [h1] at h;simp at h
 | true=>
  rw [h1] at h
  cases h2:askB n with
  | true=>exact ⟨rfl,rfl⟩
  | false=>rw [h2] at h;simp at h
theorem isMp_1 (h:isMp ad af bd bf ms=true):isAlg ad af=true:=by unfold isMp at h;simp only [Bool.and_eq_true] at h;exact h.1.1
theorem isMp_2 (h:isMp ad af bd bf ms=true):isAlg bd bf=true:=by unfold isMp at h;simp only [Bool.and_eq_true] at h;exact h.1.2
theorem isMp_l (h:isMp ad af bd bf ms=true):ms.length=ad.length:=by unfold isMp at h;simp only [Bool.and_eq_true] at h;exact of_decide_eq_true h.2.1.1
theorem isMp_ps (h:isMp ad af bd bf ms=true):mpsOk bd ms ad=true:=by unfold isMp at h;simp only [Bool.and_eq_true] at h;exact h.2.1.2
theorem cdC_y (hG:isAlg ad af=true) (ha:askB n=true):cdC ad af n=if arB ad n then 0 else 3:=by unfold cdC;rw [hG,ha,ar_wi ad af hG n];rfl
theorem cdC_n (hG:isAlg ad af=true) (ha:askB n=true) (h:cdC ad af n≠0):cdC ad af n=3∧arB ad n=false:=by
 rw [cdC_y hG ha] at h ⊢
 cases hh:arB ad n with
 | true=>rw [hh] at h;exact absurd rfl h
 | false=>exact ⟨rfl,rfl⟩
theorem cdC_0 (hG:isAlg ad af=true) (ha:askB n=true) (h : ¬cdC ad af n≠0):cdC ad af n=0∧arB ad n=true:=by
 have h0:cdC ad af n=0:=Decidable.not_not.1 h;refine ⟨h0,?_⟩;rw [cdC_y hG ha] at h0
 cases hh:arB ad n with
 | true=>rfl
 | false=>rw [hh] at h0;simp at h0
theorem cdC_y' {x:Int} (h : ¬cdC ad af n≠0):isAlg ad af=true∧askB n=true:=by
 unfold cdC at h
 cases h1:isAlg ad af with
 | false=>rw [h1] at h;simp at h
 | true=>
  rw [h1] at h
  cases h2:askB n with
  | true=>exact ⟨rfl,rfl⟩
  | false=>rw [h2] at h;simp at h
theorem mm2_n1 (h:arB ad n=false):mm2 ad bd n=3:=by unfold mm2;rw [h];rfl
theorem mm2_n2 (h:arB bd n=false):mm2 ad bd n=3:=by unfold mm2;rw [h];simp
theorem mm2_y (h:arB ad n=true) (h2:arB bd n=true):mm2 ad bd n=0:=by unfold mm2;rw [h,h2];rfl
end
theorem sClassForms_c {B:World} {H0 H:HP} {L:List SA} {w:World} {qad qaf:Option Addr} {cad caf:Nat} {ad:List Int} {af:List (List Term)} {n:Int} (had:Ints H qad ad) (haf:Forms H qaf af) (hn8:ad.length≤1048576) (hn9:af.length≤1048576) (hl9 : ∀i,i<af.length→(fm af i).length≤1048576) (hH:Hp B H0 H L w):Calls Tryz.prog 147 [.agg [.slice qad ad.length cad,.slice qaf af.length caf].toArray,.int .i64 n].toArray w fun e w'=>∃q c vs,e = .returned (.tuple #[.slice q (clF ad af n).length c,.int .i64 (cdC ad af n)])∧Hp B H0 H (ownFs 39 152 q c vs (clF ad af n)::L) w':=by
 refine Jz Tryz.func147 rfl 16 rfl rfl [(0,.agg [.slice qad ad.length cad,.slice qaf af.length caf].toArray),(1,.int .i64 n)] rfl hH ?_;have hw0:=hH.old;have hw1:=hH.le;clear hH;refine Je fun _ hK1 _=>(Jb (Ee rfl rfl rfl fun g2=>(Jg (Jd rfl) rfl (Jg (Jd rfl) rfl (Jf (Ja (hK1 (Je fun _ hK2 _=>(Je fun _ hK3 _=>(Jb (Jg (Jx rfl At.z (by simpa [*] using ag35)) rfl (Jg (Jc rfl) rfl (Jw fn182 rfl rfl fun w hH=>(l03Code_c had haf (by omega) (by omega) hl9 hH).mono ?_)))))))))))));rintro _ w ⟨rfl,hH⟩;refine ⟨_,rfl,fun a hF=>JL hF hH ?_⟩;refine Jg (Jd rfl) rfl (Jf (Ja (hK3 (Je fun _ hK4 _=>(Jb (Jg (Jc rfl) rfl (Jg (El rfl rfl) rfl (Jf (Ja (hK4 (Jp rfl (fun h11=>?_) (fun h11=>?_))))))))))))
 ·
  refine Je fun _ hK5 _=>(Jb (Jg (Jc rfl) rfl (Jg (Jd rfl) rfl (Jg (Jd rfl) rfl (Jf (Ja (hK5 (Js (Jk (Er rfl (Res.tmp rfl) (Res.tmp rfl) fun w hH=>?_))))))))));replace hH:=hH.sublist (.cons _ (List.Sublist.refl _));refine ⟨none,0,nilVs,?_,?_⟩
  ·rw [show clF ad af n=[] from if_neg h11]
   rfl
  ·rw [show clF ad af n=[] from if_neg h11];exact hH.ownFsNil 39 152
 ·
  obtain ⟨hG,hak⟩:=cdC_y' (x:=0) h11;have hask:=askB_y hak;have har:=(cdC_0 hG hak h11).2;have hf3:=ar_fit3 har;have h0:cdC ad af n=0:=Decidable.not_not.1 h11;refine Jo (Ja (hK2 (Je fun _ hK6 _=>(Jb (Jg (Jx rfl At.z (by simpa [*] using ag35)) rfl (Jg (Jc rfl) rfl (Jw fn76 rfl rfl fun w hH=>(l03ClassForms_c had haf hG (by omega) hf3 hH).mono ?_)))))));rintro _ w ⟨qo15,co15,vso15,rfl,hH⟩;refine ⟨_,rfl,fun a hF=>JL hF hH ?_⟩;refine Jg (Jd rfl) rfl (Jg (Jd rfl) rfl (Jf (Ja (hK6 (Js (Er rfl (Res.tmp rfl) (Res.tmp rfl) fun w hH=>?_))))));replace hH:=hH.sublist (.cons_cons _ (.cons _ (List.Sublist.refl _)));rw [show clF ad af n=_ from if_pos h0,h0];exact ⟨_,_,_,rfl,hH⟩
theorem l04Code_c {B:World} {H0 H:HP} {L:List SA} {w:World} {qad qaf:Option Addr} {cad caf:Nat} {ad:List Int} {af:List (List Term)} {qbd qbf:Option Addr} {cbd cbf:Nat} {bd:List Int} {bf:List (List Term)} {qms:Option Addr} {cms:Nat} {ms:List (List Term)} {n:Int} (had:Ints H qad ad) (haf:Forms H qaf af) (hbd:Ints H qbd bd) (hbf:Forms H qbf bf) (hms:Forms H qms ms) (hn8:ad.length≤1048576) (hn9:af.length≤1048576) (hl9 : ∀i,i<af.length→(fm af i).length≤1048576) (hbn8:bd.length≤1048576) (hbn9:bf.length≤1048576) (hbl9 : ∀i,i<bf.length→(fm bf i).length≤1048576) (hmn9:ms.length≤1048576) (hml9 : ∀i,i<ms.length→(fm ms i).length≤1048576) (hH:Hp B H0 H L w):Calls Tryz.prog 94 [.agg [.slice qad ad.length cad,.slice qaf af.length caf].toArray,.agg [.slice qbd bd.length cbd,.slice qbf bf.length cbf].toArray,.slice qms ms.length cms,.int .i64 n].toArray w fun e w'=>e = .returned (.int .i64 (mm1 ad af bd bf ms n))∧Hp B H0 H L w':=by
 refine Jz Tryz.func94 rfl 19 rfl rfl [(0,.agg [.slice qad ad.length cad,.slice qaf af.length caf].toArray),(1,.agg [.slice qbd bd.length cbd,.slice qbf bf.length cbf].toArray),(2,.slice qms ms.length cms),(3,.int .i64 n)] rfl hH ?_;have hw0:=hH.old;have hw1:=hH.le;clear hH;refine Je fun _ hK1 _=>(Jb (Ee rfl rfl rfl fun g4=>(Ee rfl rfl rfl fun g5=>(Jg (Jd rfl) rfl (Jf (Ja (hK1 (Je fun _ hK2 _=>(Jn (Je fun _ hK3 _=>(Jb (Jg (Jx rfl (.s .z) (by simpa [*] using ag35)) rfl (Jg (Jx rfl At.z (by simpa [*] using ag35)) rfl (Jg (Jc rfl) rfl (Jw fn146 rfl rfl fun w hH=>(l04Is_c had haf hbd hbf hms (by omega) (by omega) hl9 (by omega) (by omega) hbl9 (by omega) hml9 hH).mono ?_)))))))))))))));rintro _ w ⟨rfl,hH⟩;refine ⟨_,rfl,fun a hF=>JL hF hH ?_⟩;refine Jg (Em rfl) rfl (Jg (Jd rfl) rfl (Jf (Ja (hK3 (Eg rfl (fun h9=>?_) (fun h9=>?_))))))
 ·
  refine Je fun _ hK4 _=>(Jb (Jg (Jd rfl) rfl (Jf (Ja (hK4 (Js (JT (Jk (Jq rfl (Res.tmp rfl) fun w hH=>?_)))))))));replace hH:=hH.tail;replace hH:=hH.tail;exact ⟨ri (mm1_1 (not_f h9)).symm,hH⟩
 ·
  have hM:isMp ad af bd bf ms=true:=not_t h9;refine Je fun _ hK5 _=>(Jb (Jg (Jc rfl) rfl (Jw fn73 rfl rfl fun w hH=>(l01In_c hH).mono ?_)));rintro _ w ⟨rfl,hH⟩;refine ⟨_,rfl,fun a hF=>JL hF hH ?_⟩;refine Jg (Em rfl) rfl (Jg (Jd rfl) rfl (Jf (Ja (hK5 (Eg rfl (fun h15=>?_) (fun h15=>?_))))))
  ·
   refine Je fun _ hK6 _=>(Jb (Jg (Jd rfl) rfl (Jf (Ja (hK6 (Js (JT (Jk (Jq rfl (Res.tmp rfl) fun w hH=>?_)))))))));replace hH:=hH.tail;replace hH:=hH.tail;exact ⟨ri (mm1_2 hM (not_f h15)).symm,hH⟩
  ·
   refine Jo (JF (Ja (hK2 (Je fun _ hK7 _=>(Jb (Jg (Jd rfl) rfl (Jf (Ja (hK7 (Js (Jq rfl (Res.tmp rfl) fun w hH=>?_)))))))))));replace hH:=hH.tail;replace hH:=hH.tail;exact ⟨ri (mm1_0 hM (not_t h15)).symm,hH⟩
theorem l04Matrix_c {B:World} {H0 H:HP} {L:List SA} {w:World} {qad qaf:Option Addr} {cad caf:Nat} {ad:List Int} {af:List (List Term)} {qbd qbf:Option Addr} {cbd cbf:Nat} {bd:List Int} {bf:List (List Term)} {qms:Option Addr} {cms:Nat} {ms:List (List Term)} {n:Int} (had:Ints H qad ad) (haf:Forms H qaf af) (hbd:Ints H qbd bd) (hbf:Forms H qbf bf) (hms:Forms H qms ms) (hn8:ad.length≤1048576) (hn9:af.length≤1048576) (hl9 : ∀i,i<af.length→(fm af i).length≤1048576) (hbn8:bd.length≤1048576) (hbn9:bf.length≤1048576) (hbl9 : ∀i,i<bf.length→(fm bf i).length≤1048576) (hmn9:ms.length≤1048576) (hml9 : ∀i,i<ms.length→(fm ms i).length≤1048576) (hM:isMp ad af bd bf ms=true) (hn:0≤n∧n≤20) (hH:Hp B H0 H L w):Calls Tryz.prog 95 [.agg [.slice qad ad.length cad,.slice qaf af.length caf].toArray,.agg [.slice qbd bd.length cbd,.slice qbf bf.length cbf].toArray,.slice qms ms.length cms,.int .i64 n].toArray w fun e w'=>∃q c vs,e = .returned (.tuple #[.slice q (if mm2 ad bd n=0 then mmS ad af bd bf ms n else []).length c,.int .i64 (mm2 ad bd n)])∧Hp B H0 H (ownRs 22 2 q c vs (if mm2 ad bd n=0 then mmS ad af bd bf ms n else [])::L) w':=by
 refine Jz Tryz.func95 rfl 69 rfl rfl [(0,.agg [.slice qad ad.length cad,.slice qaf af.length caf].toArray),(1,.agg [.slice qbd bd.length cbd,.slice qbf bf.length cbf].toArray),(2,.slice qms ms.length cms),(3,.int .i64 n)] rfl hH ?_;have hw0:=hH.old;have hw1:=hH.le;clear hH;have hGa:=isMp_1 hM;have hGb:=isMp_2 hM
 have hak:askB n=true:=by unfold askB;rw [decide_eq_true hn.1,decide_eq_true hn.2];rfl
 have hAa:=isAlg_ok hGa haf.wfss;have hAb:=isAlg_ok hGb hbf.wfss;have hda:=alg_112 hGa;have hdb:=alg_112 hGb;have h8a:=hAa.hn;have h8b:=hAb.hn;have hml:=isMp_l hM;have hcna:=csS_len (n:=n) hAa h8a hda;have hcnb:=csS_len (n:=n) hAb h8b hdb;refine Je fun _ hK1 _=>(Jb (Ee rfl rfl rfl fun g4=>(Ee rfl rfl rfl fun g5=>(Jg (Jd rfl) rfl (Jg (Jd rfl) rfl (Jf (Ja (hK1 (Je fun _ hK2 _=>(Jb (Jg (Jx rfl (.s .z) (by simpa [*] using ag35)) rfl (Jg (Jc rfl) rfl (Jw fn147 rfl rfl fun w hH=>(sClassForms_c had haf (by omega) (by omega) hl9 hH).mono ?_)))))))))))));rintro _ w ⟨qo21,co21,vso21,rfl,hH⟩;refine ⟨_,rfl,fun a hF=>JL hF hH ?_⟩;refine Jg (Jc rfl) rfl (Jg (JM rfl rfl) rfl (Jg (JM rfl rfl) rfl (Jg (Jd rfl) rfl (Jg (Jd rfl) rfl (EA .z fun Ho21 hleo21 hAo21=>?_)))));replace had:=had.le hleo21;replace haf:=haf.le hleo21;replace hbd:=hbd.le hleo21;replace hbf:=hbf.le hleo21;replace hms:=hms.le hleo21;have hxo21:=(own_forms (clF_wf hGa haf.wfss) hAo21);have hco21:=own_le hAo21.1;refine Jf (Ja (hK2 (Je fun _ hK3 _=>(Jb (Jg (Jx rfl At.z (by simpa [*] using ag35)) rfl (Jg (Jc rfl) rfl (Jw fn147 rfl rfl fun w hH=>(sClassForms_c hbd hbf (by omega) (by omega) hbl9 hH).mono ?_)))))));rintro _ w ⟨qo27,co27,vso27,rfl,hH⟩;refine ⟨_,rfl,fun a hF=>JL hF hH ?_⟩;refine Jg (Jc rfl) rfl (Jg (JM rfl rfl) rfl (Jg (JM rfl rfl) rfl (Jg (Jd rfl) rfl (Jg (Jd rfl) rfl (EA .z fun Ho27 hleo27 hAo27=>?_)))));replace had:=had.le hleo27;replace haf:=haf.le hleo27;replace hbd:=hbd.le hleo27;replace hbf:=hbf.le hleo27;replace hms:=hms.le hleo27;replace hxo21:=hxo21.le hleo27;have hxo27:=(own_forms (clF_wf hGb hbf.wfss) hAo27);have hco27:=own_le hAo27.1;refine Jf (Ja (hK3 (Je fun _ hK4 _=>(Jn (Je fun _ hK5 _=>(Jb (Jg (Jc rfl) rfl (Jg (El rfl rfl) rfl (Jg (Jd rfl) rfl (Jf (Ja (hK5 (Jp rfl (fun h30=>?_) (fun h30=>?_))))))))))))))
 ·
  obtain ⟨e3,hno⟩:=cdC_n hGa hak h30;refine Je fun _ hK6 _=>(Jb (Jg (Jc rfl) rfl (Jg (Jd rfl) rfl (Jg (Jd rfl) rfl (Jf (Ja (hK6 (Js (JT (Jk (Er rfl (Res.tmp rfl) (Res.tmp rfl) fun w hH=>?_)))))))))));replace hH:=hH.sublist (.cons _ (.cons _ (List.Sublist.refl _)));rw [show (if mm2 ad bd n=0 then mmS ad af bd bf ms n else [])=[] from if_neg (by rw [mm2_n1 hno];decide),e3,mm2_n1 hno];exact ⟨none,0,nilVs,rfl,(Hp.rsNil 22 2 (hH.own0 22 1)).weaken (hleo21.trans hleo27) hw0 hw1⟩
 ·
  obtain ⟨e0,har⟩:=cdC_0 hGa hak h30;have hf1:=ar_fit3 har;have hla:=clF_len e0;refine Je fun _ hK7 _=>(Jb (Jg (Jc rfl) rfl (Jg (El rfl rfl) rfl (Jg (Jd rfl) rfl (Jf (Ja (hK7 (Jp rfl (fun h34=>?_) (fun h34=>?_)))))))))
  ·
   obtain ⟨e3,hno⟩:=cdC_n hGb hak h34;refine Je fun _ hK8 _=>(Jb (Jg (Jc rfl) rfl (Jg (Jd rfl) rfl (Jg (Jd rfl) rfl (Jf (Ja (hK8 (Js (JT (Jk (Er rfl (Res.tmp rfl) (Res.tmp rfl) fun w hH=>?_)))))))))));replace hH:=hH.sublist (.cons _ (.cons _ (List.Sublist.refl _)));rw [show (if mm2 ad bd n=0 then mmS ad af bd bf ms n else [])=[] from if_neg (by rw [mm2_n2 hno];decide),e3,mm2_n2 hno];exact ⟨none,0,nilVs,rfl,(Hp.rsNil 22 2 (hH.own0 22 1)).weaken (hleo21.trans hleo27) hw0 hw1⟩
  ·
   obtain ⟨e0b,harb⟩:=cdC_0 hGb hak h34;have hf2:=ar_fit3 harb;have hlb:=clF_len e0b;refine Jo (JF (Ja (hK4 (Je fun _ hK9 _=>(Jb (EK (EP u57 sz22) rfl fun qo38 co38=>(J.is0 2 (Jg (Jd rfl) rfl (Jf (Ja (hK9 (Je fun _ hK10 _=>(Je fun _ hK11 _=>(Jb (Jg (Jd rfl) rfl (Jf ?_))))))))))))))));refine Ja (hK11 (Jn (JE (σ:=Option Addr × Nat × Vs × Nat) (fun ⟨q,c,vs,i⟩=>[(15,.int .i64 (i:Int)),(14,.slice q i c)]) (fun ⟨q,c,vs,i⟩=>Ho27) (fun ⟨q,c,vs,i⟩=>ownIs 2 vs (mmK ad af bd bf ms n i)::own 22 1 q i c (slicesI vs (mmK ad af bd bf ms n i))::obj g5 (.cells [.slice qbd bd.length cbd,.slice qbf bf.length cbf].toArray 35 (0,0))::obj g4 (.cells [.slice qad ad.length cad,.slice qaf af.length caf].toArray 35 (0,0))::L) (fun ⟨q,c,vs,i⟩=>i≤(csS ad af n).length) (fun ⟨q,c,vs,i⟩=>(csS ad af n).length - i) (qo38,co38,nilVs,0) (by show 0≤_;omega) ⟨rfl,⟨rfl,trivial⟩⟩ rfl rfl ?_)));rintro ⟨q,c,vs,i⟩ hi _ hAg0;refine Je fun _ hK12 _=>(Je fun _ hK13 _=>(Jb (Jg (Jc rfl) rfl (Jg (Jc rfl) rfl (Jg (Jm u33 rfl rfl) rfl (Jg (JR rfl rfl) rfl (Jf (Ja (hK13 (Jp rfl (fun h42=>?_) (fun h42=>?_)))))))))))
   ·
    have hil:i<(csS ad af n).length:=by omega
    have hrm:=rw_mem hil;have hfa:=clF_at e0 hAa h8a hda hil;have hfl:=clF_flen e0 hil;have hLd:=Ld.cls hM haf.wfss hms.wfss hn.2 hrm;have hik:=im_mon hM haf.wfss hbf.wfss hms.wfss hn.2 hf2.1.1 hrm;have his:=im_sok hM haf.wfss hms.wfss hn.2 hrm;unfold imS at hik his;have hlen:=sok_mon his hik;have hmn9:=monL_len bd n;rw [← hfa] at hLd hik his hlen;refine Jo (Ja (hK12 (Je fun _ hK14 _=>(Jn (Je fun _ hK15 _=>(Ej (Rs:=[_,_,_,_]) 10 [[], [0], [], [], [], [3,4], [3,4,5], [0,1,2,3,4,5,6], [], [0,1,2,3,4,5,6,7,8]] [[], [12], [], [], [], [], [], [], [], []] [[], [], [], [], [], [], [], [], [], [8]] rfl rfl (by kernel_rfl) ?_))))));apply Jj 1 rfl
    iterate 3 focus (intros;(conv=>lhs;simp only [Jh,Jt,JN,Jv,JI,eq_self,reduceEqDiff,reduceIte,reduceSub,reduceAdd,JxA,JxB]);all_goals rfl)
    ·
     intro gh X K zq zc zq2 zc2 zb zv hK;refine Jg (Ju u35 rfl sz22 rfl) rfl (Ji ?_);exact hK zq zc zq2 zc2 zb zv
    ·
     intro gh gh' h
     rfl
    apply Jj 2 rfl
    iterate 3 focus (intros;(conv=>lhs;simp only [Jh,Jt,JN,Jv,JI,eq_self,reduceEqDiff,reduceIte,reduceSub,reduceAdd,JxA,JxB]);all_goals rfl)
    ·
     intro gh X K zq zc zq2 zc2 zb zv hK;refine Jg (Jy rfl At.z rfl pl22) rfl (Ji ?_);exact hK zq zc zq2 zc2 zb zv
    ·
     intro gh gh' h
     rfl
    apply Jj 3 rfl
    iterate 3 focus (intros;(conv=>lhs;simp only [Jh,Jt,JN,Jv,JI,eq_self,reduceEqDiff,reduceIte,reduceSub,reduceAdd,JxA,JxB]);all_goals rfl)
    ·
     intro gh X K zq zc zq2 zc2 zb zv hK;refine Jg (Jc rfl) rfl (Ji ?_);exact hK zq zc zq2 zc2 zb zv
    ·
     intro gh gh' h
     rfl
    apply Jj 4 rfl
    iterate 3 focus (intros;(conv=>lhs;simp only [Jh,Jt,JN,Jv,JI,eq_self,reduceEqDiff,reduceIte,reduceSub,reduceAdd,JxA,JxB]);all_goals rfl)
    ·
     intro gh X K zq zc zq2 zc2 zb zv hK;refine Jg (Jc rfl) rfl (Ji ?_);exact hK zq zc zq2 zc2 zb zv
    ·
     intro gh gh' h
     rfl
    apply Jj 5 rfl
    iterate 3 focus (intros;(conv=>lhs;simp only [Jh,Jt,JN,Jv,JI,eq_self,reduceEqDiff,reduceIte,reduceSub,reduceAdd,JxA,JxB]);all_goals rfl)
    ·
     intro gh X K zq zc zq2 zc2 zb zv hK;refine Jg (Jc rfl) rfl (Ji ?_);exact hK zq zc zq2 zc2 zb zv
    ·
     intro gh gh' h
     rfl
    apply Jj 6 rfl
    iterate 3 focus (intros;(conv=>lhs;simp only [Jh,Jt,JN,Jv,JI,eq_self,reduceEqDiff,reduceIte,reduceSub,reduceAdd,JxA,JxB]);all_goals rfl)
    ·
     intro gh X K zq zc zq2 zc2 zb zv hK;refine Jg (JP u33 sz39 rfl rfl rfl (by omega) hxo21.sm) rfl (Ji ?_);exact hK zq zc zq2 zc2 zb zv
    ·
     intro gh gh' h
     rfl
    obtain ⟨qe51,ce51,he51,le51,Fe51⟩:=hxo21 i (by omega);apply Jj 7 rfl
    iterate 3 focus (intros;(conv=>lhs;simp only [Jh,Jt,JN,Jv,JI,eq_self,reduceEqDiff,reduceIte,reduceSub,reduceAdd,JxA,JxB]);all_goals rfl)
    ·
     intro gh X K zq zc zq2 zc2 zb zv hK;refine Jg (JO (cs:=[_]) rfl (one_cell he51) (hxo21.sm (i:=i) (by omega)) ag39) rfl (Ji ?_);exact hK zq zc zq2 zc2 zb zv
    ·
     intro gh gh' h
     rfl
    apply Ea 8 rfl
    iterate 3 focus (intros;(conv=>lhs;simp only [Jh,Jt,JN,Jv,JI,eq_self,reduceEqDiff,reduceIte,reduceSub,reduceAdd,JxA,JxB]);all_goals rfl)
    ·
     intro gh X K zq zc zq2 zc2 zb zv hK;refine Jw fn148 rfl rfl fun w hH=>(l04Apply_c hbd hms Fe51 hLd (by omega) (by omega) (by omega) hH).mono ?_;rintro _ w ⟨qo52,co52,rfl,hH⟩;refine ⟨_,rfl,fun a hF=>JL hF hH ?_⟩;refine Ji ?_;exact hK qo52 co52 zq2 zc2 zb zv
    ·
     intro gh gh' h;refine ⟨?_,?_⟩ <;> rfl
    apply Ea 9 rfl
    iterate 3 focus (intros;(conv=>lhs;simp only [Jh,Jt,JN,Jv,JI,eq_self,reduceEqDiff,reduceIte,reduceSub,reduceAdd,JxA,JxB]);all_goals rfl)
    ·
     intro gh X K zq zc zq2 zc2 zb zv hK;refine JV ze39 rfl fun g16=>(Ji ?_);exact hK zq zc zq2 zc2 g16 zv
    ·
     intro gh gh' h;refine ⟨?_,?_⟩ <;> rfl
    apply ET 10 rfl
    iterate 3 focus (intros;(conv=>lhs;simp only [Jh,Jt,JN,Jv,JI,eq_self,reduceEqDiff,reduceIte,reduceSub,reduceAdd,JxA,JxB]);all_goals rfl)
    ·
     intro gh X K hK;refine JJ rfl rfl (by first | exact bytesC_one _ | exact intsC_one _ | exact Term.c_one _ | simp [Value.oneCell']) (by simpa [*] using sz39) (by simp [*]) At.z (Ji ?_);exact hK
    ·
     intro gh gh' h
     first | simp only [h 7 rfl,h 8 rfl] | rfl
    apply Ek [0,1,2,3,4,5,6,7,8,9] [0,1,2,3,4,5,6,7,9,10,11,12,13] foll0 rfl rfl rfl (by rfl)
    iterate 2 focus (intros;(conv=>lhs;simp only [Jh,Jt,JN,Jv,JI,eq_self,reduceEqDiff,reduceIte,reduceSub,reduceAdd,JxA,JxB]);all_goals rfl)
    intro gh;generalize (gh 7).c=co52;generalize (gh 7).q=qo52;generalize (gh 8).b=g16;clear gh;refine Ja (hK15 (Je fun _ hK16 _=>(Jb (Jg (Jc rfl) rfl (Jg (Jm u33 rfl rfl) rfl (EK (MK.makeI (m:=(clF bd bf n).length) u22 ze2 sz2 by2 rfl rfl rfl rfl (by omega)) rfl fun qo55 co55=>(Jg (Jd rfl) rfl (Jf (Ja (hK16 (EW (σ:=Option Addr × Nat) (fun ⟨qr,cr⟩=>[(17,.slice qr (mmR ad bd bf ms n (rw_ (csS ad af n) i)).length cr)]) (fun ⟨qr,cr⟩=>Ho27) (fun ⟨qr,cr⟩=>own 2 1 qr (mmR ad bd bf ms n (rw_ (csS ad af n) i)).length cr (intsC (mmR ad bd bf ms n (rw_ (csS ad af n) i)))::ownIs 2 vs (mmK ad af bd bf ms n i)::own 22 1 q i c (slicesI vs (mmK ad af bd bf ms n i))::obj g5 (.cells [.slice qbd bd.length cbd,.slice qbf bf.length cbf].toArray 35 (0,0))::obj g4 (.cells [.slice qad ad.length cad,.slice qaf af.length caf].toArray 35 (0,0))::L) (fun ⟨qr,cr⟩=>True) ?_ ?_)))))))))))
    ·
     intro _ hMt1;refine Je fun _ hK17 _=>(Jb (Jg (Ju u39 rfl sz37 rfl) rfl (Jg (Jy rfl (.s (.s .z)) rfl pl37) rfl (Jg (Jm u37 rfl rfl) rfl (Jg (EC rfl rfl) rfl (Jf (Ja (hK17 (Jp rfl (fun h59=>?_) (fun h59=>?_))))))))))
     ·
      refine Jb (Jg (Jx rfl (.s (.s (.s (.s (.s .z))))) (by simpa [*] using ag35)) rfl (Jg (Jc rfl) rfl (Jg (Jx rfl (.s (.s .z)) (by simpa [*] using ag39)) rfl (Jw fn69 rfl rfl fun w hH=>hH.lend (.s .z) fun Hl1 hle1 hA1 hB1 hH=>(l03Class_c (M:=20) (hbd.le hle1) (hbf.le hle1) (own_terms (his.wf (by omega)) hA1) hGb (by omega) hf2 (by rw [ofS_len];omega) (by rw [toS_ofS];exact his) (by rw [toS_ofS];exact hik) hH).mono ?_))));rintro _ w ⟨qo63,co63,rfl,hH⟩;replace hH:=hB1 _ _ hH;refine ⟨_,rfl,fun a hF=>JL hF hH ?_⟩;refine Jg (Jd rfl) rfl (Jf (Ja (JK .z (JK (.s .z) (JK (.s .z) ?_)))));exact hMt1 (qo63,co63) trivial 9 rfl rfl ⟨(by rw [toS_ofS,hfa];rfl),trivial⟩ rfl (by rw [toS_ofS,hfa];rfl)
     ·
      have hz9:mmR ad bd bf ms n (rw_ (csS ad af n) i)=List.replicate (clF bd bf n).length 0:=by rw [hlb];exact mmR_0 hGb hbf.wfss (by unfold imS;rw [← hfa];rw [ofS_len] at h59;exact List.eq_nil_of_length_eq_zero (by omega))
      refine Jo (Ja (JK (.s .z) (JK (.s .z) ?_)));exact hMt1 (qo55,co55) trivial 4 rfl rfl ⟨(by rw [hz9,List.length_replicate];rfl),trivial⟩ rfl (by rw [hz9,List.length_replicate])
    ·
     rintro ⟨qr,cr⟩ _;refine Jb (Jg (Jc rfl) rfl (Jg (Jc rfl) rfl (EK (EM u57 ze22 sz22 rfl rfl) rfl fun qo66 co66=>(EF u57 ze22 sz22 by22 rfl rfl rfl rfl (by omega) .z (.s (.s .z)) (fun _ _=>(.s (.s .z))) rfl fun qo67 co67=>(Jg (Jd rfl) rfl (Jf (JF (Ja (hK14 (Jb (Jg (Jc rfl) rfl (Jg (JC rfl rfl (by first | exact nw _ (by omega) | rfl)) rfl (Jg (Jd rfl) rfl (Jf (Ja ?_)))))))))))))));refine Jr (.s (.s (.s (.s (.s .z))))) (Jr (.s (.s (.s (.s (.s .z))))) (Jr (.s (.s (.s (.s (.s .z))))) (Jr (.s (.s (.s .z))) (Jr (.s (.s (.s (.s (.s .z))))) (Jr (.s (.s (.s (.s (.s .z))))) (EJ.isSnoc (rs:=mmK ad af bd bf ms n i) (mmK_len hi) rfl (JK (.s .z) ?_)))))));exact hAg0 (qo67,co67,setV vs i (qr,cr),i+1) (by show i+1≤_;omega) (by show (csS ad af n).length - (i+1)<(csS ad af n).length - i;omega) 28 rfl rfl ⟨rfl,⟨rfl,trivial⟩⟩ rfl (by dsimp only;rw [mmK_succ hil,slicesI_set (mmK_len hi)])
   ·
    refine JH (Jl (Jl (JQ (Ja (hK10 (Je fun _ hK18 _=>(Jb (Jg (Jc rfl) rfl (Jg (Jd rfl) rfl (Jg (Jd rfl) rfl (Jf (Ja (hK18 (Js (Er rfl (Res.tmp rfl) (Res.tmp rfl) fun w hH=>?_)))))))))))))));replace hH:=hH.sublist (.cons_cons _ (.cons_cons _ (.cons _ (.cons _ (List.Sublist.refl _)))))
    obtain rfl:i=(csS ad af n).length:=by omega
    rw [mmK_end rfl] at hH;rw [show (if mm2 ad bd n=0 then mmS ad af bd bf ms n else [])=mmS ad af bd bf ms n from if_pos (mm2_y har harb),mm2_y har harb];exact ⟨q,c,vs,by rw [mmS_len],by unfold ownRs;rw [mmS_len];exact ((hH.front (.s .z)).star).weaken (hleo21.trans hleo27) hw0 hw1⟩
theorem l04Rank_c {B:World} {H0 H:HP} {L:List SA} {w:World} {qrs:Option Addr} {crs:Nat} {rs:List (List Int)} {W:Nat} (hrs:RowsR H qrs rs) (hW : ∀r∈rs,RowOk W r) (hn:rs.length≤1000000) (hWn:W≤100000) (hH:Hp B H0 H L w):Calls Tryz.prog 96 [.slice qrs rs.length crs].toArray w fun e w'=>e = .returned (.int .i64 ((redS rs).length:Int))∧Hp B H0 H L w':=by
 refine Jz Tryz.func96 rfl 6 rfl rfl [(0,.slice qrs rs.length crs)] rfl hH ?_;have hw0:=hH.old;have hw1:=hH.le;clear hH;refine Je fun _ hK1 _=>(Jb (Jg (Jd rfl) rfl (Jf (Ja (hK1 (Je fun _ hK2 _=>(Jb (Jg (Jc rfl) rfl (Jw fn78 rfl rfl fun w hH=>(l03Reduce_c hrs hW hn hWn hH).mono ?_)))))))));rintro _ w ⟨Hf4,qf4,cf4,hlf4,hI4,hcc4,rfl,hH⟩;refine ⟨_,rfl,fun a hF=>JL hF hH ?_⟩;replace hrs:=hrs.le hlf4;refine Jg (Jm u57 rfl rfl) rfl (Jg (Jd rfl) rfl (Jf (Ja (hK2 (Js (Jq rfl (Res.tmp rfl) fun w hH=>?_))))));exact ⟨rfl,hH.weaken hlf4 hw0 hw1⟩
section
variable {ad bd : List Int} {af bf ms : List (List Term)} {n : Int}
theorem mmI_ok (hM:isMp ad af bd bf ms=true) (hwa:Wfss af) (hwb:Wfss bf) (hwm:Wfss ms) (hn:n≤20) : ∀r∈(if mm2 ad bd n=0 then mmS ad af bd bf ms n else []),RowOk (csS bd bf n).length r:=fun r hr=>by
 split at hr
 ·exact mmS_ok hM hwa hwb hwm hn r hr
 ·simp at hr
theorem mmI_len {ad bd:List Int} {af bf ms:List (List Term)} {n:Int} (h:(csS ad af n).length≤121):(if mm2 ad bd n=0 then mmS ad af bd bf ms n else []).length≤121:=by
 split
 ·rw [mmS_len];exact h
 ·simp
end
theorem fn100:Fn Tryz.prog 100:=⟨_,Tryz.func100,by kernel_rfl,rfl⟩
theorem fn86:Fn Tryz.prog 86:=⟨_,Tryz.func86,by kernel_rfl,rfl⟩
theorem fn97:Fn Tryz.prog 97:=⟨_,Tryz.func97,by kernel_rfl,rfl⟩
def moR (cad xad:List Int) (xaf:List (List Term)) (ldt:List Int) (lds:Nat→Sm) (N:Nat) (n:Int) (r:List Int):List Int:=clV xad xaf n ((monL xad n).map (cf (leadS ldt lds N (sumR (monL cad n) r))))
def moK (cad:List Int) (caf:List (List Term)) (xad:List Int) (xaf:List (List Term)) (ldt:List Int) (lds:Nat→Sm) (N:Nat) (n:Int) (k:Nat):List (List Int):=((csS cad caf n).take k).map (moR cad xad xaf ldt lds N n)
def moS (cad:List Int) (caf:List (List Term)) (xad:List Int) (xaf:List (List Term)) (ldt:List Int) (lds:Nat→Sm) (N:Nat) (n:Int):List (List Int):=(csS cad caf n).map (moR cad xad xaf ldt lds N n)
section
variable {cad xad : List Int} {caf xaf : List (List Term)} {ldt : List Int} {lds : Nat → Sm} {N : Nat} {n : Int}
theorem moK_len {k:Nat} (hk:k≤(csS cad caf n).length):(moK cad caf xad xaf ldt lds N n k).length=k:=by
 unfold moK;rw [List.length_map,List.length_take_of_le hk]
theorem moK_succ {k:Nat} (hk:k<(csS cad caf n).length):moK cad caf xad xaf ldt lds N n (k+1)=moK cad caf xad xaf ldt lds N n k++[moR cad xad xaf ldt lds N n (rw_ (csS cad caf n) k)]:=by
 unfold moK;rw [List.take_succ_eq_append_getElem hk,List.map_append]
 show _=_++[moR cad xad xaf ldt lds N n (rw_ (csS cad caf n) k)]
 unfold rw_;rw [List.getD_eq_getElem?_getD,List.getElem?_eq_getElem hk]
 rfl
theorem moK_end {k:Nat} (hk:k=(csS cad caf n).length):moK cad caf xad xaf ldt lds N n k=moS cad caf xad xaf ldt lds N n:=by
 unfold moK moS;rw [hk,List.take_length]
theorem moS_len:(moS cad caf xad xaf ldt lds N n).length=(csS cad caf n).length:=by simp [moS]
end
theorem matrixOf_c {B:World} {H0 H:HP} {L:List SA} {w:World} {bld kbld nld:Nat} {qldf qldt qldi:Option Addr} {cldf cldt cldi:Nat} {ldf ldt:List Int} {lds:Nat→Sm} {bc lc:Nat} {bca:Nat} {qcad qcaf:Option Addr} {ccad ccaf:Nat} {cad:List Int} {caf:List (List Term)} {lsc:List (Int × Lv)} {bx lx:Nat} {bxa:Nat} {qxad qxaf:Option Addr} {cxad cxaf:Nat} {xad:List Int} {xaf:List (List Term)} {lsx:List (Int × Lv)} {n:Int} {km:Nat} {kv:Vs} (pld0:CellAt H bld 0 (.slice qldf ldf.length cldf)) (pld1:CellAt H bld 1 (.slice qldt ldt.length cldt)) (pld2:CellAt H bld 2 (.slice qldi nld cldi)) (pld3:CellAt H bld 3 (.map (some kbld))) (hldf:Ints H qldf ldf) (hldt:Ints H qldt ldt) (hldi:ImR H qldi nld lds) (pc0:CellAt H bc 0 (.pointer (some ⟨bca,0,none⟩))) (pc1:CellAt H bc 1 (.map (some lc))) (pcad:CellAt H bca 0 (.slice qcad cad.length ccad)) (pcaf:CellAt H bca 1 (.slice qcaf caf.length ccaf)) (hcad:Ints H qcad cad) (hcaf:Forms H qcaf caf) (px0:CellAt H bx 0 (.pointer (some ⟨bxa,0,none⟩))) (px1:CellAt H bx 1 (.map (some lx))) (pxad:CellAt H bxa 0 (.slice qxad xad.length cxad)) (pxaf:CellAt H bxa 1 (.slice qxaf xaf.length cxaf)) (hxad:Ints H qxad xad) (hxaf:Forms H qxaf xaf) (hGc:isAlg cad caf=true) (hGx:isAlg xad xaf=true) (hn:0≤n∧n≤20) (hfit:fit3 cad n) (hfix:fit3 xad n) (hCc:CpxOk H cad caf (fun _=>False) lsc) (hNc:Nxt (fun _=>False) lsc) (hCx:CpxOk H xad xaf (fun _=>False) lsx) (hNx:Nxt (fun _=>False) lsx) (hnn:ldf.length=nld) (hn8:nld≤8) (hLd : ∀r∈csS cad caf n,Ld ldt cad lds ldf.length 20 (sumR (monL cad n) r)) (him : ∀r∈csS cad caf n,∀x∈leadS ldt lds ldf.length (sumR (monL cad n) r),x.1∈monL xad n) (hH:Hp B H0 H (knw (kF ldt lds) kbld km kv::cpx lc lsc::cpx lx lsx::L) w):Calls Tryz.prog 100 [.pointer (some ⟨bld,0,none⟩),.pointer (some ⟨bc,0,none⟩),.pointer (some ⟨bx,0,none⟩),.int .i64 n].toArray w fun e w'=>∃H' lc' lx' m' vs' q c vs,Le H H' ∧(CpxOk H' cad caf (fun _=>False) lc' ∧Nxt (fun _=>False) lc')∧(CpxOk H' xad xaf (fun _=>False) lx' ∧Nxt (fun _=>False) lx')∧e = .returned (.slice q (moS cad caf xad xaf ldt lds ldf.length n).length c)∧Hp B H0 H' (ownRs 22 2 q c vs (moS cad caf xad xaf ldt lds ldf.length n)::cpx lc lc'::knw (kF ldt lds) kbld m' vs'::cpx lx lx'::L) w':=by
 refine Jz Tryz.func100 rfl 39 rfl rfl [(0,.pointer (some ⟨bld,0,none⟩)),(1,.pointer (some ⟨bc,0,none⟩)),(2,.pointer (some ⟨bx,0,none⟩)),(3,.int .i64 n)] rfl hH ?_;clear hH;have hwc:=hcaf.wfss;have hAc:=isAlg_ok hGc hwc;have h8c:=hAc.hn;have hdc:=alg_112 hGc;have hml:=monL_len cad n;have hcsR:=csS_red (n:=n) hAc h8c hdc;have hcsl:=csS_len (n:=n) hAc h8c hdc;have hbdR:=bdS_red (n:=n) hAc h8c hdc;have hbdl:=bdS_len (n:=n) hAc h8c hdc;have hclR:=clS_red (n:=n) hAc h8c hdc;have hcll:=clS_len (n:=n) hAc h8c hdc;have hwx:=hxaf.wfss;have hAx:=isAlg_ok hGx hwx;have h8x:=hAx.hn;have hdx:=alg_112 hGx;refine Je fun _ hK1 _=>(Jb (Jg (Jd rfl) rfl (Jf (Ja (hK1 (Je fun _ hK2 _=>(Jb (EK (EP u57 sz22) rfl fun qo12 co12=>(J.is0 2 (Jg (Jd rfl) rfl (Jf (Ja (hK2 (Je fun _ hK3 _=>(Je fun _ hK4 _=>(Jb ?_))))))))))))))));refine Jg (Jc rfl) rfl (Jg (Jc rfl) rfl (Jw fn68 rfl rfl fun w hH=>(at_c pc0 pc1 pcad pcaf hcad hcaf hdc h8c (by omega) hAc hfit (fun m hm hf=>hom_of hGc hwc h8c hdc (by omega) hf) hCc hNc (hH.front (.s (.s (.s .z))))).mono ?_));rintro _ w ⟨Hf15,ls15,⟨b15,p15,⟨ql15,kl15,cl15⟩,⟨qm15,km15,cm15⟩,⟨qz15,kz15,cz15⟩,⟨qy15,ky15,cy15⟩,⟨qx15,kx15,cx15⟩⟩,hlf15,hC15,hN15,hx15,⟨hL15,hM15,hkp15⟩,rfl,hH⟩;refine ⟨_,rfl,fun a hF=>JL hF hH ?_⟩;replace pld0:=pld0.le hlf15;replace pld1:=pld1.le hlf15;replace pld2:=pld2.le hlf15;replace pld3:=pld3.le hlf15;replace hldf:=hldf.le hlf15;replace hldt:=hldt.le hlf15;replace hldi:=hldi.le hlf15;replace pc0:=pc0.le hlf15;replace pc1:=pc1.le hlf15;replace pcad:=pcad.le hlf15;replace pcaf:=pcaf.le hlf15;replace hcad:=hcad.le hlf15;replace hcaf:=hcaf.le hlf15;replace px0:=px0.le hlf15;replace px1:=px1.le hlf15;replace pxad:=pxad.le hlf15;replace pxaf:=pxaf.le hlf15;replace hxad:=hxad.le hlf15;replace hxaf:=hxaf.le hlf15;replace hCc:=hCc.le hlf15;replace hCx:=hCx.le hlf15;obtain rfl:kl15=(monL cad (n)).length:=(hC15.ok _ hx15).one.len;have hpw15:Pows Hf15 ql15 (monL cad (n)):=(hC15.ok _ hx15).one.pw;have hpl15:SumH Hf15 (.map (some p15)) (plM (monL cad (n))):=(hC15.ok _ hx15).one.pl;obtain ⟨⟨e1,hz15⟩,⟨e2,hb15⟩,e3,hs15⟩:(kz15=(clS cad caf (n)).length∧RowsR Hf15 qz15 (clS cad caf (n)))∧(ky15=(bdS cad caf (n)).length∧RowsR Hf15 qy15 (bdS cad caf (n)))∧kx15=(csS cad caf (n)).length∧RowsR Hf15 qx15 (csS cad caf (n)):=hL15;subst e1 e2 e3;refine Jg (JG rfl) rfl (Jg (Ju u95 rfl sz57 rfl) rfl (Jg (PR.loadCx (b:=b15) (k:=5) (v:=.slice qx15 (csS cad caf (n)).length cx15) rfl At.z hx15 rfl rfl pl57) rfl (Jg (Jm u57 rfl rfl) rfl (Jg (Jc rfl) rfl (Jf (Ja (hK4 (Jn (JE (σ:=HP × List (Int × Lv) × List (Int × Lv) × Nat × Vs × Option Addr × Nat × Vs × Nat) (fun ⟨Hk,lck,lxk,mk,vk,q,c,vs,k⟩=>[(20,.int .i64 (k:Int)),(9,.slice q k c)]) (fun ⟨Hk,lck,lxk,mk,vk,q,c,vs,k⟩=>Hk) (fun ⟨Hk,lck,lxk,mk,vk,q,c,vs,k⟩=>cpx lc lck::ownIs 2 vs (moK cad caf xad xaf ldt lds ldf.length n k)::own 22 1 q k c (slicesI vs (moK cad caf xad xaf ldt lds ldf.length n k))::knw (kF ldt lds) kbld mk vk::cpx lx lxk::L) (fun ⟨Hk,lck,lxk,mk,vk,q,c,vs,k⟩=>Le Hf15 Hk∧(CpxOk Hk cad caf (fun _=>False) lck∧Nxt (fun _=>False) lck)∧(CpxOk Hk xad xaf (fun _=>False) lxk∧Nxt (fun _=>False) lxk)∧k≤(csS cad caf n).length) (fun ⟨Hk,lck,lxk,mk,vk,q,c,vs,k⟩=>(csS cad caf n).length - k) (_,ls15,lsx,km,kv,qo12,co12,nilVs,0) ⟨Le.refl _,⟨hC15,hN15⟩,⟨hCx,hNx⟩,by show 0≤_;omega⟩ ⟨rfl,⟨rfl,trivial⟩⟩ rfl rfl ?_)))))))));rintro ⟨Hk,lck,lxk,mk,vk,q,c,vs,k⟩ ⟨hlk,⟨hCk,hNk⟩,⟨hXk,hYk⟩,hk⟩ _ hAg0;replace pld0:=pld0.le hlk;replace pld1:=pld1.le hlk;replace pld2:=pld2.le hlk;replace pld3:=pld3.le hlk;replace hldf:=hldf.le hlk;replace hldt:=hldt.le hlk;replace hldi:=hldi.le hlk;replace pc0:=pc0.le hlk;replace pc1:=pc1.le hlk;replace pcad:=pcad.le hlk;replace pcaf:=pcaf.le hlk;replace hcad:=hcad.le hlk;replace hcaf:=hcaf.le hlk;replace px0:=px0.le hlk;replace px1:=px1.le hlk;replace pxad:=pxad.le hlk;replace pxaf:=pxaf.le hlk;replace hxad:=hxad.le hlk;replace hxaf:=hxaf.le hlk;replace hCc:=hCc.le hlk;replace hCx:=hCx.le hlk;replace hC15:=hC15.le hlk;replace hpw15:=hpw15.le hlk;replace hpl15:=hpl15.le hlk;replace hz15:=hz15.le hlk;replace hb15:=hb15.le hlk;replace hs15:=hs15.le hlk;refine Je fun _ hK5 _=>(Jb (Jg (JR rfl rfl) rfl (Jf (Ja (hK5 (Je fun _ hK6 _=>(Jp rfl (fun h21=>?_) (fun h21=>?_))))))))
 ·
  have hk1:k<(csS cad caf n).length:=by omega
  have hrm:=rw_mem hk1;have hrk:=hcsR.led _ hrm;have hrl:=hrk.1.len;have hL9:=hLd _ hrm;have hi9:=him _ hrm;have hlead:=hL9.lead;refine Jo (Ja (hK6 (Je fun _ hK7 _=>(Jn (Je fun _ hK8 _=>(Jb (Jg (JP u57 sz22 rfl rfl rfl hk1 hs15.sm) rfl ?_)))))));obtain ⟨qe23,ce23,he23,le23,Fe23⟩:=hs15 k hk1;refine Jg (JB rfl he23 pl22) rfl (Jg (Jd rfl) rfl (Jf (Ja (hK8 (Jb (Jg (Jc rfl) rfl (Jg (Jc rfl) rfl (Jg (Jc rfl) rfl (Jg (Jc rfl) rfl (Jg (Jc rfl) rfl (Jg (Jc rfl) rfl (Jw fn68 rfl rfl fun w hH=>(at_c pc0 pc1 pcad pcaf hcad hcaf hdc h8c (by omega) hAc hfit (fun m hm hf=>hom_of hGc hwc h8c hdc (by omega) hf) hCk hNk (hH.front .z)).mono ?_))))))))))));rintro _ w ⟨Hf30,ls30,⟨b30,p30,⟨ql30,kl30,cl30⟩,⟨qm30,km30,cm30⟩,⟨qz30,kz30,cz30⟩,⟨qy30,ky30,cy30⟩,⟨qx30,kx30,cx30⟩⟩,hlf30,hC30,hN30,hx30,⟨hL30,hM30,hkp30⟩,rfl,hH⟩;refine ⟨_,rfl,fun a hF=>JL hF hH ?_⟩;replace pld0:=pld0.le hlf30;replace pld1:=pld1.le hlf30;replace pld2:=pld2.le hlf30;replace pld3:=pld3.le hlf30;replace hldf:=hldf.le hlf30;replace hldt:=hldt.le hlf30;replace hldi:=hldi.le hlf30;replace pc0:=pc0.le hlf30;replace pc1:=pc1.le hlf30;replace pcad:=pcad.le hlf30;replace pcaf:=pcaf.le hlf30;replace hcad:=hcad.le hlf30;replace hcaf:=hcaf.le hlf30;replace px0:=px0.le hlf30;replace px1:=px1.le hlf30;replace pxad:=pxad.le hlf30;replace pxaf:=pxaf.le hlf30;replace hxad:=hxad.le hlf30;replace hxaf:=hxaf.le hlf30;replace hCc:=hCc.le hlf30;replace hCx:=hCx.le hlf30;replace hC15:=hC15.le hlf30;replace hpw15:=hpw15.le hlf30;replace hpl15:=hpl15.le hlf30;replace hz15:=hz15.le hlf30;replace hb15:=hb15.le hlf30;replace hs15:=hs15.le hlf30;replace hCk:=hCk.le hlf30;replace hXk:=hXk.le hlf30;replace Fe23:=Fe23.le hlf30;obtain rfl:kl30=(monL cad (n)).length:=(hC30.ok _ hx30).one.len;have hpw30:Pows Hf30 ql30 (monL cad (n)):=(hC30.ok _ hx30).one.pw;have hpl30:SumH Hf30 (.map (some p30)) (plM (monL cad (n))):=(hC30.ok _ hx30).one.pl;obtain ⟨⟨e1,hz30⟩,⟨e2,hb30⟩,e3,hs30⟩:(kz30=(clS cad caf (n)).length∧RowsR Hf30 qz30 (clS cad caf (n)))∧(ky30=(bdS cad caf (n)).length∧RowsR Hf30 qy30 (bdS cad caf (n)))∧kx30=(csS cad caf (n)).length∧RowsR Hf30 qx30 (csS cad caf (n)):=hL30;subst e1 e2 e3;refine Jg (Jc rfl) rfl (Jw fn137 rfl rfl fun w hH=>hH.lend .z fun Hl1 hle1 hA1 hB1 hH=>(sum_c (M:=20) (cpx_cell hx30 hA1 rfl) (cpx_cell hx30 hA1 rfl) (Fe23.le hle1) (hpw30.le hle1) (monL_pok h8c) (by omega) (by omega) (fun j=>by have:=hrk.1.val j;omega) (by omega) hH).mono ?_);rintro _ w ⟨bo32,rfl,hH⟩;replace hH:=hB1 _ _ hH;refine ⟨_,rfl,fun a hF=>JL hF hH ?_⟩;refine Jw fn150 rfl rfl fun w hH=>hH.lend (.s .z) fun Hl1 hle1 hA1 hB1 hH=>(leadTo_c (pld0.le hle1) (pld1.le hle1) (pld2.le hle1) (pld3.le hle1) (hldf.le hle1) (hldt.le hle1) (hldi.le hle1) (omap_H hA1) (sumR_mon h8c (by omega)) hL9 hnn hn8 (by omega) (hH.front (.s (.s (.s .z))))).mono ?_;rintro _ w ⟨bo33,mo33,vo33,rfl,hH⟩;replace hH:=hB1 _ _ hH;refine ⟨_,rfl,fun a hF=>JL hF hH ?_⟩;refine EA (.s .z) fun Ho33 hleo33 hAo33=>?_;replace pld0:=pld0.le hleo33;replace pld1:=pld1.le hleo33;replace pld2:=pld2.le hleo33;replace pld3:=pld3.le hleo33;replace hldf:=hldf.le hleo33;replace hldt:=hldt.le hleo33;replace hldi:=hldi.le hleo33;replace pc0:=pc0.le hleo33;replace pc1:=pc1.le hleo33;replace pcad:=pcad.le hleo33;replace pcaf:=pcaf.le hleo33;replace hcad:=hcad.le hleo33;replace hcaf:=hcaf.le hleo33;replace px0:=px0.le hleo33;replace px1:=px1.le hleo33;replace pxad:=pxad.le hleo33;replace pxaf:=pxaf.le hleo33;replace hxad:=hxad.le hleo33;replace hxaf:=hxaf.le hleo33;replace hCc:=hCc.le hleo33;replace hCx:=hCx.le hleo33;replace hC15:=hC15.le hleo33;replace hpw15:=hpw15.le hleo33;replace hpl15:=hpl15.le hleo33;replace hz15:=hz15.le hleo33;replace hb15:=hb15.le hleo33;replace hs15:=hs15.le hleo33;replace hCk:=hCk.le hleo33;replace hXk:=hXk.le hleo33;replace Fe23:=Fe23.le hleo33;replace hC30:=hC30.le hleo33;replace hpw30:=hpw30.le hleo33;replace hpl30:=hpl30.le hleo33;replace hz30:=hz30.le hleo33;replace hb30:=hb30.le hleo33;replace hs30:=hs30.le hleo33;have hxo33:=omap_H hAo33;refine Jw fn70 rfl rfl fun w hH=>(class_c (Ms:=20) px0 px1 pxad pxaf hxad hxaf hxo33 hlead hGx (by omega) hfix hXk hYk (by omega) hi9 (hH.front (.s (.s (.s (.s (.s .z))))))).mono ?_;rintro _ w ⟨Hf34,ls34,qo34,co34,hlf34,hC34,hN34,hkp34,rfl,hH⟩;refine ⟨_,rfl,fun a hF=>JL hF hH ?_⟩;replace pld0:=pld0.le hlf34;replace pld1:=pld1.le hlf34;replace pld2:=pld2.le hlf34;replace pld3:=pld3.le hlf34;replace hldf:=hldf.le hlf34;replace hldt:=hldt.le hlf34;replace hldi:=hldi.le hlf34;replace pc0:=pc0.le hlf34;replace pc1:=pc1.le hlf34;replace pcad:=pcad.le hlf34;replace pcaf:=pcaf.le hlf34;replace hcad:=hcad.le hlf34;replace hcaf:=hcaf.le hlf34;replace px0:=px0.le hlf34;replace px1:=px1.le hlf34;replace pxad:=pxad.le hlf34;replace pxaf:=pxaf.le hlf34;replace hxad:=hxad.le hlf34;replace hxaf:=hxaf.le hlf34;replace hCc:=hCc.le hlf34;replace hCx:=hCx.le hlf34;replace hC15:=hC15.le hlf34;replace hpw15:=hpw15.le hlf34;replace hpl15:=hpl15.le hlf34;replace hz15:=hz15.le hlf34;replace hb15:=hb15.le hlf34;replace hs15:=hs15.le hlf34;replace hCk:=hCk.le hlf34;replace hXk:=hXk.le hlf34;replace Fe23:=Fe23.le hlf34;replace hC30:=hC30.le hlf34;replace hpw30:=hpw30.le hlf34;replace hpl30:=hpl30.le hlf34;replace hz30:=hz30.le hlf34;replace hb30:=hb30.le hlf34;replace hs30:=hs30.le hlf34;replace hxo33:=hxo33.le hlf34;refine EK (EM u57 ze22 sz22 rfl rfl) rfl fun qo35 co35=>(EF u57 ze22 sz22 by22 rfl rfl rfl rfl (by omega) .z (.s (.s (.s (.s (.s (.s .z)))))) (fun _ _=>(.s (.s (.s (.s (.s (.s .z))))))) rfl fun qo36 co36=>(Jg (Jd rfl) rfl (Jf (JF (Ja (hK7 (Jb (Jg (JC rfl rfl (by first | exact nw _ (by omega) | rfl)) rfl (Jg (Jc rfl) rfl (Jf (Ja (Jr (.s (.s (.s (.s (.s (.s (.s .z))))))) (Jr (.s (.s (.s (.s (.s (.s .z)))))) (Jr (.s (.s (.s (.s (.s (.s .z)))))) (Jr (.s (.s (.s (.s (.s (.s .z)))))) ?_)))))))))))))));refine Jr (.s (.s (.s (.s (.s (.s .z)))))) (Jr (.s (.s (.s (.s (.s .z))))) (Jr (.s (.s (.s (.s (.s (.s (.s .z))))))) (Jr (.s (.s (.s (.s (.s (.s (.s .z))))))) (EJ.isSnoc (rs:=moK cad caf xad xaf ldt lds ldf.length n k) (moK_len hk) rfl (JK (.s .z) (JK (.s (.s .z)) (Jr (.s .z) (Jr (.s (.s .z)) (Jr (.s (.s (.s (.s .z)))) (Jr (.s (.s (.s .z))) (Jr (.s (.s (.s (.s .z)))) ?_)))))))))));exact hAg0 (_,ls30,ls34,mo33,vo33,qo36,co36,setV vs k (qo34,co34),k+1) ⟨(((hlk.trans hlf30).trans hleo33).trans hlf34),⟨hC30,hN30⟩,⟨hC34,hN34⟩,by show k+1≤_;omega⟩ (by show (csS cad caf n).length - (k+1)<(csS cad caf n).length - k;omega) 22 rfl rfl ⟨rfl,⟨rfl,trivial⟩⟩ rfl (by dsimp only;rw [moK_succ hk1,slicesI_set (moK_len hk)];rfl)
 ·
  refine JH (Jl (Jl (JQ (Ja (hK3 (Je fun _ hK9 _=>(Jb (Jg (Jc rfl) rfl (Jg (Jd rfl) rfl (Jf (Ja (hK9 (Js (Jq rfl (Res.tmp rfl) fun w hH=>?_))))))))))))));replace hH:=hH.sublist (.cons_cons _ (.cons_cons _ (.cons_cons _ (.cons_cons _ (.cons_cons _ (List.Sublist.refl _))))))
  have hke:k=(csS cad caf n).length:=by omega
  rw [moK_end hke] at hH;exact ⟨_,_,_,_,_,q,c,vs,(hlf15.trans hlk),⟨hCk,hNk⟩,⟨hXk,hYk⟩,by rw [moS_len,hke],by unfold ownRs;rw [moS_len,← hke];exact ((hH.front (.s .z)).front (.s (.s .z))).star⟩
section
variable {ad bd : List Int} {af bf ms : List (List Term)} {n : Int}
theorem first_mm:firstOf [mpC ad af bd bf ms,if (!askB n)=true then 2 else 0]=mm1 ad af bd bf ms n:=by
 rw [firstOf_two];unfold mpC mm1
 cases isMp ad af bd bf ms <;> cases askB n <;> rfl
theorem mo_mm (h:ms.length=ad.length):moS ad af bd bf bd (ssF ms) ad.length n=mmS ad af bd bf ms n:=by
 unfold moS mmS
 congr 1
 funext r
 unfold moR mmR imS;rw [h]
end
theorem fn84:Fn Tryz.prog 84:=⟨_,Tryz.func84,by kernel_rfl,rfl⟩
section
variable {ds : List Int} {fs : List (List Term)} {n m : Int}
theorem up_wi (ds:List Int) (n:Int):upB ds n=wiB ds 0 (n+1):=by
 unfold upB wiB;rw [show (n+1+1 - max (0:Int) 0).toNat=(n+2).toNat by omega]
 congr 1
 funext k
 rw [show max (0:Int) 0+(k:Int)=(k:Int) by omega]
theorem wi_f3 {k t:Int} (h:wiB ds 0 t=true) (h0:0≤k) (hk:k+1≤t):fit3 ds k:=⟨⟨wi_fit h (by omega) (by omega),wi_fit h (by omega) (by omega)⟩,fun h1=>wi_fit h (by omega) (by omega)⟩
end
section
variable {ds : List Int} {fs : List (List Term)} {n m : Int}
theorem upC_n (h:upC ds n≠0):upC ds n=3∧wiB ds 0 (n+1)=false:=by
 unfold upC at h ⊢;rw [up_wi] at h ⊢
 cases hh:wiB ds 0 (n+1) with
 | true=>rw [hh] at h;exact absurd rfl h
 | false=>exact ⟨rfl,rfl⟩
theorem upC_z (h : ¬upC ds n≠0):wiB ds 0 (n+1)=true:=by
 unfold upC at h;rw [up_wi] at h
 cases hh:wiB ds 0 (n+1) with
 | true=>rfl
 | false=>rw [hh] at h;simp at h
end
def Nn (p:Pw):Prop:=p.length=8∧∀j,0≤p.getD j 0
theorem Nn.add {p q:Pw} (hp:Nn p) (hq:Nn q):Nn (addp p q):=⟨by simp,fun j=>by
 rw [addp_get hp.1 hq.1]
 have:=hp.2 j
 have:=hq.2 j
 omega⟩
def par (x:Int):Int:=if x % 2=1 then -1 else 1
theorem par_add (x y:Int):par (x+y)=par x * par y:=by
 unfold par
 rcases (show x % 2=0∨x % 2=1 by omega) with h | h <;> rcases (show y % 2=0∨y % 2=1 by omega) with k | k
 ·rw [if_neg (by omega),if_neg (by omega),if_neg (by omega)];rfl
 ·rw [if_pos (by omega),if_neg (by omega),if_pos (by omega)];rfl
 ·rw [if_pos (by omega),if_pos (by omega),if_neg (by omega)];rfl
 ·rw [if_neg (by omega),if_pos (by omega),if_pos (by omega)];rfl
section
variable {ds : Pw}
theorem oin_nn (hd : ∀j,0≤ds.getD j 0∧ds.getD j 0≤12) {p:Pw} (hp:Nn p) (i:Nat) : ∀m,0≤oin ds p i m
 | 0=>by simp [oin]
 | m+1=>by
  have h1:=oin_nn hd hp i m
  have h2:=hp.2 (i+1+m)
  simp only [oin]
  rcases deg2 hd (i+1+m) with h | h <;> rw [h] <;> omega
theorem oddTo_nn (hd : ∀j,0≤ds.getD j 0∧ds.getD j 0≤12) {p q:Pw} (hp:Nn p) : ∀k,0≤oddTo ds p q k
 | 0=>by simp [oddTo]
 | k+1=>by
  have h1:=oddTo_nn hd hp (q:=q) k
  have h2:=oin_nn hd hp k (ds.length - (k+1))
  simp only [oddTo]
  split <;> omega
theorem sgn_par (hd : ∀j,0≤ds.getD j 0∧ds.getD j 0≤12) {p q:Pw} (hp:Nn p) (h:hits ds p q=false):sgn ds p q=par (oddTo ds p q ds.length):=by
 unfold sgn par;rw [h,if_neg (by decide),Int.tmod_eq_emod_of_nonneg (oddTo_nn hd hp _)]
theorem sgn_z0 {p q:Pw} (h:hits ds p q=true):sgn ds p q=0:=by unfold sgn;rw [h];rfl
theorem oin_add {p p':Pw} (hp:p.length=8) (hp':p'.length=8) (i:Nat) : ∀m,oin ds (addp p p') i m=oin ds p i m+oin ds p' i m
 | 0=>by simp [oin]
 | m+1=>by
  simp only [oin]
  rw [oin_add hp hp' i m,addp_get hp hp',Int.mul_add]
  omega
theorem oddTo_addl {p p' q:Pw} (hp:p.length=8) (hp':p'.length=8) : ∀k,oddTo ds (addp p p') q k=oddTo ds p q k+oddTo ds p' q k
 | 0=>by simp [oddTo]
 | k+1=>by
  simp only [oddTo]
  rw [oddTo_addl hp hp' k,oin_add hp hp']
  split <;> omega
theorem hits_at {p q:Pw} (h:hits ds p q=false) {i:Nat} (hi:i<ds.length):(ds.getD i 0).tmod 2≠0→¬(0<p.getD i 0∧0<q.getD i 0):=fun ho hh=>by
 have:=List.any_eq_false.1 h i (List.mem_range.2 hi)
 unfold hitAt at this
 rw [decide_eq_true ho,decide_eq_true hh.1,decide_eq_true hh.2] at this
 exact this rfl
theorem hits_of {p q:Pw} (h : ∀i,i<ds.length→(ds.getD i 0).tmod 2≠0→¬(0<p.getD i 0∧0<q.getD i 0)):hits ds p q=false:=hits_no fun i hi=>by
 have:=h i hi
 unfold hitAt
 by_cases h1:(ds.getD i 0).tmod 2≠0
 ·have h2:=this h1
  rw [decide_eq_true h1]
  by_cases h3:0<p.getD i 0
  ·rw [decide_eq_true h3,decide_eq_false (show ¬0<q.getD i 0 from fun h4=>h2 ⟨h3,h4⟩)]
   rfl
  ·rw [decide_eq_false h3]
   rfl
 ·rw [decide_eq_false h1]
  rfl
theorem oddTo_addr {p q q':Pw} (hq:Nn q) (hq':Nn q') (h:hits ds q q'=false) : ∀k,k≤ds.length→oddTo ds p (addp q q') k=oddTo ds p q k+oddTo ds p q' k
 | 0,_=>by simp [oddTo]
 | k+1,hk=>by
  have ih:=oddTo_addr (p:=p) hq hq' h k (by omega)
  have h1:=hits_at h (i:=k) (by omega)
  have h2:=hq.2 k
  have h3:=hq'.2 k
  simp only [oddTo]
  rw [ih,addp_get hq.1 hq'.1]
  by_cases ho:(ds.getD k 0).tmod 2≠0
  ·have h4:=h1 ho
   by_cases ha:0<q.getD k 0
   ·have hb : ¬0<q'.getD k 0:=fun hb=>h4 ⟨ha,hb⟩
    rw [if_pos ⟨ho,by omega⟩,if_pos ⟨ho,ha⟩,if_neg fun hh=>hb hh.2]
    omega
   ·by_cases hb:0<q'.getD k 0
    ·rw [if_pos ⟨ho,by omega⟩,if_neg fun hh=>ha hh.2,if_pos ⟨ho,hb⟩]
     omega
    ·rw [if_neg fun hh=>by have:=hh.2;omega,if_neg fun hh=>ha hh.2,if_neg fun hh=>hb hh.2]
     omega
  ·rw [if_neg fun hh=>ho hh.1,if_neg fun hh=>ho hh.1,if_neg fun hh=>ho hh.1]
   omega
theorem sgn_assoc (hd : ∀j,0≤ds.getD j 0∧ds.getD j 0≤12) {p q r:Pw} (hp:Nn p) (hq:Nn q) (hr:Nn r):sgn ds p q * sgn ds (addp p q) r=sgn ds q r * sgn ds p (addp q r):=by
 cases h1:hits ds p q with
 | true=>
  have h2:hits ds p (addp q r)=true:=by
   cases hh:hits ds p (addp q r) with
   | true=>rfl
   | false=>
    have:=hits_of (ds:=ds) (p:=p) (q:=q) fun i hi ho hx=>hits_at hh hi ho ⟨hx.1,by rw [addp_get hq.1 hr.1];have:=hr.2 i;omega⟩;rw [this] at h1
    cases h1
  rw [sgn_z0 h1,sgn_z0 h2,Int.zero_mul,Int.mul_zero]
 | false=>
  cases h3:hits ds q r with
  | true=>
   have h2:hits ds (addp p q) r=true:=by
    cases hh:hits ds (addp p q) r with
    | true=>rfl
    | false=>
     have:=hits_of (ds:=ds) (p:=q) (q:=r) fun i hi ho hx=>hits_at hh hi ho ⟨by rw [addp_get hp.1 hq.1];have:=hp.2 i;omega,hx.2⟩;rw [this] at h3
     cases h3
   rw [sgn_z0 h3,sgn_z0 h2,Int.zero_mul,Int.mul_zero]
  | false=>
   have e:hits ds (addp p q) r=hits ds p (addp q r):=by
    cases ha:hits ds p (addp q r) with
    | false=>
     refine hits_of fun i hi ho hx=>?_;have hx1:=hx.1;rw [addp_get hp.1 hq.1] at hx1;have h4:=hits_at ha hi ho;rw [addp_get hq.1 hr.1] at h4;have h5:=hits_at h3 hi ho;have:=hp.2 i;have:=hq.2 i
     by_cases hpi:0<p.getD i 0
     ·exact h4 ⟨hpi,by have:=hx.2;omega⟩
     ·exact h5 ⟨by omega,hx.2⟩
    | true=>
     cases hb:hits ds (addp p q) r with
     | true=>rfl
     | false=>
      have:=hits_of (ds:=ds) (p:=p) (q:=addp q r) fun i hi ho hx=>by
       have hx2:=hx.2;rw [addp_get hq.1 hr.1] at hx2;have h4:=hits_at hb hi ho;rw [addp_get hp.1 hq.1] at h4;have h5:=hits_at h1 hi ho;have:=hq.2 i;have:=hr.2 i
       by_cases hqi:0<q.getD i 0
       ·exact h5 ⟨hx.1,hqi⟩
       ·exact h4 ⟨by have:=hx.1;omega,by omega⟩
      rw [this] at ha
      cases ha
   cases h6:hits ds p (addp q r) with
   | true=>rw [sgn_z0 h6,sgn_z0 (e.trans h6),Int.mul_zero,Int.mul_zero]
   | false=>
    rw [sgn_par hd hp h1,sgn_par hd (hp.add hq) (e.trans h6),sgn_par hd hq h3,sgn_par hd hp h6,oddTo_addl hp.1 hq.1,oddTo_addr hq hr h3 _ (Nat.le_refl _),← par_add,← par_add]
    congr 1
    omega
end
def od (ds:Pw) (j:Nat):Int:=(ds.getD j 0).tmod 2
def eG (i:Nat):Pw:=(List.range 8).map fun j=>if j=i then 1 else 0
theorem eG_len (i:Nat):(eG i).length=8:=by simp [eG]
theorem eG_get {i j:Nat} (hi:i<8):(eG i).getD j 0=if j=i then 1 else 0:=by
 rcases Nat.lt_or_ge j 8 with h | h
 ·simp [eG,List.getD_eq_getElem?_getD,h]
 ·rw [getD_ge (by rw [eG_len];omega),if_neg (by omega)]
theorem eG_nn {i:Nat} (hi:i<8):Nn (eG i):=⟨eG_len i,fun j=>by rw [eG_get hi];split <;> omega⟩
def ow (ds p:Pw):Nat→Int
 | 0=>0
 | k+1=>ow ds p k+od ds k * p.getD k 0
section
variable {ds : Pw}
theorem od_cases (hd : ∀j,0≤ds.getD j 0∧ds.getD j 0≤12) (j:Nat):od ds j=0∨od ds j=1:=deg2 hd j
theorem oin_ow (p:Pw) (i:Nat) : ∀m,oin ds p i m=ow ds p (i+1+m) - ow ds p (i+1)
 | 0=>by simp [oin]
 | m+1=>by
  simp only [oin]
  rw [oin_ow p i m,show i+1+(m+1)=(i+1+m)+1 by omega]
  simp only [ow]
  show _+od ds (i+1+m) * _=_
  omega
theorem ow_eG {i:Nat} (hi:i<8) : ∀k,ow ds (eG i) k=if i<k then od ds i else 0
 | 0=>by simp [ow]
 | k+1=>by
  simp only [ow]
  rw [ow_eG hi k,eG_get hi]
  by_cases h:k=i
  ·subst h
   rw [if_neg (by omega),if_pos rfl,if_pos (by omega)]
   omega
  ·rw [if_neg h,Int.mul_zero]
   by_cases h2:i<k
   ·rw [if_pos h2,if_pos (by omega)]
    omega
   ·rw [if_neg h2,if_neg (by omega)]
    omega
def Od1 (ds p:Pw):Prop:=∀j,j<ds.length→od ds j=1→p.getD j 0≤1
theorem oddTo_r (hd : ∀j,0≤ds.getD j 0∧ds.getD j 0≤12) {t:Pw} {i:Nat} (hi:i<ds.length) (h8:ds.length≤8) : ∀k,k≤ds.length→oddTo ds t (eG i) k=if i<k then od ds i * (ow ds t ds.length - ow ds t (i+1)) else 0
 | 0,_=>by simp [oddTo]
 | k+1,hk=>by
  simp only [oddTo]
  rw [oddTo_r hd hi h8 k (by omega),eG_get (by omega),oin_ow,show k+1+(ds.length - (k+1))=ds.length by omega]
  by_cases h:k=i
  ·subst h
   rw [if_neg (show ¬k<k by omega),if_pos (show k<k+1 by omega),if_pos rfl]
   rcases od_cases hd k with h1 | h1
   ·rw [h1,if_neg fun hh=>hh.1 h1]
    omega
   ·rw [h1,if_pos ⟨by show od ds k≠0;omega,by decide⟩]
    omega
  ·have e : ¬((ds.getD k 0).tmod 2≠0∧0<if k=i then (1:Int) else 0):=fun hh=>by
    have h2:=hh.2
    rw [if_neg h] at h2
    omega
   rw [if_neg e]
   by_cases h2:i<k
   ·rw [if_pos h2,if_pos (by omega)]
    omega
   ·rw [if_neg h2,if_neg (by omega)]
    omega
theorem oddTo_l (hd : ∀j,0≤ds.getD j 0∧ds.getD j 0≤12) {t:Pw} (ht:Nn t) (h1:Od1 ds t) {i:Nat} (hi:i<ds.length) (h8:ds.length≤8) : ∀k,k≤ds.length→oddTo ds (eG i) t k=od ds i * ow ds t (min k i)
 | 0,_=>by simp [oddTo,ow]
 | k+1,hk=>by
  simp only [oddTo]
  rw [oddTo_l hd ht h1 hi h8 k (by omega),oin_ow,show k+1+(ds.length - (k+1))=ds.length by omega,ow_eG (by omega),ow_eG (by omega),if_pos hi]
  by_cases h:k<i
  ·rw [if_neg (show ¬i<k+1 by omega),Nat.min_eq_left (by omega),Nat.min_eq_left (by omega)]
   simp only [ow]
   have h2:=ht.2 k
   rcases od_cases hd k with h3 | h3
   ·rw [h3,if_neg fun hh=>hh.1 h3]
    simp
   ·have h4:=h1 k (by omega) h3
    rw [h3,Int.one_mul,Int.mul_add]
    by_cases h5:0<t.getD k 0
    ·rw [if_pos ⟨by show od ds k≠0;omega,h5⟩,show t.getD k 0=1 by omega]
     omega
    ·rw [if_neg fun hh=>h5 hh.2,show t.getD k 0=0 by omega]
     omega
  ·rw [if_pos (show i<k+1 by omega),Nat.min_eq_right (by omega),Nat.min_eq_right (by omega)]
   split <;> omega
theorem hits_symm (p q:Pw):hits ds p q=hits ds q p:=by
 unfold hits
 congr 1
 funext i
 unfold hitAt;rw [Bool.and_comm (decide (0<p.getD i 0))]
theorem emod_od (hd : ∀j,0≤ds.getD j 0∧ds.getD j 0≤12) (j:Nat):ds.getD j 0 % 2=od ds j:=by
 unfold od;rw [Int.tmod_eq_emod_of_nonneg (hd j).1]
theorem ow_par (hd : ∀j,0≤ds.getD j 0∧ds.getD j 0≤12) (p:Pw) : ∀k,wsum ds p k % 2=ow ds p k % 2
 | 0=>by simp [wsum,ow]
 | k+1=>by
  have ih:=ow_par hd p k
  have h1:(ds.getD k 0 * p.getD k 0) % 2=(od ds k * p.getD k 0) % 2:=by
   rw [Int.mul_emod,Int.mul_emod (od ds k),show od ds k % 2=ds.getD k 0 % 2 by rw [← emod_od hd k];omega]
  simp only [wsum,ow]
  omega
theorem par_mod {x y:Int} (h:x % 2=y % 2):par x=par y:=by unfold par;rw [h]
theorem sgn_comm (hd : ∀j,0≤ds.getD j 0∧ds.getD j 0≤12) {t:Pw} (ht:Nn t) (h1:Od1 ds t) {i:Nat} (hi:i<ds.length) (h8:ds.length≤8):sgn ds t (eG i)=par (wsum ds t ds.length * ds.getD i 0) * sgn ds (eG i) t:=by
 cases hh:hits ds t (eG i) with
 | true=>rw [sgn_z0 hh,sgn_z0 ((hits_symm _ _).trans hh),Int.mul_zero]
 | false=>
  have hg:hits ds (eG i) t=false:=(hits_symm _ _).trans hh;rw [sgn_par hd ht hh,sgn_par hd (eG_nn (by omega)) hg,oddTo_r hd hi h8 _ (Nat.le_refl _),if_pos hi,oddTo_l hd ht h1 hi h8 _ (Nat.le_refl _),Nat.min_eq_right (by omega),← par_add];refine par_mod ?_
  have hz:od ds i * (od ds i * t.getD i 0)=0:=by
   rcases od_cases hd i with h | h
   ·rw [h,Int.zero_mul]
   ·have h2:=hits_at hh hi (by show od ds i≠0;omega);rw [eG_get (by omega),if_pos rfl] at h2;have h3:=ht.2 i
    rw [show t.getD i 0=0 by
     rcases Int.lt_or_le 0 (t.getD i 0) with h4 | h4
     ·exact absurd ⟨h4,by decide⟩ h2
     ·omega]
    simp
  have e1:ow ds t (i+1)=ow ds t i+od ds i * t.getD i 0:=rfl
  have e2:(wsum ds t ds.length * ds.getD i 0) % 2=(ow ds t ds.length * od ds i) % 2:=by
   rw [Int.mul_emod,ow_par hd,Int.mul_emod (ow ds t ds.length),show od ds i % 2=ds.getD i 0 % 2 by rw [← emod_od hd i];omega]
  rw [e1,Int.mul_sub,Int.mul_add,hz];rw [Int.mul_comm (ow ds t ds.length)] at e2
  omega
theorem sgn_first (hd : ∀j,0≤ds.getD j 0∧ds.getD j 0≤12) {q:Pw} (hq:Nn q) {i:Nat} (hi:i<ds.length) (h8:ds.length≤8) (h0 : ∀j,j<i→q.getD j 0=0) (ho:od ds i=1→q.getD i 0=0):sgn ds (eG i) q=1:=by
 have hh:hits ds (eG i) q=false:=hits_of fun j hj hoj hx=>by
  have hx1:=hx.1;rw [eG_get (by omega)] at hx1
  by_cases e:j=i
  ·subst e;have h2:=ho ((od_cases hd j).resolve_left hoj);have:=hx.2
   omega
  ·rw [if_neg e] at hx1
   omega
 have hw : ∀k,k≤ds.length→oddTo ds (eG i) q k=0:=fun k=>by
  induction k with
  | zero=>intro _;rfl
  | succ k ih=>
   intro hk;simp only [oddTo];rw [ih (by omega)]
   by_cases h:k<i
   ·rw [if_neg fun hh=>by
     have h1:=h0 k h;have h2:=hh.2
     omega]
    rfl
   ·rw [oin_ow,ow_eG (by omega),ow_eG (by omega),show k+1+(ds.length - (k+1))=ds.length by omega,if_pos hi,if_pos (show i<k+1 by omega)]
    split <;> omega
 rw [sgn_par hd (eG_nn (by omega)) hh,hw _ (Nat.le_refl _)]
 rfl
end
section
variable {ds : Pw}
theorem wG_cong {G G':Pw→Int} : ∀{s:Sm},(∀x∈s,Mo (G x.1) (G' x.1))→Mo (wG G s) (wG G' s)
 | [],_=>Mo.refl _
 | x::s,h=>((h x (by simp)).mull x.2).add (wG_cong fun y hy=>h y (by simp [hy]))
theorem wG_addF (G G':Pw→Int) : ∀s:Sm,wG (fun p=>G p+G' p) s=wG G s+wG G' s
 | []=>rfl
 | x::s=>by
  simp only [wG]
  rw [wG_addF G G' s,Int.mul_add]
  omega
theorem wG_mulF (k:Int) (G:Pw→Int) : ∀s:Sm,wG (fun p=>k * G p) s=k * wG G s
 | []=>by simp [wG]
 | x::s=>by
  simp only [wG]
  rw [wG_mulF k G s,Int.mul_add,← Int.mul_assoc,← Int.mul_assoc,Int.mul_comm x.2 k]
theorem wG_zeroF : ∀s:Sm,wG (fun _=>0) s=0
 | []=>rfl
 | x::s=>by simp only [wG];rw [wG_zeroF s];omega
def lG (ds:Pw) (m:Pw) (G:Pw→Int) (q:Pw):Int:=sgn ds m q * G (addp m q)
def rG (ds:Pw) (q:Pw) (G:Pw→Int) (m:Pw):Int:=sgn ds m q * G (addp m q)
theorem wG_mul1 (G:Pw→Int) (x:Pw × Int) : ∀t:Sm,Mo (wG G (mul1 ds x t)) (x.2 * wG (lG ds x.1 G) t)
 | []=>by
  show Mo 0 (x.2 * 0)
  rw [Int.mul_zero]
  exact Mo.refl _
 | y::t=>by
  have ih:=wG_mul1 G x t
  have e:mul1 ds x (y::t)=(if sgn ds x.1 y.1=0 then [] else [(addp x.1 y.1,(sgn ds x.1 y.1 * x.2 * y.2).tmod 10007)])++mul1 ds x t:=rfl
  rw [e,wG_app]
  simp only [wG]
  rw [Int.mul_add]
  refine Mo.add ?_ ih
  split
  ·rename_i h
   show Mo 0 _
   unfold lG
   rw [h,Int.zero_mul,Int.mul_zero,Int.mul_zero]
   exact Mo.refl _
  ·show Mo (_ * G (addp x.1 y.1)+0) _
   rw [Int.add_zero]
   refine ((Mo.tmod _).mul _).trans ?_
   have e2:sgn ds x.1 y.1 * x.2 * y.2 * G (addp x.1 y.1)=x.2 * (y.2 * lG ds x.1 G y.1):=by
    unfold lG
    rw [Int.mul_comm (sgn ds x.1 y.1) x.2,Int.mul_assoc,Int.mul_assoc,Int.mul_left_comm (sgn ds x.1 y.1) y.2]
   rw [e2]
   exact Mo.refl _
theorem wG_mulL (G:Pw→Int) (t:Sm) : ∀s:Sm,Mo (wG G (mulL ds s t)) (wG (fun p=>wG (lG ds p G) t) s)
 | []=>Mo.refl _
 | x::s=>by
  have ih:=wG_mulL G t s
  have e:mulL ds (x::s) t=mul1 ds x t++mulL ds s t:=rfl
  rw [e,wG_app]
  exact (wG_mul1 G x t).add ih
theorem wG_times (G:Pw→Int) (s t:Sm):Mo (wG G (timesS ds s t)) (wG (fun p=>wG (lG ds p G) t) s):=by
 have h:=wG_acc G (mulL ds s t) [];have h0:wG G []=0:=rfl;rw [h0,Int.zero_add] at h;exact h.trans (wG_mulL G t s)
def tG (ds:Pw) (im:Sm) (p:Pw) (i:Nat) (G:Pw→Int):Int:=wG (fun r=>sgn ds (leftP p i) r * (sgn ds (addp (leftP p i) r) (behP p (i+1)) * G (addp (addp (leftP p i) r) (behP p (i+1))))) im
theorem wG_dT (G:Pw→Int) (im:Sm) (p:Pw) (i:Nat):Mo (wG G (dT ds im p i)) (tG ds im p i G):=by
 unfold dT;refine (wG_times G _ _).trans ((wG_times _ _ _).trans ?_);simp only [wG,Int.one_mul,Int.add_zero];refine wG_cong fun x _=>?_;unfold lG;exact Mo.refl _
def dG (ds:Pw) (fs:List (List Term)) (G:Pw→Int) (p:Pw):Nat→Int
 | 0=>0
 | k+1=>dG ds fs G p k+if 0<p.getD k 0 then dsg ds p k * (p.getD k 0 * tG ds (toS (fm fs k)) p k G) else 0
theorem wG_dLk (fs:List (List Term)) (G:Pw→Int) (x:Pw × Int) : ∀k,Mo (wG G (dLk ds fs x k)) (x.2 * dG ds fs G x.1 k)
 | 0=>by
  show Mo 0 (x.2 * 0)
  rw [Int.mul_zero]
  exact Mo.refl _
 | k+1=>by
  have ih:=wG_dLk fs G x k
  rw [dLk_succ,wG_app]
  simp only [dG]
  rw [Int.mul_add]
  refine ih.add ?_
  unfold dP
  split
  ·refine (wG_scl G _ _).trans ?_
   refine ((wG_dT G _ _ _).mull _).trans ?_
   refine ((Mo.fld _).mul _).trans ?_
   have e:dsg ds x.1 k * x.2 * x.1.getD k 0 * tG ds (toS (fm fs k)) x.1 k G=x.2 * (dsg ds x.1 k * (x.1.getD k 0 * tG ds (toS (fm fs k)) x.1 k G)):=by
    rw [Int.mul_comm (dsg ds x.1 k) x.2,Int.mul_assoc,Int.mul_assoc]
   rw [e]
   exact Mo.refl _
  ·rw [Int.mul_zero]
   exact Mo.refl _
theorem wG_dAll (fs:List (List Term)) (G:Pw→Int) : ∀s:Sm,Mo (wG G (dAll ds fs s)) (wG (fun p=>dG ds fs G p 8) s)
 | []=>Mo.refl _
 | x::s=>by
  have ih:=wG_dAll fs G s
  have e:dAll ds fs (x::s)=dLk ds fs x 8++dAll ds fs s:=rfl
  rw [e,wG_app]
  exact (wG_dLk fs G x 8).add ih
theorem wG_dS (fs:List (List Term)) (G:Pw→Int) (s:Sm):Mo (wG G (dS ds fs s)) (wG (fun p=>dG ds fs G p 8) s):=by
 have h:=wG_acc G (dAll ds fs s) [];have h0:wG G []=0:=rfl;rw [h0,Int.zero_add] at h;exact h.trans (wG_dAll fs G s)
theorem cf_wG {M:Int} (p:Pw) : ∀{u:Sm},Sok M u→cf u p=wG (ind p) u
 | [],_=>rfl
 | x::u,h=>by
  have ih:=cf_wG p h.tail
  have hn:=List.nodup_cons.1 (show (x.1::u.map (·.1)).Nodup from h.nodup)
  show (if x.1=p then x.2 else cf u p)=x.2 * ind p x.1+wG (ind p) u
  unfold ind at ih ⊢
  by_cases e:x.1=p
  ·rw [if_pos e,if_pos e,← ih,cf_none fun y hy h2=>hn.1 (List.mem_map.2 ⟨y,hy,h2.trans e.symm⟩)]
   omega
  ·rw [if_neg e,if_neg e,← ih]
   omega
end
section
variable {ds : Pw} {q : Pw} {i : Nat}
theorem ea_get (hq:q.length=8) (hi:i<8) (j:Nat):(addp (eG i) q).getD j 0=(if j=i then 1 else 0)+q.getD j 0:=by rw [addp_get (eG_len i) hq,eG_get hi]
theorem dsg_first (hd : ∀j,0≤ds.getD j 0∧ds.getD j 0≤12) (hq:q.length=8) (hi:i<ds.length) (h8:ds.length≤8) (ho:od ds i=1→q.getD i 0=0) : ∀k,dsg ds (addp (eG i) q) k=(if i<k then par (od ds i) else 1) * dsg ds q k
 | 0=>by simp [dsg]
 | k+1=>by
  have ih:=dsg_first hd hq hi h8 ho k
  simp only [dsg]
  rw [ih,ea_get hq (by omega)]
  by_cases e:k=i
  ·subst e
   rw [if_neg (show ¬k<k by omega),if_pos rfl,if_pos (show k<k+1 by omega),Int.one_mul]
   rcases od_cases hd k with h | h
   ·have h' : ¬(ds.getD k 0).tmod 2=1:=fun hh=>by
     have:od ds k=1:=hh
     omega
    rw [if_neg fun hh=>h' hh.2.1,if_neg fun hh=>h' hh.2.1,h]
    show _=1 * _
    omega
   ·rw [ho h,if_pos ⟨hi,h,by decide⟩,if_neg fun hh=>absurd hh.2.2 (by decide),h]
    show _ = -1 * _
    omega
  ·rw [if_neg e,Int.zero_add]
   have e2:(if i<k then par (od ds i) else 1)=if i<k+1 then par (od ds i) else 1:=by
    by_cases h:i<k
    ·rw [if_pos h,if_pos (by omega)]
    ·rw [if_neg h,if_neg (by omega)]
   rw [e2]
   split
   ·rw [Int.mul_sub,Int.mul_zero]
   ·rfl
theorem behP_first (hq:q.length=8) (hi:i<8) {k:Nat} (hk:i<k):behP (addp (eG i) q) k=behP q k:=list8 (by simp) (by simp) fun j hj=>by
 rw [behP_get hj,behP_get hj,ea_get hq hi]
 by_cases h:j<k
 ·rw [if_pos h,if_pos h]
 ·rw [if_neg h,if_neg h,if_neg (by omega)]
  omega
theorem leftP_at {x:Pw} {k j:Nat} (hj:j<8):(leftP x k).getD j 0=if k=j then x.getD k 0 - 1 else if j<k then x.getD j 0 else 0:=by
 unfold leftP;rw [getD_set8]
 by_cases e:k=j
 ·subst e
  have hl:k<(aheadP x k).length:=by simpa using hj
  rw [if_pos ⟨rfl,hl⟩,if_pos rfl]
 ·rw [if_neg fun h=>e h.1,if_neg e,aheadP_get hj]
theorem leftP_first (hq:q.length=8) (hi:i<8) {k:Nat} (hk:i≤k):leftP (addp (eG i) q) k=addp (eG i) (leftP q k):=by
 refine list8 (by simp [leftP]) (by simp) fun j hj=>?_
 have hl:(leftP q k).length=8:=by simp [leftP]
 rw [addp_get (eG_len i) hl,eG_get hi,leftP_at hj,leftP_at hj,ea_get hq hi,ea_get hq hi]
 by_cases e:k=j
 ·subst e;rw [if_pos rfl,if_pos rfl]
  omega
 ·rw [if_neg e,if_neg e]
  by_cases h:j<k
  ·rw [if_pos h,if_pos h]
  ·rw [if_neg h,if_neg h,if_neg (show ¬j=i by omega)]
   rfl
end
theorem addp_assoc {p q r:Pw} (hp:p.length=8) (hq:q.length=8) (hr:r.length=8):addp (addp p q) r=addp p (addp q r):=list8 (by simp) (by simp) fun j _=>by
 rw [addp_get (by simp) hr,addp_get hp hq,addp_get hp (by simp),addp_get hq hr]
 omega
section
variable {ds : Pw} {q : Pw} {i : Nat}
theorem leftP_nn {x:Pw} {k:Nat} (hx:Nn x) (h:0<x.getD k 0) (hk:k<8):Nn (leftP x k):=⟨by simp [leftP],fun j=>by
 rcases Nat.lt_or_ge j 8 with hj | hj
 ·rw [leftP_at hj]
  have:=hx.2 j
  split
  ·omega
  ·split <;> omega
 ·rw [getD_ge (by simp [leftP];omega)]
  omega⟩
theorem behP_nn {x:Pw} {k:Nat} (hx:Nn x):Nn (behP x k):=⟨by simp,fun j=>by
 rcases Nat.lt_or_ge j 8 with hj | hj
 ·rw [behP_get hj]
  have:=hx.2 j
  split <;> omega
 ·rw [getD_ge (by simp;omega)]
  omega⟩
theorem tG_first (hd : ∀j,0≤ds.getD j 0∧ds.getD j 0≤12) (hq:Nn q) (hi:i<ds.length) (h8:ds.length≤8) (h0 : ∀j,j<i→q.getD j 0=0) (ho:od ds i=1→q.getD i 0=0) {im:Sm} (him : ∀x∈im,Nn x.1) (G:Pw→Int) {k:Nat} (hk:i<k) (hk8:k<8) (hqk:0<q.getD k 0):tG ds im (addp (eG i) q) k G=tG ds im q k (lG ds (eG i) G):=by
 unfold tG;rw [leftP_first hq.1 (by omega) (by omega),behP_first hq.1 (by omega) (by omega)];have hl:=leftP_nn hq hqk hk8;have hb:Nn (behP q (k+1)):=behP_nn hq;have he:Nn (eG i):=eG_nn (by omega);have hf:sgn ds (eG i) (leftP q k)=1:=sgn_first hd hl hi h8 (fun j hj=>by rw [leftP_at (by omega),if_neg (by omega),if_pos (by omega),h0 j hj]) (fun h=>by rw [leftP_at (by omega),if_neg (by omega),if_pos (by omega),ho h])
 have key : ∀s:Sm,(∀x∈s,Nn x.1)→wG (fun r=>sgn ds (addp (eG i) (leftP q k)) r * (sgn ds (addp (addp (eG i) (leftP q k)) r) (behP q (k+1)) * G (addp (addp (addp (eG i) (leftP q k)) r) (behP q (k+1))))) s=wG (fun r=>sgn ds (leftP q k) r * (sgn ds (addp (leftP q k) r) (behP q (k+1)) * lG ds (eG i) G (addp (addp (leftP q k) r) (behP q (k+1))))) s:=fun s=>by
  induction s with
  | nil=>intro _;rfl
  | cons x s ih=>
   intro hs;have hx:=hs x (by simp);simp only [wG];rw [ih fun y hy=>hs y (by simp [hy])]
   congr 2
   have a1:=sgn_assoc hd he hl hx;rw [hf,Int.one_mul] at a1;have a2:=sgn_assoc hd he (hl.add hx) hb;unfold lG;rw [a1,addp_assoc he.1 hl.1 hx.1,Int.mul_assoc,addp_assoc he.1 (hl.add hx).1 hb.1,← Int.mul_assoc (sgn ds (eG i) (addp (leftP q k) x.1)),a2,Int.mul_assoc]
 exact key im him
end
section
variable {ds : Pw} {q : Pw} {i : Nat}
def Ev (ds m:Pw):Prop:=∀j,j<ds.length→od ds j=1→m.getD j 0=0
theorem Ev.ow (hd : ∀j,0≤ds.getD j 0∧ds.getD j 0≤12) {m:Pw} (h:Ev ds m) : ∀k,k≤ds.length→G.ow ds m k=0
 | 0,_=>rfl
 | k+1,hk=>by
  simp only [G.ow]
  rw [Ev.ow hd h k (by omega)]
  rcases od_cases hd k with e | e
  ·rw [e];omega
  ·rw [h k (by omega) e];omega
theorem Ev.hitl (hd : ∀j,0≤ds.getD j 0∧ds.getD j 0≤12) {m r:Pw} (h:Ev ds m):hits ds m r=false:=hits_of fun j hj hoj hx=>by
 have:=h j hj ((od_cases hd j).resolve_left hoj)
 have:=hx.1
 omega
theorem Ev.oddl (hd : ∀j,0≤ds.getD j 0∧ds.getD j 0≤12) {m:Pw} (h:Ev ds m) (r:Pw) : ∀k,k≤ds.length→oddTo ds m r k=0
 | 0,_=>rfl
 | k+1,hk=>by
  simp only [oddTo]
  rw [Ev.oddl hd h r k (by omega),oin_ow,show k+1+(ds.length - (k+1))=ds.length by omega,h.ow hd _ (Nat.le_refl _),h.ow hd _ hk]
  split <;> rfl
theorem Ev.oddr (hd : ∀j,0≤ds.getD j 0∧ds.getD j 0≤12) {m:Pw} (h:Ev ds m) (r:Pw) : ∀k,k≤ds.length→oddTo ds r m k=0
 | 0,_=>rfl
 | k+1,hk=>by
  simp only [oddTo]
  rw [Ev.oddr hd h r k (by omega),if_neg fun hh=>by
   have:=h k (by omega) ((od_cases hd k).resolve_left hh.1)
   have:=hh.2
   omega]
  rfl
theorem Ev.sgnl (hd : ∀j,0≤ds.getD j 0∧ds.getD j 0≤12) {m:Pw} (h:Ev ds m) (hm:Nn m) (r:Pw):sgn ds m r=1:=by
 rw [sgn_par hd hm (h.hitl hd),h.oddl hd r _ (Nat.le_refl _)]
 rfl
theorem Ev.sgnr (hd : ∀j,0≤ds.getD j 0∧ds.getD j 0≤12) {m r:Pw} (h:Ev ds m) (hr:Nn r):sgn ds r m=1:=by
 rw [sgn_par hd hr ((hits_symm _ _).trans (h.hitl hd)),h.oddr hd r _ (Nat.le_refl _)]
 rfl
theorem Ev.left (hd : ∀j,0≤ds.getD j 0∧ds.getD j 0≤12) {m r b:Pw} (h:Ev ds m) (hm:Nn m) (hr:Nn r) (hb:Nn b):sgn ds (addp m r) b=sgn ds r b:=by
 have a:=sgn_assoc hd hm hr hb
 rwa [h.sgnl hd hm,h.sgnl hd hm,Int.one_mul,Int.mul_one] at a
theorem Ev.right (hd : ∀j,0≤ds.getD j 0∧ds.getD j 0≤12) {m r b:Pw} (h:Ev ds m) (hm:Nn m) (hr:Nn r) (hb:Nn b):sgn ds r (addp m b)=sgn ds r b:=by
 have a:=sgn_assoc hd hr hm hb;rw [h.sgnr hd hr,h.sgnl hd hm,Int.one_mul,Int.one_mul] at a
 have e:addp r m=addp m r:=list8 (by simp) (by simp) fun j _=>by rw [addp_get hr.1 hm.1,addp_get hm.1 hr.1];omega
 rw [e,h.left hd hm hr hb] at a;exact a.symm
end
theorem addp_comm {p q:Pw} (hp:p.length=8) (hq:q.length=8):addp p q=addp q p:=list8 (by simp) (by simp) fun j _=>by
 rw [addp_get hp hq,addp_get hq hp]
 omega
theorem addp_left {p q r:Pw} (hp:p.length=8) (hq:q.length=8) (hr:r.length=8):addp p (addp q r)=addp q (addp p r):=by
 rw [← addp_assoc hp hq hr,addp_comm hp hq,addp_assoc hq hp hr]
section
variable {ds : Pw} {fs : List (List Term)} {q : Pw} {i : Nat}
theorem dsg_zero : ∀k,(∀j,j<k→q.getD j 0=0)→dsg ds q k=1
 | 0,_=>rfl
 | k+1,h0=>by
  simp only [dsg]
  rw [dsg_zero k fun j hj=>h0 j (by omega),if_neg fun h=>by
   have h2:=h.2.2
   rw [h0 k (by omega)] at h2
   exact absurd h2 (by decide)]
theorem tG_ev (hd : ∀j,0≤ds.getD j 0∧ds.getD j 0≤12) {im:Sm} (him : ∀x∈im,Nn x.1) {p:Pw} (hm:Ev ds (leftP p i)) (nm:Nn (leftP p i)) (nb:Nn (behP p (i+1))) (G:Pw→Int):tG ds im p i G=wG (fun r=>sgn ds r (addp (leftP p i) (behP p (i+1))) * G (addp r (addp (leftP p i) (behP p (i+1))))) im:=by
 unfold tG;generalize leftP p i=m at hm nm;generalize behP p (i+1)=b at nb
 have key : ∀s:Sm,(∀x∈s,Nn x.1)→wG (fun r=>sgn ds m r * (sgn ds (addp m r) b * G (addp (addp m r) b))) s=wG (fun r=>sgn ds r (addp m b) * G (addp r (addp m b))) s:=fun s=>by
  induction s with
  | nil=>intro _;rfl
  | cons x s ih=>
   intro hs;have hx:=hs x (by simp);simp only [wG];rw [ih fun y hy=>hs y (by simp [hy]),hm.sgnl hd nm,hm.left hd nm hx nb,hm.right hd nm hx nb,Int.one_mul,addp_comm nm.1 hx.1,addp_assoc hx.1 nm.1 nb.1]
 exact key im him
theorem dG_first (hd : ∀j,0≤ds.getD j 0∧ds.getD j 0≤12) (hq:Nn q) (hi:i<ds.length) (h8:ds.length≤8) (h0 : ∀j,j<i→q.getD j 0=0) (ho:od ds i=1→q.getD i 0=0) (him : ∀k,∀x∈toS (fm fs k),Nn x.1) (G:Pw→Int) : ∀k,k≤8→dG ds fs G (addp (eG i) q) k=(if i<k then wG (fun r=>sgn ds r q * G (addp r q)) (toS (fm fs i)) else 0)+par (od ds i) * dG ds fs (lG ds (eG i) G) q k
 | 0,_=>by simp [dG]
 | k+1,hk=>by
  have ih:=dG_first hd hq hi h8 h0 ho him G k (by omega)
  have he:Nn (eG i):=eG_nn (by omega)
  simp only [dG]
  rw [ih,ea_get hq.1 (by omega)]
  rcases Nat.lt_trichotomy k i with h | h | h
  ·rw [if_neg (show ¬i<k by omega),if_neg (show ¬i<k+1 by omega),if_neg (show ¬k=i by omega),h0 k h,if_neg (by omega),if_neg (by omega)]
   simp
  ·subst h
   have hp:=he.add hq
   have hpk:(addp (eG k) q).getD k 0=1+q.getD k 0:=by rw [ea_get hq.1 (by omega),if_pos rfl]
   have hqk:=hq.2 k
   have evl:Ev ds (leftP (addp (eG k) q) k):=fun j hj hjo=>by
    rw [leftP_at (by omega)]
    by_cases e:k=j
    ·subst e
     rw [if_pos rfl,hpk,ho hjo]
     rfl
    ·rw [if_neg e]
     by_cases h2:j<k
     ·rw [if_pos h2,ea_get hq.1 (by omega),if_neg (by omega),h0 j h2]
      rfl
     ·rw [if_neg h2]
   have e:addp (leftP (addp (eG k) q) k) (behP (addp (eG k) q) (k+1))=q:=list8 (by simp) hq.1 fun j hj=>by
    rw [addp_get (by simp) (by simp),leftP_at hj,behP_get hj,ea_get hq.1 (by omega),ea_get hq.1 (by omega),if_pos rfl]
    rcases Nat.lt_trichotomy j k with h2 | h2 | h2
    ·rw [if_neg (by omega),if_pos h2,if_neg (by omega),if_pos (by omega),h0 j h2]
     rfl
    ·subst h2
     rw [if_pos rfl,if_pos (by omega)]
     omega
    ·rw [if_neg (by omega),if_neg (by omega),if_neg (by omega),if_neg (by omega)]
     omega
   have hT:tG ds (toS (fm fs k)) (addp (eG k) q) k G=wG (fun r=>sgn ds r q * G (addp r q)) (toS (fm fs k)):=by
    rw [tG_ev hd (him k) evl (leftP_nn hp (by omega) (by omega)) (behP_nn hp),e]
   have hs:dsg ds (addp (eG k) q) k=1:=dsg_zero k fun j hj=>by
    rw [ea_get hq.1 (by omega),if_neg (by omega),h0 j hj]
    rfl
   rw [if_neg (show ¬k<k by omega),if_pos (show k<k+1 by omega),if_pos rfl,if_pos (by omega),hT,hs]
   by_cases h3:0<q.getD k 0
   ·have h2:od ds k=0:=(od_cases hd k).resolve_right fun h2=>by
     have:=ho h2
     omega
    have eve:Ev ds (eG k):=fun j hj hjo=>by
     rw [eG_get (by omega),if_neg fun e2=>by
      rw [e2] at hjo
      omega]
    have evl2:Ev ds (leftP q k):=fun j hj hjo=>by
     rw [leftP_at (by omega),if_neg fun e2=>by
      rw [← e2] at hjo
      omega]
     by_cases h5:j<k
     ·rw [if_pos h5,h0 j h5]
     ·rw [if_neg h5]
    have e3:addp (eG k) (addp (leftP q k) (behP q (k+1)))=q:=list8 (by simp) hq.1 fun j hj=>by
     rw [ea_get (by simp) (by omega),addp_get (by simp) (by simp),leftP_at hj,behP_get hj]
     rcases Nat.lt_trichotomy j k with h2 | h2 | h2
     ·rw [if_neg (by omega),if_neg (by omega),if_pos h2,if_pos (by omega),h0 j h2]
      rfl
     ·subst h2
      rw [if_pos rfl,if_pos rfl,if_pos (by omega)]
      omega
     ·rw [if_neg (by omega),if_neg (by omega),if_neg (by omega),if_neg (by omega)]
      omega
    have nl:Nn (leftP q k):=leftP_nn hq h3 (by omega)
    have nb:Nn (behP q (k+1)):=behP_nn hq
    have hT':tG ds (toS (fm fs k)) q k (lG ds (eG k) G)=wG (fun r=>sgn ds r q * G (addp r q)) (toS (fm fs k)):=by
     rw [tG_ev hd (him k) evl2 nl nb]
     have nlb:=nl.add nb
     generalize addp (leftP q k) (behP q (k+1))=c at e3 nlb
     have key : ∀s:Sm,(∀x∈s,Nn x.1)→wG (fun r=>sgn ds r c * lG ds (eG k) G (addp r c)) s=wG (fun r=>sgn ds r q * G (addp r q)) s:=fun s=>by
      induction s with
      | nil=>intro _;rfl
      | cons x s ih=>
       intro hs
       have hx:=hs x (by simp)
       simp only [wG]
       rw [ih fun y hy=>hs y (by simp [hy])]
       congr 2
       unfold lG
       rw [eve.sgnl hd he,Int.one_mul,addp_left he.1 hx.1 nlb.1,← e3,eve.right hd he hx nlb]
     exact key _ (him k)
    rw [if_pos h3,hT',dsg_zero k h0,h2,show par 0=1 from rfl]
    simp only [Int.one_mul,Int.add_mul]
    omega
   ·rw [if_neg h3,show q.getD k 0=0 by omega]
    simp only [Int.one_mul,Int.add_zero]
    omega
  ·rw [if_pos h,if_pos (show i<k+1 by omega),if_neg (show ¬k=i by omega),Int.zero_add]
   by_cases h3:0<q.getD k 0
   ·rw [if_pos h3,if_pos h3,tG_first hd hq hi h8 h0 ho (him k) G h (by omega) h3,dsg_first hd hq.1 hi h8 ho,if_pos h,Int.mul_add,Int.mul_assoc,Int.add_assoc]
   ·rw [if_neg h3,if_neg h3,Int.add_zero,Int.add_zero]
end
section
variable {ds : Pw} {fs : List (List Term)} {p : Pw}
theorem wG_eq {G G':Pw→Int} : ∀{s:Sm},(∀x∈s,G x.1=G' x.1)→wG G s=wG G' s
 | [],_=>rfl
 | x::s,h=>by
  simp only [wG]
  rw [h x (by simp),wG_eq fun y hy=>h y (by simp [hy])]
theorem tG_add (im:Sm) (p:Pw) (i:Nat) (G G':Pw→Int):tG ds im p i (fun x=>G x+G' x)=tG ds im p i G+tG ds im p i G':=by
 unfold tG;rw [← wG_addF]
 exact wG_eq fun x _=>by simp only [Int.mul_add]
theorem tG_mul (im:Sm) (p:Pw) (i:Nat) (c:Int) (G:Pw→Int):tG ds im p i (fun x=>c * G x)=c * tG ds im p i G:=by
 unfold tG;rw [← wG_mulF]
 have e : ∀a b g:Int,a * (b * (c * g))=c * (a * (b * g)):=fun a b g=>by rw [Int.mul_left_comm b c,Int.mul_left_comm a c]
 exact wG_eq fun x _=>e _ _ _
theorem dG_add (G G':Pw→Int) (p:Pw) : ∀k,dG ds fs (fun x=>G x+G' x) p k=dG ds fs G p k+dG ds fs G' p k
 | 0=>rfl
 | k+1=>by
  simp only [dG]
  rw [dG_add G G' p k]
  split
  ·rw [tG_add,Int.mul_add,Int.mul_add]
   omega
  ·omega
theorem dG_mul (c:Int) (G:Pw→Int) (p:Pw) : ∀k,dG ds fs (fun x=>c * G x) p k=c * dG ds fs G p k
 | 0=>by simp [dG]
 | k+1=>by
  simp only [dG]
  rw [dG_mul c G p k,Int.mul_add]
  split
  ·rw [tG_mul,Int.mul_left_comm (p.getD k 0) c,Int.mul_left_comm (dsg ds p k) c]
  ·rw [Int.mul_zero]
theorem dG_zero (p:Pw) (k:Nat):dG ds fs (fun _=>0) p k=0:=by
 have h:=dG_mul (ds:=ds) (fs:=fs) 0 (fun _=>0) p k
 simpa using h
theorem dG_zP (G:Pw→Int) : ∀k,dG ds fs G zP k=0
 | 0=>rfl
 | k+1=>by
  simp only [dG]
  rw [dG_zP G k,if_neg (by rw [zP_get];omega)]
  rfl
theorem dG_wG (F:Pw→Pw→Int) (p:Pw) (k:Nat) : ∀im:Sm,dG ds fs (fun x=>wG (fun t=>F t x) im) p k=wG (fun t=>dG ds fs (F t) p k) im
 | []=>dG_zero p k
 | y::im=>by
  show dG ds fs (fun x=>y.2 * F y.1 x+wG (fun t=>F t x) im) p k=y.2 * dG ds fs (F y.1) p k+wG (fun t=>dG ds fs (F t) p k) im
  rw [dG_add (fun x=>y.2 * F y.1 x),dG_mul,dG_wG F p k im]
theorem ex_le {p q:Pw} (h:Ex ds p) (hq:Nn q) (hle : ∀j,q.getD j 0≤p.getD j 0):Ex ds q:=⟨fun j hj=>by
 have:=h.out j hj
 have:=hle j
 have:=hq.2 j
 omega,fun j hj ho=>by
 have:=h.odd j hj ho
 have:=hle j
 omega⟩
theorem ex_sum {p q:Pw} (hp:Nn p) (hq:Nn q) (h1:Ex ds p) (h2:Ex ds q) (hs:sgn ds p q≠0):Ex ds (addp p q):=⟨fun j hj=>by
 rw [addp_get hp.1 hq.1,h1.out j hj,h2.out j hj]
 rfl,fun j hj ho=>by
 rw [addp_get hp.1 hq.1]
 have hh:hits ds p q=false:=by
  cases h:hits ds p q with
  | false=>rfl
  | true=>exact absurd (sgn_z0 h) hs
 have h3:=hits_at hh hj ho
 have:=h1.odd j hj ho
 have:=h2.odd j hj ho
 have:=hp.2 j
 have:=hq.2 j
 omega⟩
theorem leftP_xn {k:Nat} (hp:Nn p) (hx:Ex ds p) (h:0<p.getD k 0) (hk:k<8):Ex ds (leftP p k):=ex_le hx (leftP_nn hp h hk) fun j=>by
 have:=hp.2 j
 rcases Nat.lt_or_ge j 8 with hj | hj
 ·rw [leftP_at hj]
  split
  ·rename_i e
   rw [e]
   omega
  ·split <;> omega
 ·rw [getD_ge (by simp;omega)]
  exact hp.2 j
theorem behP_xn {k:Nat} (hp:Nn p) (hx:Ex ds p):Ex ds (behP p k):=ex_le hx (behP_nn hp) fun j=>by
 have:=hp.2 j
 rcases Nat.lt_or_ge j 8 with hj | hj
 ·rw [behP_get hj]
  split <;> omega
 ·rw [getD_ge (by simp;omega)]
  exact hp.2 j
def Img (ds:Pw) (fs:List (List Term)):Prop:=∀k,∀x∈toS (fm fs k),Nn x.1∧Ex ds x.1∧wsum ds x.1 ds.length=ds.getD k 0+1
theorem dG_cong (hI:Img ds fs) (hp:Nn p) (hx:Ex ds p) {G G':Pw→Int} (h : ∀x,Nn x→Ex ds x→G x=G' x) : ∀k,k≤8→dG ds fs G p k=dG ds fs G' p k
 | 0,_=>rfl
 | k+1,hk=>by
  simp only [dG]
  rw [dG_cong hI hp hx h k (by omega)]
  split
  ·rename_i h0
   have e:tG ds (toS (fm fs k)) p k G=tG ds (toS (fm fs k)) p k G':=by
    unfold tG
    refine wG_eq fun x hxm=>?_
    obtain ⟨a1,a2,_⟩:=hI k x hxm
    have l1:=leftP_nn hp h0 (show k<8 by omega)
    have b1:Nn (behP p (k+1)):=behP_nn hp
    by_cases s1:sgn ds (leftP p k) x.1=0
    ·rw [s1,Int.zero_mul,Int.zero_mul]
    ·have e1:=ex_sum l1 a1 (leftP_xn hp hx h0 (by omega)) a2 s1
     by_cases s2:sgn ds (addp (leftP p k) x.1) (behP p (k+1))=0
     ·rw [s2,Int.zero_mul,Int.zero_mul]
     ·rw [h _ ((l1.add a1).add b1) (ex_sum (l1.add a1) b1 e1 (behP_xn hp hx) s2)]
   rw [e]
  ·rfl
theorem zP_nn:Nn zP:=⟨by simp [zP],fun j=>by rw [zP_get];omega⟩
theorem wrd_addp {p q:Pw} (hp:p.length=8) (hq:q.length=8) : ∀n,wrd (addp p q) n=wrd p n+wrd q n
 | 0=>rfl
 | n+1=>by
  simp only [wrd]
  rw [wrd_addp hp hq n,addp_get hp hq]
  omega
theorem wrd_eG {i:Nat} (hi:i<8) : ∀n,wrd (eG i) n=if i<n then 1 else 0
 | 0=>by simp [wrd]
 | n+1=>by
  simp only [wrd]
  rw [wrd_eG hi n,eG_get hi]
  rcases Nat.lt_trichotomy n i with h | h | h
  ·rw [if_neg (by omega),if_neg (by omega),if_neg (by omega)]
   rfl
  ·subst h
   rw [if_neg (by omega),if_pos rfl,if_pos (by omega)]
   rfl
  ·rw [if_pos h,if_neg (by omega),if_pos (by omega)]
   rfl
theorem wsum_eG {i:Nat} (hi:i<8) : ∀n,wsum ds (eG i) n=if i<n then ds.getD i 0 else 0
 | 0=>by simp [wsum]
 | n+1=>by
  simp only [wsum]
  rw [wsum_eG hi n,eG_get hi]
  rcases Nat.lt_trichotomy n i with h | h | h
  ·rw [if_neg (by omega),if_neg (by omega),if_neg (by omega),Int.mul_zero]
   rfl
  ·subst h
   rw [if_neg (by omega),if_pos rfl,if_pos (by omega),Int.mul_one]
   omega
  ·rw [if_pos h,if_neg (by omega),if_pos (by omega),Int.mul_zero,Int.add_zero]
theorem mono_ind0 (h8:ds.length≤8) {P:Pw→Prop} (z:P zP) (s : ∀j q,j<ds.length→Nn q→Ex ds q→(∀k,k<j→q.getD k 0=0)→(od ds j=1→q.getD j 0=0)→P q→P (addp (eG j) q)) : ∀n:Nat,∀p,Nn p→Ex ds p→wrd p 8≤n→P p:=fun n=>by
 induction n with
 | zero=>
  intro p hp hx hw
  have e:p=zP:=list8 hp.1 (by simp [zP]) fun j hj=>by
   have:=get_wrd hp.2 8 j hj
   have:=hp.2 j
   rw [zP_get]
   omega
  rw [e]
  exact z
 | succ n ih=>
  intro p hp hx hw
  rcases first_of (fun j=>decide (0<p.getD j 0)) 8 with h | ⟨j,h1,h2,h3⟩
  ·have e:p=zP:=list8 hp.1 (by simp [zP]) fun j hj=>by
    have:=h j hj
    have:=hp.2 j
    rw [zP_get]
    simp only [decide_eq_false_iff_not] at *
    omega
   rw [e]
   exact z
  ·have hj:0<p.getD j 0:=by simpa using h2
   have hlt:j<ds.length:=by
    rcases Nat.lt_or_ge j ds.length with h | h
    ·exact h
    ·have:=hx.out j h
     omega
   have z0 : ∀k,k<j→p.getD k 0=0:=fun k hk=>by
    have:=h3 k hk
    have:=hp.2 k
    simp only [decide_eq_false_iff_not] at *
    omega
   have hg : ∀k,(p.set j (p.getD j 0 - 1)).getD k 0=if k=j then p.getD j 0 - 1 else p.getD k 0:=fun k=>by
    rw [getD_set8]
    by_cases e:k=j
    ·rw [if_pos e,if_pos ⟨e.symm,by rw [hp.1];exact h1⟩]
    ·rw [if_neg e,if_neg fun h=>e h.1.symm]
   have nq:Nn (p.set j (p.getD j 0 - 1)):=⟨by simp [hp.1],fun k=>by
    rw [hg]
    have:=hp.2 k
    split <;> omega⟩
   have xq:Ex ds (p.set j (p.getD j 0 - 1)):=ex_le hx nq fun k=>by
    rw [hg]
    split
    ·rename_i e
     rw [e]
     omega
    ·omega
   have e:p=addp (eG j) (p.set j (p.getD j 0 - 1)):=list8 hp.1 (by simp) fun k hk=>by
    rw [ea_get nq.1 h1,hg]
    by_cases e:k=j
    ·rw [if_pos e,if_pos e,e]
     omega
    ·rw [if_neg e,if_neg e]
     omega
   have hw2:wrd p 8=1+wrd (p.set j (p.getD j 0 - 1)) 8:=by
    conv=>lhs;rw [e]
    rw [wrd_addp (eG_len j) nq.1,wrd_eG h1,if_pos h1]
   rw [e]
   refine s j _ hlt nq xq (fun k hk=>by rw [hg,if_neg (by omega),z0 k hk]) (fun ho=>?_) (ih _ nq xq (by omega))
   have:=hx.odd j hlt (by show od ds j≠0;omega)
   rw [hg,if_pos rfl]
   omega
theorem mono_ind (h8:ds.length≤8) {P:Pw→Prop} (z:P zP) (s : ∀j q,j<ds.length→Nn q→Ex ds q→(∀k,k<j→q.getD k 0=0)→(od ds j=1→q.getD j 0=0)→P q→P (addp (eG j) q)) {p:Pw} (hp:Nn p) (hx:Ex ds p):P p:=
 mono_ind0 h8 z s (wrd p 8).toNat p hp hx (by have:=wrd_nn hp.2 8;omega)
end
section
variable {ds : Pw} {fs : List (List Term)}
theorem Od1.of {p:Pw} (h:Ex ds p):Od1 ds p:=fun j hj ho=>h.odd j hj (by show od ds j≠0;omega)
theorem swap_one (hd : ∀j,0≤ds.getD j 0∧ds.getD j 0≤12) (h8:ds.length≤8) {t:Pw} (ht:Nn t) (hx:Ex ds t) {i:Nat} (hi:i<ds.length) {q:Pw} (hq:Nn q):sgn ds (eG i) q * sgn ds t (addp (eG i) q)=par (wsum ds t ds.length * ds.getD i 0) * (sgn ds t q * sgn ds (eG i) (addp t q)):=by
 have ei:Nn (eG i):=eG_nn (by omega);rw [← sgn_assoc hd ht ei hq,sgn_comm hd ht (Od1.of hx) hi h8,addp_comm ht.1 ei.1,Int.mul_assoc,sgn_assoc hd ei ht hq]
theorem dG_one (hd : ∀j,0≤ds.getD j 0∧ds.getD j 0≤12) (h8:ds.length≤8) (hI:Img ds fs) {q:Pw} (hq:Nn q) {i:Nat} (hi:i<ds.length) (h0 : ∀j,j<i→q.getD j 0=0) (ho:od ds i=1→q.getD i 0=0) (G:Pw→Int):dG ds fs G (addp (eG i) q) 8=wG (fun t=>sgn ds t q * G (addp t q)) (toS (fm fs i))+par (ds.getD i 0) * dG ds fs (lG ds (eG i) G) q 8:=by
 rw [dG_first hd hq hi h8 h0 ho (fun k x hx=>(hI k x hx).1) G 8 (Nat.le_refl _),if_pos (by omega),par_mod (show od ds i % 2=ds.getD i 0 % 2 by rw [← emod_od hd i];omega)]
theorem hits_ee {i:Nat} (hi:i<ds.length) (h8:ds.length≤8) (ho:od ds i=1) {x:Pw} (hx:Nn x):hits ds (eG i) (addp (eG i) x)=true:=by
 cases hh:hits ds (eG i) (addp (eG i) x) with
 | true=>rfl
 | false=>
  have h:=hits_at hh hi (by show od ds i≠0;omega);rw [eG_get (by omega),ea_get hx.1 (by omega),if_pos rfl] at h;have:=hx.2 i;exact absurd ⟨by omega,by omega⟩ h
theorem par_cases (x:Int):par x=1∨par x = -1:=by unfold par;split <;> simp
theorem alg_gen {t a b S A B U V W:Int} (ht:t=1∨t = -1) (ha:a=1∨a = -1) (hb:b=1∨b = -1) (ih:S * B=U+a * V) (F2:S * A=t * a * W):t * S * (A+b * B)=t * b * U+a * (W+b * (t * V)):=by
 have e:t * S * (A+b * B)=t * (S * A)+t * (b * (S * B)):=by rw [Int.mul_add,Int.mul_assoc,Int.mul_assoc,Int.mul_left_comm S b]
 rw [e,ih,F2]
 rcases ht with rfl | rfl <;> rcases ha with rfl | rfl <;> rcases hb with rfl | rfl <;> omega
theorem alg_z {a b X Y:Int} (ha:a=1∨a = -1) (hb:b=1∨b = -1) (h:0=X+b * Y):0=0+a * X+a * b * Y:=by
 rcases ha with rfl | rfl <;> rcases hb with rfl | rfl <;> omega
theorem alg_l {a b S W E X Y:Int} (ha:a=1∨a = -1) (hb:b=1∨b = -1) (h:S * E=X+b * Y):S * (W+a * E)=S * W+a * X+a * b * Y:=by
 rw [Int.mul_add,Int.mul_left_comm S a,h]
 rcases ha with rfl | rfl <;> rcases hb with rfl | rfl <;> omega
theorem dG_gen (hd : ∀j,0≤ds.getD j 0∧ds.getD j 0≤12) (h8:ds.length≤8) (hI:Img ds fs) {q:Pw} (hq:Nn q) (hx:Ex ds q) : ∀i,i<ds.length→∀G:Pw→Int,sgn ds (eG i) q * dG ds fs G (addp (eG i) q) 8=wG (fun t=>sgn ds t q * G (addp t q)) (toS (fm fs i))+par (ds.getD i 0) * dG ds fs (lG ds (eG i) G) q 8:=by
 refine mono_ind h8 (P:=fun q=>∀i,i<ds.length→∀G:Pw→Int,sgn ds (eG i) q * dG ds fs G (addp (eG i) q) 8=wG (fun t=>sgn ds t q * G (addp t q)) (toS (fm fs i))+par (ds.getD i 0) * dG ds fs (lG ds (eG i) G) q 8) ?_ ?_ hq hx
 ·intro i hi G;rw [sgn_first hd zP_nn hi h8 (fun j _=>zP_get j) (fun _=>zP_get i),Int.one_mul];exact dG_one hd h8 hI zP_nn hi (fun j _=>zP_get j) (fun _=>zP_get i) G
 ·intro j q hj hq hx h0 ho ih i hi G;have ei:Nn (eG i):=eG_nn (by omega);have ej:Nn (eG j):=eG_nn (by omega);have f0:sgn ds (eG j) q=1:=sgn_first hd hq hj h8 h0 ho
  rcases Nat.lt_trichotomy i j with h | h | h
  ·have g0 : ∀k,k<i→(addp (eG j) q).getD k 0=0:=fun k hk=>by
    rw [ea_get hq.1 (by omega),if_neg (by omega),h0 k (by omega)]
    rfl
   have gi:(addp (eG j) q).getD i 0=0:=by
    rw [ea_get hq.1 (by omega),if_neg (by omega),h0 i h]
    rfl
   rw [sgn_first hd (ej.add hq) hi h8 g0 fun _=>gi,Int.one_mul];exact dG_one hd h8 hI (ej.add hq) hi g0 (fun _=>gi) G
  ·subst h
   rcases od_cases hd i with he | he
   ·have g0 : ∀k,k<i→(addp (eG i) q).getD k 0=0:=fun k hk=>by
     rw [ea_get hq.1 (by omega),if_neg (by omega),h0 k hk]
     rfl
    have gi:od ds i=1→(addp (eG i) q).getD i 0=0:=fun h=>by omega
    rw [sgn_first hd (ei.add hq) hi h8 g0 gi,Int.one_mul];exact dG_one hd h8 hI (ei.add hq) hi g0 gi G
   ·have hp:par (ds.getD i 0) = -1:=by
     rw [← par_mod (show od ds i % 2=ds.getD i 0 % 2 by rw [← emod_od hd i];omega),he]
     rfl
    rw [sgn_z0 (hits_ee hi h8 he hq),Int.zero_mul,dG_one hd h8 hI hq hi h0 ho (lG ds (eG i) G),dG_cong hI hq hx (G':=fun _=>0) (fun x hx _=>by
     unfold lG
     rw [sgn_z0 (hits_ee hi h8 he hx),Int.zero_mul,Int.mul_zero]) 8 (Nat.le_refl _),dG_zero,Int.mul_zero,Int.add_zero,hp]
    have e:wG (fun t=>sgn ds t (addp (eG i) q) * G (addp t (addp (eG i) q))) (toS (fm fs i))=wG (fun t=>sgn ds t q * lG ds (eG i) G (addp t q)) (toS (fm fs i)):=wG_eq fun x hm=>by
     obtain ⟨a1,a2,a3⟩:=hI i x hm;have s1:=swap_one hd h8 a1 a2 hi hq
     rw [f0,Int.one_mul,a3,par_mod (y:=0) (by
      rw [Int.mul_emod,Int.add_emod,emod_od hd i,he]
      rfl),show par 0=1 from rfl,Int.one_mul] at s1
     unfold lG;rw [s1,Int.mul_assoc,addp_left a1.1 ei.1 hq.1]
    rw [e]
    omega
  ·have g0 : ∀k,k<j→(addp (eG i) q).getD k 0=0:=fun k hk=>by
    rw [ea_get hq.1 (by omega),if_neg (by omega),h0 k hk]
    rfl
   have gj:od ds j=1→(addp (eG i) q).getD j 0=0:=fun h=>by
    rw [ea_get hq.1 (by omega),if_neg (by omega),ho h]
    rfl
   have fj:sgn ds (eG j) (addp (eG i) q)=1:=sgn_first hd (ei.add hq) hj h8 g0 gj
   have xi:Ex ds (eG i):=⟨fun k hk=>by rw [eG_get (by omega),if_neg (by omega)],fun k hk _=>by
    rw [eG_get (by omega)]
    split <;> omega⟩
   have wi:wsum ds (eG i) ds.length=ds.getD i 0:=by rw [wsum_eG (by omega),if_pos hi]
   have sg:=swap_one hd h8 ei xi hj hq;rw [f0,Int.one_mul,wi,fj,Int.mul_one] at sg
   have F3:dG ds fs (lG ds (eG j) (lG ds (eG i) G)) q 8=par (ds.getD i 0 * ds.getD j 0) * dG ds fs (lG ds (eG i) (lG ds (eG j) G)) q 8:=by
    rw [← dG_mul];refine dG_cong hI hq hx (fun x hx _=>?_) 8 (Nat.le_refl _);have s1:=swap_one hd h8 ei xi hj hx;rw [wi] at s1;unfold lG;rw [← Int.mul_assoc,s1,Int.mul_assoc,Int.mul_assoc,addp_left ei.1 ej.1 hx.1]
   have F1:wG (fun t=>sgn ds t (addp (eG j) q) * G (addp t (addp (eG j) q))) (toS (fm fs i))=par ((ds.getD i 0+1) * ds.getD j 0) * wG (fun t=>sgn ds t q * lG ds (eG j) G (addp t q)) (toS (fm fs i)):=by
    rw [← wG_mulF];refine wG_eq fun x hm=>?_;obtain ⟨a1,a2,a3⟩:=hI i x hm;have s1:=swap_one hd h8 a1 a2 hj hq;rw [f0,Int.one_mul,a3] at s1;unfold lG;rw [s1,Int.mul_assoc,Int.mul_assoc,addp_left a1.1 ej.1 hq.1]
   have F2:sgn ds (eG i) q * wG (fun t=>sgn ds t (addp (eG i) q) * G (addp t (addp (eG i) q))) (toS (fm fs j))=par ((ds.getD j 0+1) * ds.getD i 0) * wG (fun t=>sgn ds t q * lG ds (eG i) G (addp t q)) (toS (fm fs j)):=by
    rw [← wG_mulF,← wG_mulF];refine wG_eq fun x hm=>?_;obtain ⟨a1,a2,a3⟩:=hI j x hm;have s1:=swap_one hd h8 a1 a2 hi hq;rw [a3] at s1;unfold lG;rw [← Int.mul_assoc,s1,Int.mul_assoc,Int.mul_assoc,addp_left a1.1 ei.1 hq.1]
   rw [addp_left ei.1 ej.1 hq.1,dG_one hd h8 hI (ei.add hq) hj g0 gj G,dG_one hd h8 hI hq hj h0 ho (lG ds (eG i) G),F3,F1,sg];have ih1:=ih i hi (lG ds (eG j) G)
   have p1:par ((ds.getD i 0+1) * ds.getD j 0)=par (ds.getD i 0 * ds.getD j 0) * par (ds.getD j 0):=by rw [Int.add_mul,Int.one_mul,par_add]
   have p2:par ((ds.getD j 0+1) * ds.getD i 0)=par (ds.getD i 0 * ds.getD j 0) * par (ds.getD i 0):=by rw [Int.add_mul,Int.one_mul,par_add,Int.mul_comm (ds.getD j 0)]
   rw [p1];rw [p2] at F2;exact alg_gen (par_cases _) (par_cases _) (par_cases _) ih1 F2
theorem dG_leib (hd : ∀j,0≤ds.getD j 0∧ds.getD j 0≤12) (h8:ds.length≤8) (hI:Img ds fs) {r:Pw} (hr:Nn r) (hx:Ex ds r) : ∀q,Nn q→Ex ds q→∀G:Pw→Int,sgn ds r q * dG ds fs G (addp r q) 8=dG ds fs (rG ds q G) r 8+par (wsum ds r ds.length) * dG ds fs (lG ds r G) q 8:=by
 refine mono_ind h8 (P:=fun r=>∀q,Nn q→Ex ds q→∀G:Pw→Int,sgn ds r q * dG ds fs G (addp r q) 8=dG ds fs (rG ds q G) r 8+par (wsum ds r ds.length) * dG ds fs (lG ds r G) q 8) ?_ ?_ hr hx
 ·intro q hq hxq G;have ez:Ev ds zP:=fun j _ _=>zP_get j
  have za : ∀x,Nn x→addp zP x=x:=fun x hx=>list8 (by simp) hx.1 fun j _=>by
   rw [addp_get zP_nn.1 hx.1,zP_get]
   omega
  rw [ez.sgnl hd zP_nn,Int.one_mul,za q hq,dG_zP,wsum_zero zP_get,show par 0=1 from rfl,Int.one_mul,Int.zero_add];refine dG_cong hI hq hxq (fun x hx _=>?_) 8 (Nat.le_refl _);unfold lG;rw [ez.sgnl hd zP_nn,za x hx,Int.one_mul]
 ·intro i r hi hr hx h0 ho ih q hq hxq G;have ei:Nn (eG i):=eG_nn (by omega);have f:sgn ds (eG i) r=1:=sgn_first hd hr hi h8 h0 ho;have ih1:=ih q hq hxq (lG ds (eG i) G)
  have sL:sgn ds (addp (eG i) r) q=sgn ds r q * sgn ds (eG i) (addp r q):=by
   have:=sgn_assoc hd ei hr hq
   rwa [f,Int.one_mul] at this
  have e1:wG (fun t=>sgn ds t r * rG ds q G (addp t r)) (toS (fm fs i))=sgn ds r q * wG (fun t=>sgn ds t (addp r q) * G (addp t (addp r q))) (toS (fm fs i)):=by
   rw [← wG_mulF];refine wG_eq fun x hm=>?_;obtain ⟨a1,a2,a3⟩:=hI i x hm;unfold rG;rw [← Int.mul_assoc,sgn_assoc hd a1 hr hq,addp_assoc a1.1 hr.1 hq.1,Int.mul_assoc]
  have e2:dG ds fs (lG ds (eG i) (rG ds q G)) r 8=dG ds fs (rG ds q (lG ds (eG i) G)) r 8:=dG_cong hI hr hx (fun x hx _=>by
   unfold lG rG
   rw [← Int.mul_assoc,sgn_assoc hd ei hx hq,addp_assoc ei.1 hx.1 hq.1,Int.mul_assoc]) 8 (Nat.le_refl _)
  have e3:dG ds fs (lG ds r (lG ds (eG i) G)) q 8=dG ds fs (lG ds (addp (eG i) r) G) q 8:=dG_cong hI hq hxq (fun x hx _=>by
   unfold lG;have s1:=sgn_assoc hd ei hr hx;rw [f,Int.one_mul] at s1
   rw [s1,addp_assoc ei.1 hr.1 hx.1,Int.mul_assoc]) 8 (Nat.le_refl _)
  rw [dG_one hd h8 hI hr hi h0 ho,e1,e2,wsum_add ei.1 hr.1,wsum_eG (by omega),if_pos hi,par_add,sL,addp_assoc ei.1 hr.1 hq.1];rw [e3] at ih1
  by_cases hz:sgn ds r q=0
  ·rw [hz,Int.zero_mul] at ih1;rw [hz,Int.zero_mul,Int.zero_mul,Int.zero_mul];exact alg_z (par_cases _) (par_cases _) ih1
  ·rw [Int.mul_assoc,dG_gen hd h8 hI (hr.add hq) (ex_sum hr hq hx hxq hz) i hi G];exact alg_l (par_cases _) (par_cases _) ih1
end
section
variable {ds : Pw} {fs : List (List Term)}
theorem dG_sq (hd : ∀j,0≤ds.getD j 0∧ds.getD j 0≤12) (h8:ds.length≤8) (hI:Img ds fs) (h2 : ∀i,∀G:Pw→Int,Mo (wG (fun r=>dG ds fs G r 8) (toS (fm fs i))) 0) {p:Pw} (hp:Nn p) (hx:Ex ds p) : ∀G:Pw→Int,Mo (dG ds fs (fun x=>dG ds fs G x 8) p 8) 0:=by
 refine mono_ind h8 (P:=fun p=>∀G:Pw→Int,Mo (dG ds fs (fun x=>dG ds fs G x 8) p 8) 0) ?_ ?_ hp hx
 ·intro G;rw [dG_zP];exact Mo.refl _
 ·intro i q hi hq hx h0 ho ih G;have ei:Nn (eG i):=eG_nn (by omega)
  have w1:Mo (wG (fun r=>sgn ds r q * dG ds fs G (addp r q) 8) (toS (fm fs i))) (par (ds.getD i 0+1) * wG (fun r=>dG ds fs (lG ds r G) q 8) (toS (fm fs i))):=by
   have e:wG (fun r=>sgn ds r q * dG ds fs G (addp r q) 8) (toS (fm fs i))=wG (fun r=>dG ds fs (rG ds q G) r 8) (toS (fm fs i))+par (ds.getD i 0+1) * wG (fun r=>dG ds fs (lG ds r G) q 8) (toS (fm fs i)):=by
    rw [← wG_mulF,← wG_addF];refine wG_eq fun x hm=>?_;obtain ⟨a1,a2,a3⟩:=hI i x hm;rw [dG_leib hd h8 hI a1 a2 q hq hx G,a3]
   rw [e];have:=h2 i (rG ds q G);unfold Mo at *
   omega
  have w2:dG ds fs (lG ds (eG i) (fun x=>dG ds fs G x 8)) q 8=wG (fun t=>dG ds fs (lG ds t G) q 8) (toS (fm fs i))+par (ds.getD i 0) * dG ds fs (fun x=>dG ds fs (lG ds (eG i) G) x 8) q 8:=by
   rw [← dG_wG,← dG_mul,← dG_add];refine dG_cong hI hq hx (fun x hx hxx=>?_) 8 (Nat.le_refl _)
   show sgn ds (eG i) x * dG ds fs G (addp (eG i) x) 8=_
   rw [dG_gen hd h8 hI hx hxx i hi G]
   rfl
  rw [dG_one hd h8 hI hq hi h0 ho,w2];have w3:=ih (lG ds (eG i) G)
  have hp1:par (ds.getD i 0+1) = - par (ds.getD i 0):=by
   rw [par_add,show par 1 = -1 from rfl]
   omega
  rw [hp1] at w1;generalize wG (fun r=>sgn ds r q * dG ds fs G (addp r q) 8) (toS (fm fs i))=A at *;generalize wG (fun r=>dG ds fs (lG ds r G) q 8) (toS (fm fs i))=C at *;generalize dG ds fs (fun x=>dG ds fs (lG ds (eG i) G) x 8) q 8=D at *
  rcases par_cases (ds.getD i 0) with h | h <;> rw [h] at w1 ⊢ <;> unfold Mo at * <;> omega
theorem Img.of {fs:List (List Term)} (hD:isDeg ds=true) (hi:imsOk ds fs=true) (hw:Wfss fs):Img ds fs:=fun k x hx=>by
 by_cases hk:k<fs.length
 ·have h1:=imsOk_at hi hk
  unfold imOk at h1
  have h2:=Bool.and_eq_true_iff.1 h1
  have hs:=isForm_sok (hw.fm k) h2.1
  exact ⟨⟨(hs.key x hx).len,fun j=>((hs.key x hx).bd j).1⟩,isForm_kex (isDeg_bd hD) (isDeg_len hD) (hw.fm k) h2.1 x hx,degOk_wt (isDeg_len hD) (isDeg_bd hD) (hw.fm k) h2.2 x hx⟩
 ·rw [show fm fs k=[] by rw [G.fm,List.getD_eq_getElem?_getD,List.getElem?_eq_none (by omega)];rfl] at hx
  simp [toS] at hx
theorem isAlg_sq {fs:List (List Term)} (h:isAlg ds fs=true) (hw:Wfss fs) : ∀i,∀G:Pw→Int,Mo (wG (fun r=>dG ds fs G r 8) (toS (fm fs i))) 0:=fun i G=>by
 by_cases hk:i<fs.length
 ·unfold isAlg at h
  simp only [Bool.and_eq_true] at h
  have h1:=List.all_eq_true.1 h.2 i (by simpa using hk)
  have h2:dS ds fs (toS (fm fs i))=[]:=List.length_eq_zero_iff.1 (by simpa using h1)
  have h3:=wG_dS (ds:=ds) fs G (toS (fm fs i))
  rw [h2] at h3
  exact h3.symm
 ·rw [show fm fs i=[] by rw [G.fm,List.getD_eq_getElem?_getD,List.getElem?_eq_none (by omega)];rfl]
  exact Mo.refl _
theorem isAlg_img {fs:List (List Term)} (h:isAlg ds fs=true) (hw:Wfss fs):Img ds fs:=by
 have hD:=isAlg_deg h;unfold isAlg at h;simp only [Bool.and_eq_true] at h;exact Img.of hD h.1.2 hw
theorem dS_sqG {fs:List (List Term)} (h:isAlg ds fs=true) (hw:Wfss fs) {s:Sm} {M:Int} (hs:Sok M s) (hk:KEx ds s) (G:Pw→Int):Mo (wG G (dS ds fs (dS ds fs s))) 0:=by
 have hD:=isAlg_deg h;refine (wG_dS fs G _).trans ((wG_dS fs _ s).trans ?_);have e:Mo (wG (fun p=>dG ds fs (fun x=>dG ds fs G x 8) p 8) s) (wG (fun _=>0) s):=wG_cong fun x hx=>dG_sq (isDeg_bd hD) (isDeg_len hD) (isAlg_img h hw) (isAlg_sq h hw) ⟨(hs.key x hx).len,fun j=>((hs.key x hx).bd j).1⟩ (hk x hx) G;rw [wG_zeroF] at e;exact e
end
theorem nodup_sub : ∀{A B:List Nat},A.Nodup→(∀x∈A,x∈B)→A.length≤B.length
 | [],_,_,_=>by simp
 | a::A,B,h,hs=>by
  have hn:=List.nodup_cons.1 h
  have h1:=nodup_sub (B:=B.erase a) hn.2 fun x hx=>(List.mem_erase_of_ne fun e=>hn.1 (by rw [← e];exact hx)).2 (hs x (by simp [hx]))
  have h2:=List.length_erase_of_mem (hs a (by simp))
  have h3:=List.length_pos_of_mem (hs a (by simp))
  simp only [List.length_cons]
  omega
theorem insS_length (u:List Int) : ∀R:List (List Int),(insS u R).length=R.length+1
 | []=>rfl
 | r::R=>by
  simp only [insS]
  split
  ·simp
  ·simp only [List.length_cons]
   rw [insS_length u R]
theorem putS_length (R:List (List Int)) (row:List Int):(putS R row).length≤R.length+1:=by
 unfold putS
 split
 ·rw [insS_length]
  omega
 ·omega
theorem foldl_length : ∀(rows R:List (List Int)),(rows.foldl putS R).length≤R.length+rows.length
 | [],R=>by simp
 | r::rows,R=>by
  have h1:=foldl_length rows (putS R r)
  have h2:=putS_length R r
  simp only [List.foldl_cons,List.length_cons]
  omega
theorem redS_length (rows:List (List Int)):(redS rows).length≤rows.length:=by
 have:=foldl_length rows []
 simpa [redS] using this
section
variable {V W N : Nat} {rows R : List (List Int)}
theorem Red.self (h:Red W R):redS R=R:=(redS_eq h.row h fun _=>Iff.rfl).symm
theorem redS_distinct (h : ∀r∈rows,RowOk W r) (hl : ∀r∈rows,ldR r<W) (hn:(rows.map ldR).Nodup):(redS rows).length=rows.length:=by
 have h1:=redS_length rows
 have h2:=nodup_sub (B:=(redS rows).map ldR) hn fun x hx=>by
  obtain ⟨r,hr,rfl⟩:=List.mem_map.1 hx;have hR:=redS_ok h
  obtain ⟨s,hs,e⟩:=hR.1.lead ((hR.2 _).2 (Spn.row hr)) (k:=ldR r) (fun j hj=>by show Mo (r.getD j 0) 0;rw [ldR_lt hj];exact Mo.refl _) (by
   show ¬Mo (r.getD (ldR r) 0) 0
   have a:=ldR_ne (r:=r) (by rw [(h r hr).len];exact hl r hr);have b:=(h r hr).val (ldR r);unfold Mo
   omega)
  exact List.mem_map.2 ⟨s,hs,e⟩
 simp only [List.length_map] at h2
 omega
theorem drop_get {a:List Int} {V j:Nat}:(a.drop V).getD j 0=a.getD (V+j) 0:=by simp [List.getD_eq_getElem?_getD,List.getElem?_drop]
theorem take_get {a:List Int} {V j:Nat}:(a.take V).getD j 0=if j<V then a.getD j 0 else 0:=by
 rw [List.getD_eq_getElem?_getD,List.getElem?_take]
 split
 ·rw [List.getD_eq_getElem?_getD]
 ·rfl
theorem Spn.drop {v:Vc} (h:Spn rows v) (V:Nat):Spn (rows.map fun r=>r.drop V) (fun k=>v (V+k)):=by
 induction h with
 | zero h=>exact .zero fun k=>h _
 | @add u v r c hr _ h ih=>exact .add (r:=r.drop V) (c:=c) (List.mem_map.2 ⟨r,hr,rfl⟩) ih fun k=>by rw [drop_get];exact h _
theorem Spn.take {v:Vc} (h:Spn rows v) (V:Nat):Spn (rows.map fun r=>r.take V) (fun k=>if k<V then v k else 0):=by
 induction h with
 | zero h=>
  refine .zero fun k=>?_
  by_cases hk:k<V
  ·simp only [if_pos hk];exact h k
  ·simp only [if_neg hk];exact Mo.refl _
 | @add u v r c hr _ h ih=>
  refine .add (r:=r.take V) (c:=c) (List.mem_map.2 ⟨r,hr,rfl⟩) ih fun k=>?_;rw [take_get]
  by_cases hk:k<V
  ·simp only [if_pos hk];exact h k
  ·simp only [if_neg hk,Int.mul_zero];exact Mo.refl _
theorem RowOk.take {a:List Int} (h:RowOk (V+W) a):RowOk V (a.take V):=⟨by rw [List.length_take,h.len];omega,fun j=>by
 rw [take_get]
 split
 ·exact h.val j
 ·omega⟩
theorem spn_map (f:List Int→List Int) (hf : ∀{rs:List (List Int)} {r:List Int},Spn rs (vR r)→Spn (rs.map f) (vR (f r))) (h : ∀v,Spn R v↔Spn rows v) (v:Vc):Spn (R.map f) v↔Spn (rows.map f) v:=
 ⟨fun hv=>hv.sub fun x hx=>by
  obtain ⟨r,hr,rfl⟩:=List.mem_map.1 hx
  exact hf ((h _).1 (Spn.row hr)),fun hv=>hv.sub fun x hx=>by
  obtain ⟨r,hr,rfl⟩:=List.mem_map.1 hx
  exact hf ((h _).2 (Spn.row hr))⟩
theorem spn_drop (V:Nat) {rs:List (List Int)} {r:List Int} (h:Spn rs (vR r)):Spn (rs.map fun r=>r.drop V) (vR (r.drop V)):=(h.drop V).congr fun k=>by show Mo ((r.drop V).getD k 0) _;rw [drop_get];exact Mo.refl _
theorem spn_take (V:Nat) {rs:List (List Int)} {r:List Int} (h:Spn rs (vR r)):Spn (rs.map fun r=>r.take V) (vR (r.take V)):=(h.take V).congr fun k=>by show Mo ((r.take V).getD k 0) _;rw [take_get];exact Mo.refl _
def uniL (n:Nat):List (List Int):=(List.range n).map (uniR n)
theorem uniR_ld {n k:Nat} (hk:k<n):ldR (uniR n k)=k:=ldR_of (fun j hj=>by rw [uniR_get,if_neg (by omega)]) (by rw [uniR_get,if_pos ⟨rfl,hk⟩];omega)
theorem uniL_red (n:Nat):Red n (uniL n):=⟨fun r hr=>by
 obtain ⟨k,_,rfl⟩:=List.mem_map.1 hr
 exact uniR_ok,by
 unfold uniL
 rw [List.pairwise_map]
 refine List.pairwise_lt_range.imp_of_mem fun {a b} ha hb hab=>?_
 rw [uniR_ld (List.mem_range.1 ha),uniR_ld (List.mem_range.1 hb)]
 exact hab,fun r hr=>by
 obtain ⟨k,hk,rfl⟩:=List.mem_map.1 hr
 have hk:=List.mem_range.1 hk
 rw [uniR_ld hk,uniR_get,if_pos ⟨rfl,hk⟩]
 exact ⟨hk,rfl⟩,fun r hr s hs hne=>by
 obtain ⟨k,hk,rfl⟩:=List.mem_map.1 hr
 obtain ⟨j,hj,rfl⟩:=List.mem_map.1 hs
 rw [uniR_ld (List.mem_range.1 hk),uniR_ld (List.mem_range.1 hj)] at hne
 rw [uniR_ld (List.mem_range.1 hk),uniR_get,if_neg fun h=>hne h.1.symm]⟩
theorem wdS_drop (h : ∀r∈rows,RowOk W r):(wdS rows rows.length).map (fun r=>r.drop W)=uniL rows.length:=by
 unfold wdS wdK uniL;rw [List.map_map];refine List.map_congr_left fun i hi=>?_;have:=(h _ (rw_mem (List.mem_range.1 hi))).len
 show (rw_ rows i++uniR rows.length i).drop W=_
 rw [← this,List.drop_left]
theorem wdS_take (h : ∀r∈rows,RowOk W r):(wdS rows rows.length).map (fun r=>r.take W)=rows:=by
 unfold wdS wdK;rw [List.map_map];refine List.ext_getElem (by simp) fun i h1 h2=>?_
 have e:rw_ rows i=rows[i]:=by simp [rw_,List.getD_eq_getElem?_getD,h2]
 have hl:rows[i].length=W:=(h _ (List.getElem_mem h2)).len;simp only [List.getElem_map,List.getElem_range,Function.comp];rw [e,← hl,List.take_left]
theorem wdS_count (h : ∀r∈rows,RowOk W r):(redS (wdS rows rows.length)).length=rows.length:=by
 have h1:=redS_length (wdS rows rows.length);have h2:(wdS rows rows.length).length=rows.length:=wdK_len _ _ _;have hR:=redS_ok (wdS_ok (n:=rows.length) h)
 have h3:uniL rows.length=redS ((redS (wdS rows rows.length)).map fun r=>r.drop W):=redS_eq (W:=rows.length) (fun r hr=>by
  obtain ⟨s,hs,rfl⟩:=List.mem_map.1 hr
  exact (hR.1.row s hs).drop) (uniL_red _) fun v=>by
   rw [← wdS_drop h];exact (spn_map _ (spn_drop W) hR.2 v).symm
 have h4:=redS_length ((redS (wdS rows rows.length)).map fun r=>r.drop W);rw [← h3] at h4;simp only [uniL,List.length_map,List.length_range] at h4
 omega
def loR (W:Nat) (R:List (List Int)):List (List Int):=R.filter fun r=>decide (ldR r<W)
def hiR (W:Nat) (R:List (List Int)):List (List Int):=R.filter fun r=>decide (W≤ldR r)
theorem lohi (W:Nat) : ∀R:List (List Int),(loR W R).length+(hiR W R).length=R.length
 | []=>rfl
 | r::R=>by
  have ih:=lohi W R
  unfold loR hiR at *
  by_cases h:ldR r<W
  ·rw [List.filter_cons_of_pos (by simpa using h),List.filter_cons_of_neg (by simp;omega)]
   simp only [List.length_cons]
   omega
  ·rw [List.filter_cons_of_neg (by simpa using h),List.filter_cons_of_pos (by simp;omega)]
   simp only [List.length_cons]
   omega
theorem fzS_hi (h:Red (V+W) R):fzS R V=(hiR V R).map fun r=>r.drop V:=by
 unfold fzS hiR
 congr 1
 refine List.filter_congr fun r hr=>?_;have h1:=(h.row r hr).len;have h2:=(h.one r hr).1;exact zR_take (by omega) (by omega)
theorem drop_ld {r:List Int} (h:ldR r<r.length) (hV:V≤ldR r):ldR (r.drop V)=ldR r - V:=ldR_of (fun j hj=>by rw [drop_get];exact ldR_lt (by omega)) (by rw [drop_get,show V+(ldR r - V)=ldR r by omega];exact ldR_ne h)
theorem take_ld {r:List Int} (h:ldR r<r.length) (hV:ldR r<V):ldR (r.take V)=ldR r:=ldR_of (fun j hj=>by rw [take_get,if_pos (by omega)];exact ldR_lt hj) (by rw [take_get,if_pos hV];exact ldR_ne h)
theorem hi_red (h:Red (V+W) R):Red W (fzS R V):=by
 rw [fzS_hi h]
 have hm : ∀r∈hiR V R,r∈R∧V≤ldR r∧ldR r<r.length:=fun r hr=>by
  have h1:=List.mem_filter.1 hr;exact ⟨h1.1,by simpa using h1.2,by rw [(h.row r h1.1).len];exact (h.one r h1.1).1⟩
 refine ⟨fun r hr=>?_,?_,fun r hr=>?_,fun r hr s hs hne=>?_⟩
 ·obtain ⟨s,hs,rfl⟩:=List.mem_map.1 hr;exact (h.row s (hm s hs).1).drop
 ·rw [List.pairwise_map];refine (h.srt.filter _).imp_of_mem fun {a b} ha hb hab=>?_;obtain ⟨_,a1,a2⟩:=hm a ha;obtain ⟨_,b1,b2⟩:=hm b hb;rw [drop_ld a2 a1,drop_ld b2 b1]
  omega
 ·obtain ⟨s,hs,rfl⟩:=List.mem_map.1 hr;obtain ⟨s0,s1,s2⟩:=hm s hs;have:=h.one s s0;rw [drop_ld s2 s1,drop_get,show V+(ldR s - V)=ldR s by omega];exact ⟨by omega,this.2⟩
 ·obtain ⟨a,ha,rfl⟩:=List.mem_map.1 hr;obtain ⟨b,hb,rfl⟩:=List.mem_map.1 hs;obtain ⟨a0,a1,a2⟩:=hm a ha;obtain ⟨b0,b1,b2⟩:=hm b hb;rw [drop_ld a2 a1,drop_ld b2 b1] at hne;rw [drop_ld a2 a1,drop_get,show V+(ldR a - V)=ldR a by omega];exact h.zer a a0 b b0 (by omega)
theorem lo_red (h:Red (V+W) R):Red V ((loR V R).map fun r=>r.take V):=by
 have hm : ∀r∈loR V R,r∈R∧ldR r<V∧ldR r<r.length:=fun r hr=>by
  have h1:=List.mem_filter.1 hr;exact ⟨h1.1,by simpa using h1.2,by rw [(h.row r h1.1).len];exact (h.one r h1.1).1⟩
 refine ⟨fun r hr=>?_,?_,fun r hr=>?_,fun r hr s hs hne=>?_⟩
 ·obtain ⟨s,hs,rfl⟩:=List.mem_map.1 hr;exact (h.row s (hm s hs).1).take
 ·rw [List.pairwise_map];refine (h.srt.filter _).imp_of_mem fun {a b} ha hb hab=>?_;obtain ⟨_,a1,a2⟩:=hm a ha;obtain ⟨_,b1,b2⟩:=hm b hb;rw [take_ld a2 a1,take_ld b2 b1];exact hab
 ·obtain ⟨s,hs,rfl⟩:=List.mem_map.1 hr;obtain ⟨s0,s1,s2⟩:=hm s hs;have:=h.one s s0;rw [take_ld s2 s1,take_get,if_pos s1];exact ⟨s1,this.2⟩
 ·obtain ⟨a,ha,rfl⟩:=List.mem_map.1 hr;obtain ⟨b,hb,rfl⟩:=List.mem_map.1 hs;obtain ⟨a0,a1,a2⟩:=hm a ha;obtain ⟨b0,b1,b2⟩:=hm b hb;rw [take_ld a2 a1,take_ld b2 b1] at hne;rw [take_ld a2 a1,take_get,if_pos a1];exact h.zer a a0 b b0 hne
theorem ker_count (h : ∀r∈rows,RowOk W r):(redS rows).length+(kerS rows W).length=rows.length:=by
 have hR:=redS_ok (wdS_ok (n:=rows.length) h);have hc:=wdS_count h;have hk:kerS rows W=fzS (redS (wdS rows rows.length)) W:=(hi_red hR.1).self
 have hl:(loR W (redS (wdS rows rows.length))).map (fun r=>r.take W)=redS rows:=redS_eq h (lo_red hR.1) fun v=>by
  have h1:=spn_map _ (spn_take W) hR.2 v;rw [wdS_take h] at h1;refine Iff.trans ⟨fun hv=>hv.sub fun x hx=>?_,fun hv=>hv.sub fun x hx=>?_⟩ h1
  ·obtain ⟨r,hr,rfl⟩:=List.mem_map.1 hx;exact Spn.row (List.mem_map.2 ⟨r,(List.mem_filter.1 hr).1,rfl⟩)
  ·obtain ⟨r,hr,rfl⟩:=List.mem_map.1 hx
   by_cases hlt:ldR r<W
   ·exact Spn.row (List.mem_map.2 ⟨r,List.mem_filter.2 ⟨hr,by simpa using hlt⟩,rfl⟩)
   ·exact .zero fun k=>by
     show Mo ((r.take W).getD k 0) 0
     rw [take_get]
     split
     ·rw [ldR_lt (by omega)];exact Mo.refl _
     ·exact Mo.refl _
 rw [hk,← hl,fzS_hi hR.1,List.length_map,List.length_map,lohi,hc]
theorem Spn.sum {α:Type} (c:α→Int) (f:α→List Int) : ∀{l:List α},(∀x∈l,f x∈rows)→Spn rows (fun k=>(l.map fun x=>c x * (f x).getD k 0).sum)
 | [],_=>.zero fun _=>Mo.refl _
 | a::l,h=>.add (r:=f a) (c:=c a) (h a (by simp)) (Spn.sum c f (l:=l) fun x hx=>h x (List.mem_cons_of_mem _ hx)) fun k=>by simp only [List.map_cons,List.sum_cons];exact Mo.refl _
theorem hi_spn (h:Red (V+W) R) {v:Vc} (hv:Spn R v) (h0 : ∀k,k<V→Mo (v k) 0):Spn (fzS R V) (fun k=>v (V+k)):=by
 rw [fzS_hi h];have h1:=(Spn.sum (rows:=hiR V R) (fun s=>v (ldR s)) (fun s=>s) (l:=hiR V R) fun x hx=>hx).drop V;refine h1.congr fun k=>(h.at hv (V+k)).trans ?_
 have key : ∀l:List (List Int),Mo (l.map fun s=>v (ldR s) * s.getD (V+k) 0).sum ((l.filter fun r=>decide (V≤ldR r)).map fun s=>v (ldR s) * s.getD (V+k) 0).sum:=fun l=>by
  induction l with
  | nil=>exact Mo.refl _
  | cons a l ih=>
   by_cases ha:V≤ldR a
   ·rw [List.filter_cons_of_pos (by simpa using ha)];simp only [List.map_cons,List.sum_cons];exact (Mo.refl _).add ih
   ·rw [List.filter_cons_of_neg (by simpa using ha)];simp only [List.map_cons,List.sum_cons];have:=(h0 (ldR a) (by omega)).mul (a.getD (V+k) 0);rw [Int.zero_mul] at this;have:=this.add ih
    rwa [Int.zero_add] at this
 exact key R
theorem ker_spn (h : ∀r∈rows,RowOk W r) {u:List Int} (hu:u.length=rows.length) (h0 : ∀k,k<W→Mo ((List.range rows.length).map fun i=>u.getD i 0 * (rw_ rows i).getD k 0).sum 0):Spn (kerS rows W) (vR u):=by
 have hR:=redS_ok (wdS_ok (n:=rows.length) h);have hk:kerS rows W=fzS (redS (wdS rows rows.length)) W:=(hi_red hR.1).self;have h1:Spn (wdS rows rows.length) (fun k=>((List.range rows.length).map fun i=>u.getD i 0 * (rw_ rows i++uniR rows.length i).getD k 0).sum):=Spn.sum (fun i=>u.getD i 0) (fun i=>rw_ rows i++uniR rows.length i) fun i hi=>List.mem_map.2 ⟨i,hi,rfl⟩
 have h2:=hi_spn hR.1 ((hR.2 _).2 h1) fun k hk=>by
  have e:((List.range rows.length).map fun i=>u.getD i 0 * (rw_ rows i++uniR rows.length i).getD k 0)=(List.range rows.length).map fun i=>u.getD i 0 * (rw_ rows i).getD k 0:=List.map_congr_left fun i hi=>by
   rw [app_get,if_pos (by rw [(h _ (rw_mem (List.mem_range.1 hi))).len];exact hk)]
  rw [e];exact h0 k hk
 rw [hk];refine h2.congr fun k=>?_
 have e:((List.range rows.length).map fun i=>u.getD i 0 * (rw_ rows i++uniR rows.length i).getD (W+k) 0)=(List.range rows.length).map fun i=>u.getD i 0 * (if i=k∧i<rows.length then 1 else 0):=List.map_congr_left fun i hi=>by
  have:=(h _ (rw_mem (List.mem_range.1 hi))).len;rw [app_get,if_neg (by omega),uniR_get,this,Nat.add_sub_cancel_left]
 show Mo (u.getD k 0) ((List.range rows.length).map fun i=>u.getD i 0 * (rw_ rows i++uniR rows.length i).getD (W+k) 0).sum
 rw [e]
 by_cases hk:k<rows.length
 ·rw [sum_single (f:=fun i=>i) List.pairwise_lt_range (List.mem_range.2 hk) fun s _ hne=>by rw [if_neg fun h=>hne h.1,Int.mul_zero],if_pos ⟨rfl,hk⟩,Int.mul_one];exact Mo.refl _
 ·rw [sum_zero fun i hi=>by
   have:=List.mem_range.1 hi
   rw [if_neg (by omega),Int.mul_zero],getD_ge (by omega)]
  exact Mo.refl _
theorem by_count {cl bd:List (List Int)} (hc:Red W cl) (hb:Red W bd) (hs : ∀r∈bd,Spn cl (vR r)):(redS (cl.map fun r=>byS r bd)).length+bd.length=cl.length:=by
 have hro : ∀r∈cl.map (fun r=>byS r bd),RowOk W r:=fun r hr=>by
  obtain ⟨s,h1,rfl⟩:=List.mem_map.1 hr;exact byS_ok (hc.row s h1) hb.row
 have hR:=redS_ok hro
 have hv : ∀s∈redS (cl.map fun r=>byS r bd),∀b∈bd,s.getD (ldR b) 0=0:=fun s hs2 b hb2=>by
  have h1:=((hR.2 _).1 (Spn.row hs2)).vanish (k:=ldR b) fun r hr=>by
   obtain ⟨t,ht,rfl⟩:=List.mem_map.1 hr;rw [byS_zero hb (A:=[]) (B:=bd) rfl (hc.row t ht) b hb2];exact Mo.refl _
  exact h1.val ((hR.1.row s hs2).val _) (by omega)
 have hF : ∀r∈redS (cl.map fun r=>byS r bd)++bd,RowOk W r:=fun r hr=>by
  rcases List.mem_append.1 hr with h | h
  ·exact hR.1.row r h
  ·exact hb.row r h
 have h1:(redS (redS (cl.map fun r=>byS r bd)++bd)).length=(redS (cl.map fun r=>byS r bd)++bd).length:=by
  refine redS_distinct hF (fun r hr=>?_) ?_
  ·rcases List.mem_append.1 hr with h | h
   ·exact (hR.1.one r h).1
   ·exact (hb.one r h).1
  ·rw [List.map_append,List.nodup_append];refine ⟨List.pairwise_map.2 (hR.1.srt.imp fun h=>by omega),List.pairwise_map.2 (hb.srt.imp fun h=>by omega),fun x hx y hy=>?_⟩;obtain ⟨s,hs2,rfl⟩:=List.mem_map.1 hx;obtain ⟨b,hb2,rfl⟩:=List.mem_map.1 hy;intro e;have h2:=hv s hs2 b hb2;rw [← e,(hR.1.one s hs2).2] at h2
   omega
 have h2:cl=redS (redS (cl.map fun r=>byS r bd)++bd):=redS_eq hF hc fun v=>⟨fun hv=>hv.sub fun r hr=>?_,fun hv=>hv.sub fun r hr=>?_⟩
 ·rw [← h2,List.length_append] at h1;exact h1.symm
 ·exact (byS_spn (hc.row r hr) hb.row fun s hs2=>Spn.row (by simp [hs2])).1 (((hR.2 _).2 (Spn.row (List.mem_map.2 ⟨r,hr,rfl⟩))).sub fun s hs2=>Spn.row (by simp [hs2]))
 ·rcases List.mem_append.1 hr with h | h
  ·refine ((hR.2 _).1 (Spn.row h)).sub fun s hs2=>?_;obtain ⟨t,ht,rfl⟩:=List.mem_map.1 hs2;exact (byS_spn (hc.row t ht) hb.row hs).2 (Spn.row ht)
  ·exact hs r h
end
theorem sum_one {D:Pw→Int} {a:Pw} {c:Int} : ∀{ps:List Pw},ps.Nodup→a∈ps→(ps.map fun q=>(if a=q then c else 0) * D q).sum=c * D a
 | [],_,h=>by simp at h
 | p::ps,hn,h=>by
  have hn':=List.nodup_cons.1 hn
  simp only [List.map_cons,List.sum_cons]
  by_cases e:a=p
  ·rw [if_pos e,sum_zero fun q hq=>by rw [if_neg fun e2=>hn'.1 (by rw [← e,e2];exact hq),Int.zero_mul],e]
   omega
  ·rw [if_neg e,Int.zero_mul,Int.zero_add]
   exact sum_one hn'.2 ((List.mem_cons.1 h).resolve_left e)
theorem sum_cf {D:Pw→Int} {ps:List Pw} (hp:ps.Nodup) : ∀{s:Sm},(s.map (·.1)).Nodup→(∀x∈s,x.1∈ps)→(ps.map fun q=>cf s q * D q).sum=wG D s
 | [],_,_=>sum_zero fun q _=>by simp [cf]
 | x::s,hn,hs=>by
  have hn':=List.nodup_cons.1 (show (x.1::s.map (·.1)).Nodup from hn)
  have ih:=sum_cf (D:=D) hp hn'.2 fun y hy=>hs y (by simp [hy])
  have e:(ps.map fun q=>cf (x::s) q * D q)=ps.map fun q=>1 * ((if x.1=q then x.2 else 0) * D q)+cf s q * D q:=List.map_congr_left fun q _=>by
   simp only [cf]
   by_cases h:x.1=q
   ·rw [if_pos h,if_pos h,cf_none fun y hy h2=>hn'.1 (List.mem_map.2 ⟨y,hy,h2.trans h.symm⟩)]
    omega
   ·rw [if_neg h,if_neg h]
    omega
  rw [e,sum_plus,sum_one hp (hs x (by simp)),ih]
  simp only [wG]
  omega
section
variable {ds : List Int} {fs : List (List Term)} {n : Int}
theorem cf_dS1 (hA:AlgOk ds fs) (h8:ds.length≤8) (hd : ∀j,j<ds.length→1≤ds.getD j 0∧ds.getD j 0≤12) {q:Pw} (hq:q∈monS ds n) (t:Pw):Mo (cf (dS ds fs [(q,1)]) t) (dG ds fs (ind t) q 8):=by
 rw [cf_wG t (dS_one hA h8 hd hq)];have h:=wG_dS (ds:=ds) fs (ind t) [(q,1)];simp only [wG,Int.one_mul,Int.add_zero] at h;exact h
theorem row_ker (hG:isAlg ds fs=true) (hw:Wfss fs) (hn:n+1≤40) (hf1:fit2 ds n) {u:List Int} (hu:u∈matS ds fs n):Spn (clS ds fs (n+1)) (vR u):=by
 have hA:=isAlg_ok hG hw;have h8:=hA.hn;have hd:=alg_112 hG;obtain ⟨p,hp,rfl⟩:=List.mem_map.1 hu;have hpm:=List.mem_of_mem_take hp;have hs:=dS_one hA h8 hd hpm;have hom:=hom_of hG hw h8 hd (show n≤40 by omega) hf1;unfold clS;refine ker_spn (matS_ok (n:=n+1) hA h8 hd) (by rw [List.length_map,matS_len]) fun k hk=>?_
 have e1:Mo ((List.range (matS ds fs (n+1)).length).map fun i=>((monL ds (n+1)).map (cf (dS ds fs [(p,1)]))).getD i 0 * (rw_ (matS ds fs (n+1)) i).getD k 0).sum ((monL ds (n+1)).map fun q=>cf (dS ds fs [(p,1)]) q * dG ds fs (ind (rw_ (monL ds (n+1+1)) k)) q 8).sum:=by
  have e2:((monL ds (n+1)).map fun q=>cf (dS ds fs [(p,1)]) q * dG ds fs (ind (rw_ (monL ds (n+1+1)) k)) q 8)=(List.range (matS ds fs (n+1)).length).map fun i=>cf (dS ds fs [(p,1)]) (rw_ (monL ds (n+1)) i) * dG ds fs (ind (rw_ (monL ds (n+1+1)) k)) (rw_ (monL ds (n+1)) i) 8:=by
   rw [matS_len];refine List.ext_getElem (by simp) fun i h1 h2=>?_
   have h3:i<(monL ds (n+1)).length:=by simpa using h1
   simp [rw_,List.getD_eq_getElem?_getD,h3]
  rw [e2];refine sum_mo fun i hi=>?_;have hi:=List.mem_range.1 hi;rw [matS_len] at hi
  have e3:((monL ds (n+1)).map (cf (dS ds fs [(p,1)]))).getD i 0=cf (dS ds fs [(p,1)]) (rw_ (monL ds (n+1)) i):=by simp [rw_,List.getD_eq_getElem?_getD,hi]
  have e4:(rw_ (matS ds fs (n+1)) i).getD k 0=cf (dS ds fs [(rw_ (monL ds (n+1)) i,1)]) (rw_ (monL ds (n+1+1)) k):=by simp [matS,rw_,List.getD_eq_getElem?_getD,hi,hk]
  rw [e3,e4];exact (cf_dS1 hA h8 hd (monL_mem hi) _).mull _
 refine e1.trans ?_;rw [sum_cf (monL_nodup h8 _) hs.nodup (hom p hp)]
 have hp1:KEx ds [(p,1)]:=fun x hx=>by
  rw [List.mem_singleton.1 hx];exact mon_ex h8 hpm hd
 exact (wG_dS (ds:=ds) fs _ _).symm.trans (dS_sqG hG hw (Sok.one (k:=1) (mon_pok h8 hpm) (by omega)) hp1 _)
theorem bd_cl (hG:isAlg ds fs=true) (hw:Wfss fs) (hn:n≤40) (hf:fit3 ds n) : ∀r∈bdS ds fs n,Spn (clS ds fs n) (vR r):=fun r hr=>by
 have hA:=isAlg_ok hG hw
 have h8:=hA.hn
 have hd:=alg_112 hG
 unfold bdS at hr
 split at hr
 ·rename_i h0
  refine (((redS_ok (matS_ok (n:=n - 1) hA h8 hd)).2 _).1 (Spn.row hr)).sub fun u hu=>?_
  have h1:=row_ker hG hw (n:=n - 1) (by omega) ⟨hf.2 h0,by rw [Int.sub_add_cancel];exact hf.1.1⟩ hu
  rwa [Int.sub_add_cancel] at h1
 ·simp at hr
theorem cs_count (hG:isAlg ds fs=true) (hw:Wfss fs) (h0:0≤n) (hn:n≤40) (hf:fit3 ds n):((csS ds fs n).length:Int)=(monL ds n).length - rkS ds fs n - rkS ds fs (n - 1):=by
 have hA:=isAlg_ok hG hw;have h8:=hA.hn;have hd:=alg_112 hG;have h1:=by_count (clS_red (n:=n) hA h8 hd) (bdS_red (n:=n) hA h8 hd) (bd_cl hG hw hn hf);have h2:=ker_count (matS_ok (n:=n) hA h8 hd);rw [matS_len] at h2;have e1:(csS ds fs n).length=(redS ((clS ds fs n).map fun r=>byS r (bdS ds fs n))).length:=rfl;have e2:(clS ds fs n).length=(kerS (matS ds fs n) (monL ds (n+1)).length).length:=rfl;have e3:rkS ds fs n=(redS (matS ds fs n)).length:=if_neg (by omega)
 have e4:rkS ds fs (n - 1)=(bdS ds fs n).length:=by
  unfold rkS bdS
  by_cases h:0<n
  ·rw [if_neg (by omega),if_pos h]
  ·rw [if_pos (by omega),if_neg h]
   rfl
 omega
end
theorem fn64:Fn Tryz.prog 64:=⟨_,Tryz.func64,by kernel_rfl,rfl⟩
theorem fn65:Fn Tryz.prog 65:=⟨_,Tryz.func65,by kernel_rfl,rfl⟩
def btK (ds:List Int) (fs:List (List Term)) (k:Nat):List Int:=(List.range k).map fun j:Nat=>((csS ds fs (j:Int)).length:Int)
def btV (ds:List Int) (fs:List (List Term)) (m:Int):List Int:=if allC ds fs m=0 then btK ds fs (m+1).toNat else []
section
variable {ds : List Int} {fs : List (List Term)} {m : Int}
theorem btK_succ (k:Nat):btK ds fs (k+1)=btK ds fs k++[((csS ds fs (k:Int)).length:Int)]:=by
 unfold btK;rw [List.range_succ,List.map_append]
 rfl
theorem btK_len (k:Nat):(btK ds fs k).length=k:=by simp [btK]
theorem btV_n (h:allC ds fs m≠0):btV ds fs m=[]:=if_neg h
theorem btV_y (h:allC ds fs m=0):btV ds fs m=btK ds fs (m+1).toNat:=if_pos h
theorem allC_y (h:allC ds fs m=0):isAlg ds fs=true∧(0≤m∧m≤20)∧wiB ds 0 (m+1)=true:=by
 unfold allC at h
 cases h1:isAlg ds fs with
 | false=>rw [h1] at h;cases h
 | true=>
  cases h2:askB m with
  | false=>rw [h1,h2] at h;cases h
  | true=>
   cases h3:wiB ds 0 (m+1) with
   | false=>rw [h1,h2,h3] at h;cases h
   | true=>exact ⟨rfl,askB_y h2,rfl⟩
theorem rk_bd (hA:AlgOk ds fs) (h8:ds.length≤8) (hd : ∀j,j<ds.length→1≤ds.getD j 0∧ds.getD j 0≤12) (n:Int):0≤rkS ds fs n∧rkS ds fs n≤121:=by
 unfold rkS
 split
 ·omega
 ·have h1:=redS_length (matS ds fs n);have h2:=matS_len ds fs n;have h3:=monL_len ds n
  omega
end
theorem sBettiNumbers_c {B:World} {H0 H:HP} {L:List SA} {w:World} {qad qaf:Option Addr} {cad caf:Nat} {ad:List Int} {af:List (List Term)} {m:Int} (had:Ints H qad ad) (haf:Forms H qaf af) (hn8:ad.length≤1048576) (hn9:af.length≤1048576) (hl9 : ∀i,i<af.length→(fm af i).length≤1048576) (hH:Hp B H0 H L w):Calls Tryz.prog 22 [.agg [.slice qad ad.length cad,.slice qaf af.length caf].toArray,.int .i64 m].toArray w fun e w'=>∃q c,e = .returned (.tuple #[.slice q (btV ad af m).length c,.int .i64 (allC ad af m)])∧Hp B H0 H (own 2 1 q (btV ad af m).length c (intsC (btV ad af m))::L) w':=by
 refine Jz Tryz.func22 rfl 40 rfl rfl [(0,.agg [.slice qad ad.length cad,.slice qaf af.length caf].toArray),(1,.int .i64 m)] rfl hH ?_;have hw0:=hH.old;have hw1:=hH.le;clear hH;refine Je fun _ hK1 _=>(Jb (Ee rfl rfl rfl fun g2=>(Jg (Jd rfl) rfl (Jg (Jd rfl) rfl (Jf (Ja (hK1 (Je fun _ hK2 _=>(Je fun _ hK3 _=>(Jb (Jg (Jx rfl At.z (by simpa [*] using ag35)) rfl (Jg (Jc rfl) rfl (Jw fn64 rfl rfl fun w hH=>(l03All_c had haf (by omega) (by omega) hl9 hH).mono ?_)))))))))))));rintro _ w ⟨rfl,hH⟩;refine ⟨_,rfl,fun a hF=>JL hF hH ?_⟩;refine Jg (Jd rfl) rfl (Jf (Ja (hK3 (Je fun _ hK4 _=>(Jb (Jg (Jc rfl) rfl (Jg (El rfl rfl) rfl (Jf (Ja (hK4 (Jp rfl (fun h15=>?_) (fun h15=>?_))))))))))))
 ·
  refine Je fun _ hK5 _=>(Jb (Jg (Jc rfl) rfl (Jg (Jd rfl) rfl (Jg (Jd rfl) rfl (Jf (Ja (hK5 (Js (Jk (Er rfl (Res.tmp rfl) (Res.tmp rfl) fun w hH=>?_))))))))));replace hH:=hH.sublist (.cons _ (List.Sublist.refl _));rw [btV_n h15];exact ⟨none,0,rfl,(hH.own0 2 1).weaken (Le.refl _) hw0 hw1⟩
 ·
  have h0:allC ad af m=0:=Decidable.not_not.1 h15;obtain ⟨hG,hm20,hwi⟩:=allC_y h0;have hwf:=haf.wfss;have hw:=hwf;have hA:=isAlg_ok hG hwf;have h8:=hA.hn;have hd:=alg_112 hG;refine Jo (Ja (hK2 (Je fun _ hK6 _=>(Jb (EK (MK.lit0I u22 sz2) rfl fun qo17 co17=>(Jg (Jd rfl) rfl (Jg (Jd rfl) rfl (Jf (Ja (hK6 (Je fun _ hK7 _=>(Je fun _ hK8 _=>(Jb (Jg (Jd rfl) rfl (Jf (Ja (hK8 ?_)))))))))))))))));refine Jn (JE (σ:=Option Addr × Nat × Nat) (fun ⟨q,c,k⟩=>[(9,.int .i64 (k:Int)),(8,.int .i64 (rkS ad af ((k:Int) - 1))),(7,.slice q (btK ad af k).length c)]) (fun ⟨q,c,k⟩=>H) (fun ⟨q,c,k⟩=>own 2 1 q (btK ad af k).length c (intsC (btK ad af k))::obj g2 (.cells [.slice qad ad.length cad,.slice qaf af.length caf].toArray 35 (0,0))::L) (fun ⟨q,c,k⟩=>(k:Int)≤m+1) (fun ⟨q,c,k⟩=>(m+1 - (k:Int)).toNat) (qo17,co17,0) (by show ((0:Nat):Int)≤m+1;omega) ⟨rfl,⟨rfl,⟨rfl,trivial⟩⟩⟩ rfl rfl ?_);rintro ⟨q,c,k⟩ hk _ hAg0;refine Je fun _ hK9 _=>(Je fun _ hK10 _=>(Jb (Jg (Jc rfl) rfl (Jg (Jc rfl) rfl (Jg (PR.leq rfl rfl) rfl (Jf (Ja (hK10 (Jp rfl (fun h20=>?_) (fun h20=>?_))))))))))
  ·
   have hfk:fit3 ad (k:Int):=wi_f3 hwi (by omega) (by omega);have hmTk:=monT_L hfk.1.1;have hcc:=cs_count hG hwf (n:=(k:Int)) (by omega) (by omega) hfk;have hr1:=rk_bd hA h8 hd (k:Int);have hr0:=rk_bd hA h8 hd ((k:Int) - 1);have hmlk:=monL_len ad (k:Int);have hbl:=btK_len (ds:=ad) (fs:=af) k;refine Jo (Ja (hK9 (Je fun _ hK11 _=>(Jn (Je fun _ hK12 _=>(Jb (Jg (Jx rfl (.s .z) (by simpa [*] using ag35)) rfl (Jg (Jc rfl) rfl (Jw fn65 rfl rfl fun w hH=>(l03Rank_c had haf hG (by omega) (fun _=>hfk.1) hH).mono ?_)))))))));rintro _ w ⟨rfl,hH⟩;refine ⟨_,rfl,fun a hF=>JL hF hH ?_⟩;refine Jg (Jd rfl) rfl (Jf (Ja (hK12 (Je fun _ hK13 _=>(Jb (Jg (Jc rfl) rfl (Jg (Ju u35 rfl sz22 rfl) rfl (Jg (Jy rfl (.s .z) rfl pl22) rfl (Jg (Jc rfl) rfl (Jw fn66 rfl rfl fun w hH=>(l01Monomials_c had hd h8 (by omega) hH).mono ?_))))))))));rintro _ w ⟨qo30,co30,rfl,hH⟩;refine ⟨_,rfl,fun a hF=>JL hF hH ?_⟩;refine Jg (EN (v':=.int .i64 (((monL ad (k:Int)).length:Nat):Int)) (by rw [hmTk]) (Jm u88 rfl rfl)) rfl (Jg (Jc rfl) rfl (Jg (EL rfl rfl (nw _ (by omega))) rfl (Jg (Jc rfl) rfl (Jg (EL rfl rfl (nw _ (by omega))) rfl (EK (MK.lit1I u22 ze2 sz2 rfl) rfl fun qo36 co36=>(J.appendOI u22 ze2 sz2 by2 rfl rfl (by simp only [List.length_singleton];omega) .z (.s .z) (fun _ _=>(.s .z)) rfl fun qo37 co37=>(Jg (Jd rfl) rfl (Jf (Ja (hK13 (Jb (Jg (Jc rfl) rfl (Jg (Jd rfl) rfl (Jf (JF ?_)))))))))))))));refine Ja (hK11 (Jb (Jg (Jc rfl) rfl (Jg (JC rfl rfl (by first | exact nw _ (by omega) | rfl)) rfl (Jg (Jd rfl) rfl (Jf (Ja (JK .z (JK .z ?_)))))))));exact hAg0 (qo37,co37,k+1) (by show ((k+1:Nat):Int)≤m+1;omega) (by show (m+1 - ((k+1:Nat):Int)).toNat<(m+1 - (k:Int)).toNat;omega) 28 rfl rfl ⟨rfl,⟨(by rw [show ((k+1:Nat):Int) - 1=(k:Int) by omega];rfl),⟨(by rw [btK_succ,hcc];rfl),trivial⟩⟩⟩ rfl (by dsimp only;rw [btK_succ,hcc])
  ·
   refine JH (Jl (Jl (JQ (Ja (hK7 (Je fun _ hK14 _=>(Jb (Jg (Jc rfl) rfl (Jg (Jd rfl) rfl (Jg (Jd rfl) rfl (Jf (Ja (hK14 (Js (Er rfl (Res.tmp rfl) (Res.tmp rfl) fun w hH=>?_)))))))))))))));replace hH:=hH.sublist (.cons_cons _ (.cons _ (List.Sublist.refl _)))
   have hke:k=(m+1).toNat:=by omega
   subst hke;rw [btV_y h0,h0];exact ⟨_,_,rfl,hH.weaken (Le.refl _) hw0 hw1⟩
end Go.Proofs.YthenedanhcnccaaGreat.G
