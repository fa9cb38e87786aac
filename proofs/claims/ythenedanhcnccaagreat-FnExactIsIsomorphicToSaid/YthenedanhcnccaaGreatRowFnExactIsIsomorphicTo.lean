/- The row: the law answers true whatever the input, and the input reads as it did. No condition. -/
import Derived.Test.YthenedanhcnccaaGreatRows
import Derived.Test.YthenedanhcnccaaGreatProg
import Derived.WalkKit
import Derived.KernelRfl
import Derived.JoinedOf
import Derived.Maps.AppendAt
import Derived.Still
import Derived.ProofKit
import Derived.OpenShut
import Derived.StillTail
import Derived.Deep.Upon
import Derived.WalkSpells
import Derived.Maps.Range
import Derived.DeepKeys4
import Derived.Maps.Keyed
import Derived.ChangeOld
import Derived.Below
import Derived.SizedLaws
import Derived.Test.YthenedanhcnccaaGreatPIsoh
set_option linter.unusedVariables false
set_option linter.unusedSimpArgs false
set_option maxRecDepth 10000
set_option maxHeartbeats 8000000
open Nat (reduceEqDiff reduceSub reduceAdd)
namespace Go.Proofs.YthenedanhcnccaaGreat.G
open Go Go.RowKit
theorem fn22:Fn Tryz.prog 22:=⟨_,Tryz.func22,by kernel_rfl,rfl⟩
theorem fn99:Fn Tryz.prog 99:=⟨_,Tryz.func99,by kernel_rfl,rfl⟩
def isR (ad:List Int) (af:List (List Term)) (bd:List Int) (bf ms:List (List Term)) (n:Int):Bool:=decide ((csS ad af n).length=(csS bd bf n).length) && decide ((redS (mmS ad af bd bf ms n)).length=(csS ad af n).length)
def is2 (ad bd:List Int) (n:Int):Int:=if wiB ad 0 (n+1) && wiB bd 0 (n+1) then 0 else 3
def isC (ad:List Int) (af:List (List Term)) (bd:List Int) (bf ms:List (List Term)) (n:Int):Int:=if mm1 ad af bd bf ms n=0 then is2 ad bd n else mm1 ad af bd bf ms n
def isV (ad:List Int) (af:List (List Term)) (bd:List Int) (bf ms:List (List Term)) (n:Int):Bool:=decide (isC ad af bd bf ms n=0) && (List.range (n+1).toNat).all fun k:Nat=>isR ad af bd bf ms (k:Int)
section
variable {ad bd : List Int} {af bf ms : List (List Term)} {n : Int}
theorem isC_n (h:mm1 ad af bd bf ms n≠0):isC ad af bd bf ms n=mm1 ad af bd bf ms n:=if_neg h
theorem isC_y (h : ¬mm1 ad af bd bf ms n≠0):isC ad af bd bf ms n=is2 ad bd n:=if_pos (Decidable.not_not.1 h)
theorem isV_n (h:isC ad af bd bf ms n≠0):isV ad af bd bf ms n=false:=by unfold isV;rw [decide_eq_false h];rfl
theorem isV_b {k:Nat} (hk:(k:Int)≤n) (h:isR ad af bd bf ms (k:Int)=false):isV ad af bd bf ms n=false:=by
 unfold isV;rw [show ((List.range (n+1).toNat).all fun k:Nat=>isR ad af bd bf ms (k:Int))=false from List.all_eq_false.2 ⟨k,List.mem_range.2 (by omega),by simp [h]⟩]
 simp
theorem isV_y (h:isC ad af bd bf ms n=0) (h2 : ∀k:Nat,(k:Int)<n+1→isR ad af bd bf ms (k:Int)=true):isV ad af bd bf ms n=true:=by
 unfold isV;rw [decide_eq_true h,show ((List.range (n+1).toNat).all fun k:Nat=>isR ad af bd bf ms (k:Int))=true from List.all_eq_true.2 fun k hk=>h2 k (by have:=List.mem_range.1 hk;omega)]
 rfl
theorem isR_1 (h:(csS ad af n).length≠(csS bd bf n).length):isR ad af bd bf ms n=false:=by unfold isR;rw [decide_eq_false h];rfl
theorem isR_2 (h:(redS (mmS ad af bd bf ms n)).length≠(csS ad af n).length):isR ad af bd bf ms n=false:=by unfold isR;rw [decide_eq_false h];simp
theorem isR_y (h:(csS ad af n).length=(csS bd bf n).length) (h2:(redS (mmS ad af bd bf ms n)).length=(csS ad af n).length):isR ad af bd bf ms n=true:=by unfold isR;rw [decide_eq_true h,decide_eq_true h2];rfl
theorem is2_1 (h:wiB ad 0 (n+1)=false):is2 ad bd n=3:=by unfold is2;rw [h];rfl
theorem al_wi (hG:isAlg ad af=true) (hk:askB n=true):allC ad af n=if wiB ad 0 (n+1) then 0 else 3:=by unfold allC;rw [hG,hk];rfl
theorem al_0 (h:allC ad af n=0):wiB ad 0 (n+1)=true:=(allC_y h).2.2
theorem al_n (hG:isAlg ad af=true) (hk:askB n=true) (h:allC ad af n≠0):allC ad af n=3∧wiB ad 0 (n+1)=false:=by
 rw [al_wi hG hk] at h ⊢
 cases hw:wiB ad 0 (n+1) with
 | true=>rw [hw] at h;exact absurd rfl h
 | false=>exact ⟨rfl,rfl⟩
theorem al_max (hGa:isAlg ad af=true) (hGb:isAlg bd bf=true) (hk:askB n=true):(if allC bd bf n>allC ad af n then allC bd bf n else allC ad af n)=is2 ad bd n:=by
 rw [al_wi hGa hk,al_wi hGb hk];unfold is2
 cases wiB ad 0 (n+1) <;> cases wiB bd 0 (n+1) <;> rfl
theorem al_or (hGa:isAlg ad af=true) (hGb:isAlg bd bf=true) (hk:askB n=true) (h:allC ad af n≠0):true=decide (is2 ad bd n≠0):=by
 rw [is2_1 (al_n hGa hk h).2]
 rfl
theorem al_or2 (hGa:isAlg ad af=true) (hGb:isAlg bd bf=true) (hk:askB n=true) (h : ¬allC ad af n≠0):decide (allC bd bf n≠0)=decide (is2 ad bd n≠0):=by
 rw [al_wi hGb hk];unfold is2;rw [al_0 (Decidable.not_not.1 h)]
 cases wiB bd 0 (n+1) <;> rfl
theorem is2_z (h:is2 ad bd n=0):wiB ad 0 (n+1)=true∧wiB bd 0 (n+1)=true:=by
 unfold is2 at h
 cases h1:wiB ad 0 (n+1) <;> cases h2:wiB bd 0 (n+1) <;> simp_all
theorem up_is (ad bd:List Int) (n:Int):firstOf [upC ad n,upC bd n]=is2 ad bd n:=by
 rw [firstOf_two];unfold is2
 by_cases h1:upC ad n≠0
 ·obtain ⟨e,hw⟩:=upC_n h1;rw [e,hw]
  rfl
 ·rw [upC_z h1,Decidable.not_not.1 h1]
  by_cases h2:upC bd n≠0
  ·obtain ⟨e,hw⟩:=upC_n h2;rw [e,hw]
   rfl
  ·rw [upC_z h2,Decidable.not_not.1 h2]
   rfl
theorem wi_ar {ds:List Int} {fs:List (List Term)} {k t:Int} (hG:isAlg ds fs=true) (h:wiB ds 0 t=true) (h0:0≤k) (hk:k+1≤t):arB ds k=true:=by
 have h1:fitB ds (k - 1)=true:=by
  by_cases e:k - 1<0
  ·exact fit_neg hG e
  ·exact wi_fit h (by omega) (by omega)
 unfold arB;rw [h1,wi_fit h (by omega) (by omega),wi_fit h (by omega) (by omega)]
 rfl
def ioB (N:Nat) (rs:List (List Int)):Bool:=decide (rs.length=N) && decide ((redS rs).length=rs.length)
theorem ioB_is:ioB (csS bd bf n).length (mmS ad af bd bf ms n)=isR ad af bd bf ms n:=by
 unfold ioB isR;rw [mmS_len]
theorem ioB_1 {N:Nat} {rs:List (List Int)} (h : ¬rs.length=N):false=ioB N rs:=by unfold ioB;rw [decide_eq_false h];rfl
theorem ioB_2 {N:Nat} {rs:List (List Int)} (h:rs.length=N):decide (((redS rs).length:Int)=(rs.length:Int))=ioB N rs:=by
 unfold ioB;rw [decide_eq_true h];exact decide_eq_decide.2 (by omega)
theorem btK_get {ds:List Int} {fs:List (List Term)} {k j:Nat} (h:j<k):(btK ds fs k).getD j 0=((csS ds fs (j:Int)).length:Int):=by simp [btK,List.getD_eq_getElem?_getD,h]
end
theorem sIsIsomorphicTo_c {B:World} {H0 H:HP} {L:List SA} {w:World} {qad qaf:Option Addr} {cad caf:Nat} {ad:List Int} {af:List (List Term)} {qbd qbf:Option Addr} {cbd cbf:Nat} {bd:List Int} {bf:List (List Term)} {qms:Option Addr} {cms:Nat} {ms:List (List Term)} {n:Int} (had:Ints H qad ad) (haf:Forms H qaf af) (hbd:Ints H qbd bd) (hbf:Forms H qbf bf) (hms:Forms H qms ms) (hn8:ad.length≤1048576) (hn9:af.length≤1048576) (hl9 : ∀i,i<af.length→(fm af i).length≤1048576) (hbn8:bd.length≤1048576) (hbn9:bf.length≤1048576) (hbl9 : ∀i,i<bf.length→(fm bf i).length≤1048576) (hmn9:ms.length≤1048576) (hml9 : ∀i,i<ms.length→(fm ms i).length≤1048576) (hH:Hp B H0 H L w):Calls Tryz.prog 47 [.agg [.slice qad ad.length cad,.slice qaf af.length caf].toArray,.agg [.slice qbd bd.length cbd,.slice qbf bf.length cbf].toArray,.slice qms ms.length cms,.int .i64 n].toArray w fun e w'=>e = .returned (.tuple #[.bool (isV ad af bd bf ms n),.int .i64 (isC ad af bd bf ms n)])∧Hp B H0 H L w':=by
 refine Jz Tryz.func47 rfl 81 rfl rfl [(0,.agg [.slice qad ad.length cad,.slice qaf af.length caf].toArray),(1,.agg [.slice qbd bd.length cbd,.slice qbf bf.length cbf].toArray),(2,.slice qms ms.length cms),(3,.int .i64 n)] rfl hH ?_;have hw0:=hH.old;have hw1:=hH.le;clear hH;refine Je fun _ hK1 _=>(Jb (Ee rfl rfl rfl fun g4=>(Ee rfl rfl rfl fun g5=>(Jg (Jd rfl) rfl (Jg (Jd rfl) rfl (Jf (Ja (hK1 (Je fun _ hK2 _=>(Je fun _ hK3 _=>(Jb (Jg (Jx rfl (.s .z) (by simpa [*] using ag35)) rfl (Jg (Jx rfl At.z (by simpa [*] using ag35)) rfl (Jg (Jc rfl) rfl (Jg (Jc rfl) rfl ?_)))))))))))))));refine Jw fn94 rfl rfl fun w hH=>(l04Code_c had haf hbd hbf hms hn8 hn9 hl9 hbn8 hbn9 hbl9 hmn9 hml9 hH).mono ?_;rintro _ w ⟨rfl,hH⟩;refine ⟨_,rfl,fun a hF=>JL hF hH ?_⟩;refine Jg (Jd rfl) rfl (Jf (Ja (hK3 (Je fun _ hK4 _=>(Jb (Jg (Jc rfl) rfl (Jg (El rfl rfl) rfl (Jf (Ja (hK4 (Jp rfl (fun h24=>?_) (fun h24=>?_))))))))))))
 ·
  refine Je fun _ hK5 _=>(Jb (Jg (Jc rfl) rfl (Jg (Jd rfl) rfl (Jg (Jd rfl) rfl (Jf (Ja (hK5 (Js (Jk (Er rfl (Res.tmp rfl) (Res.tmp rfl) fun w hH=>?_))))))))));replace hH:=hH.tail;replace hH:=hH.tail;exact ⟨tup_bi (isV_n (by rw [isC_n h24];exact h24)).symm (isC_n h24).symm,hH⟩
 ·
  obtain ⟨hM,hak⟩:=mm1_y h24;have hask:=askB_y hak;have hn:=hask;have hGa:=isMp_1 hM;have hGb:=isMp_2 hM;have hAa:=isAlg_ok hGa haf.wfss;have hAb:=isAlg_ok hGb hbf.wfss;have hda:=alg_112 hGa;have hdb:=alg_112 hGb;have h8a:=hAa.hn;have h8b:=hAb.hn;have hml:=isMp_l hM;refine Jo (Ja (hK2 (Je fun _ hK6 _=>(Jb (Jg (Jx rfl (.s .z) (by simpa [*] using ag35)) rfl (Jg (Jc rfl) rfl (Jw fn22 rfl rfl fun w hH=>(sBettiNumbers_c had haf hn8 hn9 hl9 hH).mono ?_)))))));rintro _ w ⟨qo29,co29,rfl,hH⟩;refine ⟨_,rfl,fun a hF=>JL hF hH ?_⟩;refine Jg (Jc rfl) rfl (Jg (JM rfl rfl) rfl (Jg (JM rfl rfl) rfl (Jg (Jd rfl) rfl (Jg (Jd rfl) rfl (Jf (Ja (hK6 (Je fun _ hK7 _=>(Jb (Jg (Jx rfl (.s .z) (by simpa [*] using ag35)) rfl (Jg (Jc rfl) rfl (Jw fn22 rfl rfl fun w hH=>(sBettiNumbers_c hbd hbf hbn8 hbn9 hbl9 hH).mono ?_))))))))))));rintro _ w ⟨qo35,co35,rfl,hH⟩;refine ⟨_,rfl,fun a hF=>JL hF hH ?_⟩;refine Jg (Jc rfl) rfl (Jg (JM rfl rfl) rfl (Jg (JM rfl rfl) rfl (Jg (Jd rfl) rfl (Jg (Jd rfl) rfl (Jf (Ja (hK7 (Je fun _ hK8 _=>(EW (σ:=Bool) (fun (b:Bool)=>[(43,.bool b)]) (fun (b:Bool)=>H) (fun (b:Bool)=>own 2 1 qo35 (btV bd bf n).length co35 (intsC (btV bd bf n))::own 2 1 qo29 (btV ad af n).length co29 (intsC (btV ad af n))::obj g5 (.cells [.slice qbd bd.length cbd,.slice qbf bf.length cbf].toArray 35 (0,0))::obj g4 (.cells [.slice qad ad.length cad,.slice qaf af.length caf].toArray 35 (0,0))::L) (fun (b:Bool)=>b=decide (is2 ad bd n≠0)) ?_ ?_)))))))))
  ·
   intro _ hMt1;refine Jb (Jg (Jc rfl) rfl (Jg (El rfl rfl) rfl (Jg (Jc rfl) rfl (Ei (jd:=40) rfl (fun h40=>?_) (fun h40=>?_)))))
   ·
    try have h40p:=of_decide_eq_true h40
    refine JU rfl rfl rfl h40 (JU rfl rfl rfl h40 (Jg (JZ rfl h40 rfl) rfl (Jf (Ja ?_))));exact hMt1 true (al_or hGa hGb hak h40p) 6 rfl rfl ⟨rfl,trivial⟩ rfl rfl
   ·
    try have h40p:=of_decide_eq_false h40
    refine JX (Jc rfl) rfl rfl rfl h40 (JX (El rfl rfl) rfl rfl rfl h40 (Jg (JW rfl h40 rfl) rfl (Jf (Ja ?_))));exact hMt1 (decide (allC bd bf n≠0)) (al_or2 hGa hGb hak h40p) 6 rfl rfl ⟨rfl,trivial⟩ rfl rfl
  ·
   rintro b hb;refine Eg rfl (fun h43=>?_) (fun h43=>?_)
   ·
    have hb2:is2 ad bd n≠0:=by rw [h43] at hb;exact of_decide_eq_true hb.symm
    refine Je fun _ hK9 _=>(Jb (Jg (Jc rfl) rfl (Jg (Jc rfl) rfl (Jg (PR.max2 rfl rfl) rfl (Jg (Jd rfl) rfl (Jg (Jd rfl) rfl (Jf (Ja (hK9 (Js (Jk (Er rfl (Res.tmp rfl) (Res.tmp rfl) fun w hH=>?_))))))))))));replace hH:=hH.tail;replace hH:=hH.tail;replace hH:=hH.tail;replace hH:=hH.tail;exact ⟨tup_bi (isV_n (by rw [isC_y h24];exact hb2)).symm (by rw [isC_y h24,← al_max hGa hGb hak]),hH⟩
   ·
    have hb2:is2 ad bd n=0:=by rw [h43] at hb;exact Decidable.not_not.1 (of_decide_eq_false hb.symm)
    obtain ⟨hwa,hwb⟩:=is2_z hb2
    have ha0:allC ad af n=0:=by rw [al_wi hGa hak,hwa];rfl
    have hb0:allC bd bf n=0:=by rw [al_wi hGb hak,hwb];rfl
    have hbla:(btV ad af n).length=(n+1).toNat:=by rw [btV_y ha0,btK_len]
    have hblb:(btV bd bf n).length=(n+1).toNat:=by rw [btV_y hb0,btK_len]
    refine Jo (Ja (hK8 (Je fun _ hK10 _=>(Je fun _ hK11 _=>(Jb (Jg (Jd rfl) rfl (Jf (Ja (hK11 (Jn (JE (σ:=HP × Nat) (fun ⟨Hk,k⟩=>[(15,.int .i64 (k:Int))]) (fun ⟨Hk,k⟩=>Hk) (fun ⟨Hk,k⟩=>own 2 1 qo35 (btV bd bf n).length co35 (intsC (btV bd bf n))::own 2 1 qo29 (btV ad af n).length co29 (intsC (btV ad af n))::obj g5 (.cells [.slice qbd bd.length cbd,.slice qbf bf.length cbf].toArray 35 (0,0))::obj g4 (.cells [.slice qad ad.length cad,.slice qaf af.length caf].toArray 35 (0,0))::L) (fun ⟨Hk,k⟩=>Le H Hk∧(k:Int)≤n+1∧∀j:Nat,j<k→isR ad af bd bf ms (j:Int)=true) (fun ⟨Hk,k⟩=>(n+1 - (k:Int)).toNat) (_,0) ⟨Le.refl _,by omega,fun j hj=>by omega⟩ ⟨rfl,trivial⟩ rfl rfl ?_)))))))))));rintro ⟨Hk,k⟩ ⟨hlk,hk,hI⟩ _ hAg0;replace had:=had.le hlk;replace haf:=haf.le hlk;replace hbd:=hbd.le hlk;replace hbf:=hbf.le hlk;replace hms:=hms.le hlk;refine Je fun _ hK12 _=>(Je fun _ hK13 _=>(Jb (Jg (Jc rfl) rfl (Jg (Jc rfl) rfl (Jg (PR.leq rfl rfl) rfl (Jf (Ja (hK13 (Jp rfl (fun h49=>?_) (fun h49=>?_))))))))))
    ·
     have hfa:fit3 ad (k:Int):=wi_f3 hwa (by omega) (by omega);have hfb:fit3 bd (k:Int):=wi_f3 hwb (by omega) (by omega);have hm2:mm2 ad bd (k:Int)=0:=mm2_y (wi_ar hGa hwa (by omega) (by omega)) (wi_ar hGb hwb (by omega) (by omega));have hcna:=csS_len (n:=(k:Int)) hAa h8a hda
     have hga:(btV ad af n).getD k 0=((csS ad af (k:Int)).length:Int):=by rw [btV_y ha0];exact btK_get (by omega)
     have hgb:(btV bd bf n).getD k 0=((csS bd bf (k:Int)).length:Int):=by rw [btV_y hb0];exact btK_get (by omega)
     refine Jo (Ja (hK12 (Je fun _ hK14 _=>(Jn (Je fun _ hK15 _=>(Jb (Jg (Jx rfl (.s (.s (.s .z))) (by simpa [*] using ag35)) rfl (Jg (Jx rfl (.s (.s .z)) (by simpa [*] using ag35)) rfl (Jg (Jc rfl) rfl (Jg (Jc rfl) rfl (Jw fn95 rfl rfl fun w hH=>(l04Matrix_c had haf hbd hbf hms hn8 hn9 hl9 hbn8 hbn9 hbl9 hmn9 hml9 hM (by omega) hH).mono ?_)))))))))));rintro _ w ⟨qo57,co57,vso57,rfl,hH⟩;refine ⟨_,rfl,fun a hF=>JL hF hH ?_⟩;refine Jg (Jc rfl) rfl (Jg (JM rfl rfl) rfl (Jg (JM rfl rfl) rfl (Jg (Jd rfl) rfl (EA .z fun Ho57 hleo57 hAo57=>?_))));replace had:=had.le hleo57;replace haf:=haf.le hleo57;replace hbd:=hbd.le hleo57;replace hbf:=hbf.le hleo57;replace hms:=hms.le hleo57;have hxo57:=own_rows hAo57;have hco57:=own_le hAo57.1;refine Jg (Jd rfl) rfl (Jf (Ja (hK15 (Je fun _ hK16 _=>(Je fun _ hK17 _=>(Jb (Jg (Jc rfl) rfl (Jg (El rfl rfl) rfl (Jf (Ja (hK17 (Jp rfl (fun h61=>?_) (fun h61=>?_)))))))))))))
     ·
      refine Je fun _ hK18 _=>(Jb (Jg (Jc rfl) rfl (Jg (Jd rfl) rfl (Jg (Jd rfl) rfl (Jf (Ja (hK18 (Js (Jk (JT (Jk (Jk (JT (Jk (Er rfl (Res.tmp rfl) (Res.tmp rfl) fun w hH=>?_)))))))))))))));replace hH:=hH.tail;replace hH:=hH.tail;replace hH:=hH.tail;replace hH:=hH.tail;exact absurd hm2 h61
     ·
      have hrs9:=mmI_ok (ad:=ad) (af:=af) (bd:=bd) (bf:=bf) (ms:=ms) (n:=(k:Int)) hM haf.wfss hbf.wfss hms.wfss (by omega);have hil9:=mmI_len (ad:=ad) (af:=af) (bd:=bd) (bf:=bf) (ms:=ms) (n:=(k:Int)) (by omega);have hrv9:(if mm2 ad bd (k:Int)=0 then mmS ad af bd bf ms (k:Int) else [])=mmS ad af bd bf ms (k:Int):=if_pos hm2;rw [hrv9] at hrs9 hil9;refine Jo (Ja (hK16 (Je fun _ hK19 _=>(Eo [[], [], [0,1], [2], [], [], [4,5], [6], [3,7], [8], [9], [10,9], [9], [9], [12,13,9], [14,9]] (by kernel_rfl) (JA (fun gh=>Jc rfl) (JA (fun gh=>Jc rfl) (JA (fun gh=>Es u22 sz2 rfl rfl rfl (by omega) (.s .z)) (JA (fun gh=>EE rfl (.s .z) (intsC_get (by first | omega | (simp;omega))) pl2) (JA (fun gh=>Jc rfl) (JA (fun gh=>Jc rfl) (JA (fun gh=>Es u22 sz2 rfl rfl rfl (by omega) At.z) (JA (fun gh=>EE rfl At.z (intsC_get (by first | omega | (simp;omega))) pl2) (JA (fun gh=>El rfl rfl) (JA (fun gh=>Jc rfl) (EQ 9 rfl (fun h72=>?_) (fun h72=>?_))))))))))))))))
      ·
       try have h72p:=of_decide_eq_true h72
       refine Ed rfl (fun gh=>rfl) h72 (Ed rfl (fun gh=>rfl) h72 (Ed rfl (fun gh=>rfl) h72 (Ed rfl (fun gh=>rfl) h72 (Ed rfl (fun gh=>rfl) h72 (Ed rfl (fun gh=>rfl) h72 (Eb 16 0 foll0 (by kernel_rfl) rfl rfl fun gh=>(En (us':=(63,_)::(64,_)::(65,_)::(66,_)::(67,_)::(68,_)::(69,_)::(70,_)::(71,_)::(72,_)::(73,_)::(74,_)::(75,_)::(76,_)::(77,_)::(78,_)::_) (L':=_) rfl rfl (Jf (Ec (JS.gn rfl rfl rfl h72 (JD (JZ rfl h72 rfl) rfl (Ef (Ja (hK19 (Ey rfl ?_)))))))))))))));refine Je fun _ hK20 _=>(Jb (Jg (Jd rfl) rfl (Jg (Jd rfl) rfl (Jf (Ja (hK20 (Js (JT (Jk (Jk (JT (Jk (Er rfl (Res.tmp rfl) (Res.tmp rfl) fun w hH=>?_)))))))))))));replace hH:=hH.tail;replace hH:=hH.tail;replace hH:=hH.tail;replace hH:=hH.tail;have hc0:=(isC_y h24).trans hb2;exact ⟨tup_bi (isV_b (k:=k) (by omega) (isR_1 (by omega))).symm hc0.symm,hH.weaken (hlk.trans hleo57) hw0 hw1⟩
      ·
       try have h72p:=of_decide_eq_false h72
       refine Eh (fun gh=>Jc rfl) rfl (fun gh=>rfl) h72 (HJ.gcall fn96 rfl (fun gh=>rfl) h72 (fun gh=>rfl) (fun w X hH=>l04Rank_c (W:=(csS bd bf (k:Int)).length) hxo57 (by rw [hrv9];exact hrs9) (by rw [hrv9];omega) (by omega) hH) (Eh (fun gh=>Jc rfl) rfl (fun gh=>rfl) h72 (Eh (fun gh=>Jc rfl) rfl (fun gh=>rfl) h72 (Eh (fun gh=>Es u22 sz2 rfl rfl rfl (by omega) (.s .z)) rfl (fun gh=>rfl) h72 (Eh (fun gh=>EE rfl (.s .z) (intsC_get (by first | omega | (simp;omega))) pl2) rfl (fun gh=>rfl) h72 (Eb 16 0 foll0 (by kernel_rfl) rfl rfl fun gh=>(En (us':=(63,_)::(64,_)::(65,_)::(66,_)::(67,_)::(68,_)::(69,_)::(70,_)::(71,_)::(72,_)::(73,_)::(74,_)::(75,_)::(76,_)::(77,_)::(78,_)::_) (L':=_) rfl rfl (Jf (Ec (JS.gy (El rfl rfl) rfl rfl rfl h72 (JD (JW rfl h72 rfl) rfl (Ef (Ja (hK19 (Jp rfl (fun h80=>?_) (fun h80=>?_))))))))))))))))
       ·
        try rw [hrv9] at h80
        refine Je fun _ hK21 _=>(Jb (Jg (Jd rfl) rfl (Jg (Jd rfl) rfl (Jf (Ja (hK21 (Js (JT (Jk (Jk (JT (Jk (Er rfl (Res.tmp rfl) (Res.tmp rfl) fun w hH=>?_)))))))))))));replace hH:=hH.tail;replace hH:=hH.tail;replace hH:=hH.tail;replace hH:=hH.tail;have hc0:=(isC_y h24).trans hb2;exact ⟨tup_bi (isV_b (k:=k) (by omega) (isR_2 (by omega))).symm hc0.symm,hH.weaken (hlk.trans hleo57) hw0 hw1⟩
       ·
        try rw [hrv9] at h80
        refine Jo (JF (Ja (hK14 (Jb (Jg (Jc rfl) rfl (Jg (JC rfl rfl (by first | exact nw _ (by omega) | rfl)) rfl (Jg (Jd rfl) rfl (Jf (Ja ?_)))))))));exact hAg0 (Ho57,k+1) ⟨(hlk.trans hleo57),by omega,upto hI (isR_y (by omega) (by omega))⟩ (by show (n+1 - ((k+1:Nat):Int)).toNat<(n+1 - (k:Int)).toNat;omega) 37 rfl rfl ⟨rfl,trivial⟩ rfl rfl
    ·
     refine JH (Jl (Jl (JQ (Ja (hK10 (Je fun _ hK22 _=>(Jb (Jg (Jd rfl) rfl (Jg (Jd rfl) rfl (Jf (Ja (hK22 (Js (Er rfl (Res.tmp rfl) (Res.tmp rfl) fun w hH=>?_))))))))))))));replace hH:=hH.tail;replace hH:=hH.tail;replace hH:=hH.tail;replace hH:=hH.tail;have hc0:=(isC_y h24).trans hb2;exact ⟨tup_bi (isV_y hc0 fun j hj=>hI j (by omega)).symm hc0.symm,hH.weaken hlk hw0 hw1⟩
theorem isIsomorphic_c {B:World} {H0 H:HP} {L:List SA} {w:World} {bld kbld nld:Nat} {qldf qldt qldi:Option Addr} {cldf cldt cldi:Nat} {ldf ldt:List Int} {lds:Nat→Sm} {bc lc:Nat} {bca:Nat} {qcad qcaf:Option Addr} {ccad ccaf:Nat} {cad:List Int} {caf:List (List Term)} {lsc:List (Int × Lv)} {bx lx:Nat} {bxa:Nat} {qxad qxaf:Option Addr} {cxad cxaf:Nat} {xad:List Int} {xaf:List (List Term)} {lsx:List (Int × Lv)} {n:Int} {km:Nat} {kv:Vs} (pld0:CellAt H bld 0 (.slice qldf ldf.length cldf)) (pld1:CellAt H bld 1 (.slice qldt ldt.length cldt)) (pld2:CellAt H bld 2 (.slice qldi nld cldi)) (pld3:CellAt H bld 3 (.map (some kbld))) (hldf:Ints H qldf ldf) (hldt:Ints H qldt ldt) (hldi:ImR H qldi nld lds) (pc0:CellAt H bc 0 (.pointer (some ⟨bca,0,none⟩))) (pc1:CellAt H bc 1 (.map (some lc))) (pcad:CellAt H bca 0 (.slice qcad cad.length ccad)) (pcaf:CellAt H bca 1 (.slice qcaf caf.length ccaf)) (hcad:Ints H qcad cad) (hcaf:Forms H qcaf caf) (px0:CellAt H bx 0 (.pointer (some ⟨bxa,0,none⟩))) (px1:CellAt H bx 1 (.map (some lx))) (pxad:CellAt H bxa 0 (.slice qxad xad.length cxad)) (pxaf:CellAt H bxa 1 (.slice qxaf xaf.length cxaf)) (hxad:Ints H qxad xad) (hxaf:Forms H qxaf xaf) (hGc:isAlg cad caf=true) (hGx:isAlg xad xaf=true) (hn:0≤n∧n≤20) (hfit:fit3 cad n) (hfix:fit3 xad n) (hCc:CpxOk H cad caf (fun _=>False) lsc) (hNc:Nxt (fun _=>False) lsc) (hCx:CpxOk H xad xaf (fun _=>False) lsx) (hNx:Nxt (fun _=>False) lsx) (hnn:ldf.length=nld) (hn8:nld≤8) (hLd : ∀r∈csS cad caf n,Ld ldt cad lds ldf.length 20 (sumR (monL cad n) r)) (him : ∀r∈csS cad caf n,∀x∈leadS ldt lds ldf.length (sumR (monL cad n) r),x.1∈monL xad n) (hmo : ∀r∈(moS cad caf xad xaf ldt lds ldf.length n),RowOk (csS xad xaf n).length r) (hH:Hp B H0 H (knw (kF ldt lds) kbld km kv::cpx lc lsc::cpx lx lsx::L) w):Calls Tryz.prog 99 [.pointer (some ⟨bld,0,none⟩),.pointer (some ⟨bc,0,none⟩),.pointer (some ⟨bx,0,none⟩),.int .i64 n].toArray w fun e w'=>∃H' lc' lx' m' vs',Le H H' ∧(CpxOk H' cad caf (fun _=>False) lc' ∧Nxt (fun _=>False) lc')∧(CpxOk H' xad xaf (fun _=>False) lx' ∧Nxt (fun _=>False) lx')∧e = .returned (.bool (ioB (csS xad xaf n).length (moS cad caf xad xaf ldt lds ldf.length n)))∧Hp B H0 H' (cpx lc lc'::knw (kF ldt lds) kbld m' vs'::cpx lx lx'::L) w':=by
 refine Jz Tryz.func99 rfl 32 rfl rfl [(0,.pointer (some ⟨bld,0,none⟩)),(1,.pointer (some ⟨bc,0,none⟩)),(2,.pointer (some ⟨bx,0,none⟩)),(3,.int .i64 n)] rfl hH ?_;clear hH;have hwc:=hcaf.wfss;have hAc:=isAlg_ok hGc hwc;have h8c:=hAc.hn;have hdc:=alg_112 hGc;have hml:=monL_len cad n;have hcsR:=csS_red (n:=n) hAc h8c hdc;have hcsl:=csS_len (n:=n) hAc h8c hdc;have hbdR:=bdS_red (n:=n) hAc h8c hdc;have hbdl:=bdS_len (n:=n) hAc h8c hdc;have hclR:=clS_red (n:=n) hAc h8c hdc;have hcll:=clS_len (n:=n) hAc h8c hdc;have hwx:=hxaf.wfss;have hAx:=isAlg_ok hGx hwx;have h8x:=hAx.hn;have hdx:=alg_112 hGx;have hmol:(moS cad caf xad xaf ldt lds ldf.length n).length=(csS cad caf n).length:=moS_len;refine Je fun _ hK1 _=>(Jb (Jg (Jd rfl) rfl (Jf (Ja (hK1 (Je fun _ hK2 _=>(Jb (Jg (Jc rfl) rfl (Jg (Jc rfl) rfl (Jg (Jc rfl) rfl (Jg (Jc rfl) rfl (Jw fn100 rfl rfl fun w hH=>(matrixOf_c pld0 pld1 pld2 pld3 hldf hldt hldi pc0 pc1 pcad pcaf hcad hcaf px0 px1 pxad pxaf hxad hxaf hGc hGx hn hfit hfix hCc hNc hCx hNx hnn hn8 hLd him (((hH.front (.s (.s .z))).front (.s (.s .z))).front (.s (.s .z)))).mono ?_))))))))))));rintro _ w ⟨Hf14,lsa14,lsb14,mo14,vo14,qo14,co14,vs14,hlf14,⟨hC14,hN14⟩,⟨hCb14,hNb14⟩,rfl,hH⟩;refine ⟨_,rfl,fun a hF=>JL hF hH ?_⟩;replace pld0:=pld0.le hlf14;replace pld1:=pld1.le hlf14;replace pld2:=pld2.le hlf14;replace pld3:=pld3.le hlf14;replace hldf:=hldf.le hlf14;replace hldt:=hldt.le hlf14;replace hldi:=hldi.le hlf14;replace pc0:=pc0.le hlf14;replace pc1:=pc1.le hlf14;replace pcad:=pcad.le hlf14;replace pcaf:=pcaf.le hlf14;replace hcad:=hcad.le hlf14;replace hcaf:=hcaf.le hlf14;replace px0:=px0.le hlf14;replace px1:=px1.le hlf14;replace pxad:=pxad.le hlf14;replace pxaf:=pxaf.le hlf14;replace hxad:=hxad.le hlf14;replace hxaf:=hxaf.le hlf14;replace hCc:=hCc.le hlf14;replace hCx:=hCx.le hlf14;refine Jg (Jd rfl) rfl (Jf (Ja (hK2 (Je fun _ hK3 _=>(Jb (Jg (Jc rfl) rfl (Jg (Jm u57 rfl rfl) rfl (Jg (Jc rfl) rfl (Jg (Jc rfl) rfl (Jw fn68 rfl rfl fun w hH=>(at_c px0 px1 pxad pxaf hxad hxaf hdx h8x (by omega) hAx hfix (fun m hm hf=>hom_of hGx hwx h8x hdx (by omega) hf) hCb14 hNb14 (hH.front (.s (.s (.s .z))))).mono ?_))))))))));rintro _ w ⟨Hf19,ls19,⟨b19,p19,⟨ql19,kl19,cl19⟩,⟨qm19,km19,cm19⟩,⟨qz19,kz19,cz19⟩,⟨qy19,ky19,cy19⟩,⟨qx19,kx19,cx19⟩⟩,hlf19,hC19,hN19,hx19,⟨hL19,hM19,hkp19⟩,rfl,hH⟩;refine ⟨_,rfl,fun a hF=>JL hF hH ?_⟩;replace pld0:=pld0.le hlf19;replace pld1:=pld1.le hlf19;replace pld2:=pld2.le hlf19;replace pld3:=pld3.le hlf19;replace hldf:=hldf.le hlf19;replace hldt:=hldt.le hlf19;replace hldi:=hldi.le hlf19;replace pc0:=pc0.le hlf19;replace pc1:=pc1.le hlf19;replace pcad:=pcad.le hlf19;replace pcaf:=pcaf.le hlf19;replace hcad:=hcad.le hlf19;replace hcaf:=hcaf.le hlf19;replace px0:=px0.le hlf19;replace px1:=px1.le hlf19;replace pxad:=pxad.le hlf19;replace pxaf:=pxaf.le hlf19;replace hxad:=hxad.le hlf19;replace hxaf:=hxaf.le hlf19;replace hCc:=hCc.le hlf19;replace hCx:=hCx.le hlf19;replace hC14:=hC14.le hlf19;obtain rfl:kl19=(monL xad (n)).length:=(hC19.ok _ hx19).one.len;have hpw19:Pows Hf19 ql19 (monL xad (n)):=(hC19.ok _ hx19).one.pw;have hpl19:SumH Hf19 (.map (some p19)) (plM (monL xad (n))):=(hC19.ok _ hx19).one.pl;obtain ⟨⟨e1,hz19⟩,⟨e2,hb19⟩,e3,hs19⟩:(kz19=(clS xad xaf (n)).length∧RowsR Hf19 qz19 (clS xad xaf (n)))∧(ky19=(bdS xad xaf (n)).length∧RowsR Hf19 qy19 (bdS xad xaf (n)))∧kx19=(csS xad xaf (n)).length∧RowsR Hf19 qx19 (csS xad xaf (n)):=hL19;subst e1 e2 e3;refine Jg (JG rfl) rfl (Jg (Ju u95 rfl sz57 rfl) rfl (Jg (PR.loadCx (b:=b19) (k:=5) (v:=.slice qx19 (csS xad xaf (n)).length cx19) rfl At.z hx19 rfl rfl pl57) rfl (Jg (Jm u57 rfl rfl) rfl (Jg (EG rfl rfl) rfl (Jg (Jc rfl) rfl (Ei (jd:=25) rfl (fun h25=>?_) (fun h25=>?_)))))))
 ·
  try have h25p:=of_decide_eq_true h25
  refine JX (Jc rfl) rfl rfl rfl h25 (ES fn86 rfl rfl h25 rfl rfl fun w hH=>hH.lend (.s .z) fun Hl1 hle1 hA1 hB1 hH=>(rankOf_c (W:=(csS xad xaf n).length) (own_rows hA1) hmo (by omega) (by omega) hH).mono ?_);rintro _ w ⟨rfl,hH⟩;replace hH:=hB1 _ _ hH;refine ⟨_,rfl,fun a hF=>JL hF hH ?_⟩;refine JX (Jc rfl) rfl rfl rfl h25 (JX (Jm u57 rfl rfl) rfl rfl rfl h25 (JX (EG rfl rfl) rfl rfl rfl h25 (Jg (JZ rfl h25 rfl) rfl (Jg (Jd rfl) rfl (Jf (Ja (hK3 (Js (Jq rfl (Res.tmp rfl) fun w hH=>?_)))))))));replace hH:=hH.sublist (.cons _ (.cons_cons _ (.cons_cons _ (.cons_cons _ (List.Sublist.refl _)))));exact ⟨_,_,_,_,_,(hlf14.trans hlf19),⟨hC14,hN14⟩,⟨hC19,hN19⟩,rb (ioB_2 (by omega)),(hH.front (.s (.s .z))).front (.s (.s .z))⟩
 ·
  try have h25p:=of_decide_eq_false h25
  refine JU rfl rfl rfl h25 (JU rfl rfl rfl h25 (JU rfl rfl rfl h25 (JU rfl rfl rfl h25 (JU rfl rfl rfl h25 (Jg (JW rfl h25 rfl) rfl (Jg (Jd rfl) rfl (Jf (Ja (hK3 (Js (Jq rfl (Res.tmp rfl) fun w hH=>?_)))))))))));replace hH:=hH.sublist (.cons_cons _ (.cons _ (.cons_cons _ (.cons_cons _ (List.Sublist.refl _)))));exact ⟨_,_,_,_,_,(hlf14.trans hlf19),⟨hC14,hN14⟩,⟨hC19,hN19⟩,rb (ioB_1 (by omega)),(hH.front (.s (.s .z))).front (.s (.s .z))⟩
theorem IsIsomorphicTo_c {B:World} {H0 H:HP} {L:List SA} {w:World} {qad qaf:Option Addr} {cad caf:Nat} {ad:List Int} {af:List (List Term)} {qbd qbf:Option Addr} {cbd cbf:Nat} {bd:List Int} {bf:List (List Term)} {qms:Option Addr} {cms:Nat} {ms:List (List Term)} {n:Int} (had:Ints H qad ad) (haf:Forms H qaf af) (hbd:Ints H qbd bd) (hbf:Forms H qbf bf) (hms:Forms H qms ms) (hn8:ad.length≤1048576) (hn9:af.length≤1048576) (hl9 : ∀i,i<af.length→(fm af i).length≤1048576) (hbn8:bd.length≤1048576) (hbn9:bf.length≤1048576) (hbl9 : ∀i,i<bf.length→(fm bf i).length≤1048576) (hmn9:ms.length≤1048576) (hml9 : ∀i,i<ms.length→(fm ms i).length≤1048576) (hH:Hp B H0 H L w):Calls Tryz.prog 48 [.agg [.slice qad ad.length cad,.slice qaf af.length caf].toArray,.agg [.slice qbd bd.length cbd,.slice qbf bf.length cbf].toArray,.slice qms ms.length cms,.int .i64 n].toArray w fun e w'=>e = .returned (.tuple #[.bool (isV ad af bd bf ms n),.int .i64 (isC ad af bd bf ms n)])∧Hp B H0 H L w':=by
 refine Jz Tryz.func48 rfl 58 rfl rfl [(0,.agg [.slice qad ad.length cad,.slice qaf af.length caf].toArray),(1,.agg [.slice qbd bd.length cbd,.slice qbf bf.length cbf].toArray),(2,.slice qms ms.length cms),(3,.int .i64 n)] rfl hH ?_;have hw0:=hH.old;have hw1:=hH.le;clear hH;refine Je fun _ hK1 _=>(Jb (Ee rfl rfl rfl fun g4=>(ER .z fun Hz4 hlez4 hcz4=>?_)));replace had:=had.le hlez4;replace haf:=haf.le hlez4;replace hbd:=hbd.le hlez4;replace hbf:=hbf.le hlez4;replace hms:=hms.le hlez4;have pad:CellAt Hz4 g4 0 (.slice qad ad.length cad):=hcz4 0 _ rfl;have paf:CellAt Hz4 g4 1 (.slice qaf af.length caf):=hcz4 1 _ rfl;refine Ee rfl rfl rfl fun g5=>(ER .z fun Hz5 hlez5 hcz5=>?_);replace had:=had.le hlez5;replace haf:=haf.le hlez5;replace hbd:=hbd.le hlez5;replace hbf:=hbf.le hlez5;replace hms:=hms.le hlez5;replace pad:=pad.le hlez5;replace paf:=paf.le hlez5;have pbd:CellAt Hz5 g5 0 (.slice qbd bd.length cbd):=hcz5 0 _ rfl;have pbf:CellAt Hz5 g5 1 (.slice qbf bf.length cbf):=hcz5 1 _ rfl;refine Jg (Jd rfl) rfl (Jg (Jd rfl) rfl (Jf (Ja (hK1 (Je fun _ hK2 _=>(Je fun _ hK3 _=>(Jb (Jg (Jc rfl) rfl (Jw fn97 rfl rfl fun w hH=>(mapCode_c pad paf had haf pbd pbf hbd hbf hms hn8 hn9 hl9 hbn8 hbn9 hbl9 hmn9 hml9 hH).mono ?_)))))))));rintro _ w ⟨rfl,hH⟩;refine ⟨_,rfl,fun a hF=>JL hF hH ?_⟩;refine Jg (Jc rfl) rfl (Jw fn87 rfl rfl fun w hH=>(isAsked_c hH).mono ?_);rintro _ w ⟨rfl,hH⟩;refine ⟨_,rfl,fun a hF=>JL hF hH ?_⟩;refine Jg (Em rfl) rfl (Jw fn81 rfl rfl fun w hH=>(when_c hH).mono ?_);rintro _ w ⟨rfl,hH⟩;refine ⟨_,rfl,fun a hF=>JL hF hH ?_⟩;refine J.litI2 u22 ze2 sz2 rfl rfl rfl fun g22=>(Jw fn79 rfl rfl fun w hH=>hH.lend .z fun Hl1 hle1 hA1 hB1 hH=>(first_c (own_ints hA1) (by simp) hH).mono ?_);rintro _ w ⟨rfl,hH⟩;replace hH:=hB1 _ _ hH;refine ⟨_,rfl,fun a hF=>JL hF hH ?_⟩;refine Jg (Jd rfl) rfl (Jf (Ja (hK3 (Je fun _ hK4 _=>(Jb (Jg (Jc rfl) rfl (Jg (El rfl rfl) rfl (Jf (Ja (hK4 (Jp rfl (fun h25=>?_) (fun h25=>?_))))))))))))
 ·
  rw [first_mm] at h25 ⊢;refine Je fun _ hK5 _=>(Jb (Jg (Jc rfl) rfl (Jg (Jd rfl) rfl (Jg (Jd rfl) rfl (Jf (Ja (hK5 (Js (Jk (Er rfl (Res.tmp rfl) (Res.tmp rfl) fun w hH=>?_))))))))));replace hH:=hH.tail;exact ⟨tup_bi (isV_n (by rw [isC_n h25];exact h25)).symm (isC_n h25).symm,hH.weaken (hlez4.trans hlez5) hw0 hw1⟩
 ·
  rw [first_mm] at h25;obtain ⟨hM,hak⟩:=mm1_y h25;have hn:=askB_y hak;have hwaf:=haf.wfss;have hwbf:=hbf.wfss;have hGa:=isMp_1 hM;have hGb:=isMp_2 hM;have hAa:=isAlg_ok hGa haf.wfss;have hAb:=isAlg_ok hGb hbf.wfss;have hda:=alg_112 hGa;have hdb:=alg_112 hGb;have h8a:=hAa.hn;have h8b:=hAb.hn;have hml:=isMp_l hM;refine Jo (Ja (hK2 (Je fun _ hK6 _=>(Jb (Jw fn83 rfl rfl fun w hH=>(newComplex_c pad paf had haf hH).mono ?_)))));rintro _ w ⟨Hf27,bn27,ln27,hlf27,pn270,pn271,rfl,hH⟩;refine ⟨_,rfl,fun a hF=>JL hF hH ?_⟩;replace had:=had.le hlf27;replace haf:=haf.le hlf27;replace hbd:=hbd.le hlf27;replace hbf:=hbf.le hlf27;replace hms:=hms.le hlf27;replace pad:=pad.le hlf27;replace paf:=paf.le hlf27;replace pbd:=pbd.le hlf27;replace pbf:=pbf.le hlf27;refine Jw fn83 rfl rfl fun w hH=>(newComplex_c pbd pbf hbd hbf hH).mono ?_;rintro _ w ⟨Hf28,bn28,ln28,hlf28,pn280,pn281,rfl,hH⟩;refine ⟨_,rfl,fun a hF=>JL hF hH ?_⟩;replace had:=had.le hlf28;replace haf:=haf.le hlf28;replace hbd:=hbd.le hlf28;replace hbf:=hbf.le hlf28;replace hms:=hms.le hlf28;replace pad:=pad.le hlf28;replace paf:=paf.le hlf28;replace pbd:=pbd.le hlf28;replace pbf:=pbf.le hlf28;replace pn270:=pn270.le hlf28;replace pn271:=pn271.le hlf28;refine Jg (Jd rfl) rfl (Jg (Jd rfl) rfl (Jf (Ja (hK6 (Je fun _ hK7 _=>(Je fun _ hK8 _=>(Jb (Jg (Jc rfl) rfl (Jg (Jc rfl) rfl (Jw fn84 rfl rfl fun w hH=>(upTo_c pn270 pn271 pad paf had haf hda h8a (by omega) hH).mono ?_))))))))));rintro _ w ⟨rfl,hH⟩;refine ⟨_,rfl,fun a hF=>JL hF hH ?_⟩;refine Jg (Jc rfl) rfl (Jg (Jc rfl) rfl (Jw fn84 rfl rfl fun w hH=>(upTo_c pn280 pn281 pbd pbf hbd hbf hdb h8b (by omega) hH).mono ?_));rintro _ w ⟨rfl,hH⟩;refine ⟨_,rfl,fun a hF=>JL hF hH ?_⟩;refine J.litI2 u22 ze2 sz2 rfl rfl rfl fun g35=>(Jw fn79 rfl rfl fun w hH=>hH.lend .z fun Hl1 hle1 hA1 hB1 hH=>(first_c (own_ints hA1) (by simp) hH).mono ?_);rintro _ w ⟨rfl,hH⟩;replace hH:=hB1 _ _ hH;refine ⟨_,rfl,fun a hF=>JL hF hH ?_⟩;refine Jg (Jd rfl) rfl (Jf (Ja (hK8 (Je fun _ hK9 _=>(Jb (Jg (Jc rfl) rfl (Jg (El rfl rfl) rfl (Jf (Ja (hK9 (Jp rfl (fun h38=>?_) (fun h38=>?_))))))))))))
  ·
   rw [up_is] at h38 ⊢;refine Je fun _ hK10 _=>(Jb (Jg (Jc rfl) rfl (Jg (Jd rfl) rfl (Jg (Jd rfl) rfl (Jf (Ja (hK10 (Js (Jk (Er rfl (Res.tmp rfl) (Res.tmp rfl) fun w hH=>?_))))))))));replace hH:=hH.tail;replace hH:=hH.tail;replace hH:=hH.tail;replace hH:=hH.tail;exact ⟨tup_bi (isV_n (by rw [isC_y h25];exact h38)).symm (isC_y h25).symm,hH.weaken (((hlez4.trans hlez5).trans hlf27).trans hlf28) hw0 hw1⟩
  ·
   refine CJ.reL (fun w hH=>(hH.front .z).tail) (CJ.reL (fun w hH=>(hH.front (.s (.s .z))).tail) ?_);rw [up_is] at h38;obtain ⟨hwa,hwb⟩:=is2_z (Decidable.not_not.1 h38);have hmf:Fok 20 ms:=fun i hi=>⟨isForm_sok (hms.wfss.fm i) (Bool.and_eq_true_iff.1 (mpsOk_at (isMp_ps hM) hi)).1,by have:=isForm_len4 (Bool.and_eq_true_iff.1 (mpsOk_at (isMp_ps hM) hi)).1;omega⟩;refine Jo (Ja (hK7 (Je fun _ hK11 _=>(Jb (Jg (Ju u35 rfl sz22 rfl) rfl (Jg (JB (q:=some ⟨g4,0,none⟩) (k:=0) rfl pad pl22) rfl (Jg (Ju u35 rfl sz22 rfl) rfl (Jg (JB (q:=some ⟨g5,0,none⟩) (k:=0) rfl pbd pl22) rfl (Jg (Jc rfl) rfl (Jw fn98 rfl rfl fun w hH=>(leaderOf_c had hbd hms hmf (by omega) hH).mono ?_))))))))));rintro _ w ⟨g45,q45,c45,bs45,kb45,rfl,hH⟩;refine ⟨_,rfl,fun a hF=>JL hF hH ?_⟩;refine Jg (Jd rfl) rfl (Jf (Ja (hK11 (Je fun _ hK12 _=>(Je fun _ hK13 _=>(Jb (ER .z fun H7 hle7 hc7=>(EA .z fun H8 hle8 hA8=>(EA .z fun H9 hle9 hA9=>(J.reH (fun w hH=>Hp.knw0 (f:=kF bd (ssF ms)) (vs:=nilVs) (hH.front .z)) ?_))))))))));have hle79:=hle8.trans hle9;have pl0:CellAt H9 g45 0 (.slice qad ad.length cad):=CellAt.le (hc7 0 _ rfl) hle79;have pl1:CellAt H9 g45 1 (.slice qbd bd.length cbd):=CellAt.le (hc7 1 _ rfl) hle79;have pl2:CellAt H9 g45 2 (.slice q45 ms.length c45):=CellAt.le (hc7 2 _ rfl) hle79;have pl3:CellAt H9 g45 3 (.map (some kb45)):=CellAt.le (hc7 3 _ rfl) hle79;have hli:ImR H9 q45 (ms.length) (ssF ms):=fun i hi=>⟨bs45 i,own_reads hA9 i _ (mapsC_get hi),(imgs_H hA8 hi).le hle9⟩;replace had:=had.le hle7;replace haf:=haf.le hle7;replace hbd:=hbd.le hle7;replace hbf:=hbf.le hle7;replace hms:=hms.le hle7;replace pad:=pad.le hle7;replace paf:=paf.le hle7;replace pbd:=pbd.le hle7;replace pbf:=pbf.le hle7;replace pn270:=pn270.le hle7;replace pn271:=pn271.le hle7;replace pn280:=pn280.le hle7;replace pn281:=pn281.le hle7;replace had:=had.le hle8;replace haf:=haf.le hle8;replace hbd:=hbd.le hle8;replace hbf:=hbf.le hle8;replace hms:=hms.le hle8;replace pad:=pad.le hle8;replace paf:=paf.le hle8;replace pbd:=pbd.le hle8;replace pbf:=pbf.le hle8;replace pn270:=pn270.le hle8;replace pn271:=pn271.le hle8;replace pn280:=pn280.le hle8;replace pn281:=pn281.le hle8;replace had:=had.le hle9;replace haf:=haf.le hle9;replace hbd:=hbd.le hle9;replace hbf:=hbf.le hle9;replace hms:=hms.le hle9;replace pad:=pad.le hle9;replace paf:=paf.le hle9;replace pbd:=pbd.le hle9;replace pbf:=pbf.le hle9;replace pn270:=pn270.le hle9;replace pn271:=pn271.le hle9;replace pn280:=pn280.le hle9;replace pn281:=pn281.le hle9;refine Jg (Jc rfl) rfl (Jg (JC rfl rfl (nw _ (by omega))) rfl (Jg (Jc rfl) rfl (Jf (Ja (hK13 (Jn (JE (σ:=HP × List (Int × Lv) × List (Int × Lv) × Nat × Vs × Nat) (fun ⟨Hk,lck,lxk,mk,vk,k⟩=>[(48,.int .i64 (k:Int))]) (fun ⟨Hk,lck,lxk,mk,vk,k⟩=>Hk) (fun ⟨Hk,lck,lxk,mk,vk,k⟩=>knw (kF bd (ssF ms)) kb45 mk vk::cpx ln28 lxk::cpx ln27 lck::L) (fun ⟨Hk,lck,lxk,mk,vk,k⟩=>Le H9 Hk∧(CpxOk Hk ad af (fun _=>False) lck∧Nxt (fun _=>False) lck)∧(CpxOk Hk bd bf (fun _=>False) lxk∧Nxt (fun _=>False) lxk)∧(k:Int)≤n+1∧∀j:Nat,j<k→isR ad af bd bf ms (j:Int)=true) (fun ⟨Hk,lck,lxk,mk,vk,k⟩=>(n+1 - (k:Int)).toNat) (_, [], [],0,nilVs,0) ⟨Le.refl _,⟨CpxOk.nil,Nxt.nil _⟩,⟨CpxOk.nil,Nxt.nil _⟩,by omega,fun j hj=>by omega⟩ ⟨rfl,trivial⟩ rfl rfl ?_)))))));rintro ⟨Hk,lck,lxk,mk,vk,k⟩ ⟨hlk,⟨hCk,hNk⟩,⟨hXk,hYk⟩,hk,hI⟩ _ hAg0;replace had:=had.le hlk;replace haf:=haf.le hlk;replace hbd:=hbd.le hlk;replace hbf:=hbf.le hlk;replace hms:=hms.le hlk;replace pad:=pad.le hlk;replace paf:=paf.le hlk;replace pbd:=pbd.le hlk;replace pbf:=pbf.le hlk;replace pn270:=pn270.le hlk;replace pn271:=pn271.le hlk;replace pn280:=pn280.le hlk;replace pn281:=pn281.le hlk;replace pl0:=pl0.le hlk;replace pl1:=pl1.le hlk;replace pl2:=pl2.le hlk;replace pl3:=pl3.le hlk;replace hli:=hli.le hlk;refine Je fun _ hK14 _=>(Jb (Jg (JR rfl rfl) rfl (Jf (Ja (hK14 (Je fun _ hK15 _=>(Jp rfl (fun h49=>?_) (fun h49=>?_))))))))
   ·
    have hfa:fit3 ad (k:Int):=wi_f3 hwa (by omega) (by omega);have hfb:fit3 bd (k:Int):=wi_f3 hwb (by omega) (by omega);refine Jo (Ja (hK15 (Je fun _ hK16 _=>(Jn (Je fun _ hK17 _=>(Jb (Jg (Jc rfl) rfl (Jg (Jd rfl) rfl (Jf (Ja (hK17 (Je fun _ hK18 _=>(Jb (Jg (Jc rfl) rfl (Jg (Jc rfl) rfl (Jg (Jc rfl) rfl ?_))))))))))))))));refine Jg (Jc rfl) rfl (Jw fn99 rfl rfl fun w hH=>(isIsomorphic_c pl0 pl1 pl2 pl3 had hbd hli pn270 pn271 pad paf had haf pn280 pn281 pbd pbf hbd hbf hGa hGb (by omega) hfa hfb hCk hNk hXk hYk hml.symm (by omega) (fun r hr=>by have h:=Ld.cls hM hwaf hms.wfss (show (k:Int)≤20 by omega) hr;rw [hml] at h;exact h) (fun r hr x hx=>im_mon hM hwaf hwbf hms.wfss (show (k:Int)≤20 by omega) hfb.1.1 hr x (by unfold imS;rw [hml];exact hx)) (by rw [mo_mm hml];exact mmS_ok hM hwaf hwbf hms.wfss (show (k:Int)≤20 by omega)) (((hH.front (.s .z)).front (.s (.s .z))).front (.s (.s .z)))).mono ?_);rintro _ w ⟨Hf55,lsa55,lsb55,mo55,vo55,hlf55,⟨hC55,hN55⟩,⟨hCb55,hNb55⟩,rfl,hH⟩;refine ⟨_,rfl,fun a hF=>JL hF hH ?_⟩;replace had:=had.le hlf55;replace haf:=haf.le hlf55;replace hbd:=hbd.le hlf55;replace hbf:=hbf.le hlf55;replace hms:=hms.le hlf55;replace pad:=pad.le hlf55;replace paf:=paf.le hlf55;replace pbd:=pbd.le hlf55;replace pbf:=pbf.le hlf55;replace pn270:=pn270.le hlf55;replace pn271:=pn271.le hlf55;replace pn280:=pn280.le hlf55;replace pn281:=pn281.le hlf55;replace pl0:=pl0.le hlf55;replace pl1:=pl1.le hlf55;replace pl2:=pl2.le hlf55;replace pl3:=pl3.le hlf55;replace hli:=hli.le hlf55;replace hCk:=hCk.le hlf55;replace hXk:=hXk.le hlf55;rw [mo_mm hml,ioB_is];refine Jg (Em rfl) rfl (Jf (Ja (hK18 (Eg rfl (fun h56=>?_) (fun h56=>?_)))))
    ·
     refine Je fun _ hK19 _=>(Jb (Jg (Jd rfl) rfl (Jg (Jd rfl) rfl (Jf (Ja (hK19 (Js (JT (Jk (Jk (JT (Jk (Er rfl (Res.tmp rfl) (Res.tmp rfl) fun w hH=>?_)))))))))))));replace hH:=hH.tail;replace hH:=hH.tail;replace hH:=hH.tail;have hc0:=(isC_y h25).trans (Decidable.not_not.1 h38);exact ⟨tup_bi (isV_b (k:=k) (by omega) (not_f h56)).symm hc0.symm,hH.weaken ((((((((hlez4.trans hlez5).trans hlf27).trans hlf28).trans hle7).trans hle8).trans hle9).trans hlk).trans hlf55) hw0 hw1⟩
    ·
     refine Jo (JF (Ja (hK16 (Jb (Jg (JC rfl rfl (by first | exact nw _ (by omega) | rfl)) rfl (Jg (Jc rfl) rfl (Jf (Ja (Jr .z (Jr (.s (.s .z)) (Jr (.s (.s .z)) ?_)))))))))));exact hAg0 (_,lsa55,lsb55,mo55,vo55,k+1) ⟨(hlk.trans hlf55),⟨hC55,hN55⟩,⟨hCb55,hNb55⟩,by omega,upto hI (not_t h56)⟩ (by show (n+1 - ((k+1:Nat):Int)).toNat<(n+1 - (k:Int)).toNat;omega) 12 rfl rfl ⟨rfl,trivial⟩ rfl rfl
   ·
    refine JH (Jl (Jl (JQ (Ja (hK12 (Je fun _ hK20 _=>(Jb (Jg (Jd rfl) rfl (Jg (Jd rfl) rfl (Jf (Ja (hK20 (Js (Er rfl (Res.tmp rfl) (Res.tmp rfl) fun w hH=>?_))))))))))))));replace hH:=hH.tail;replace hH:=hH.tail;replace hH:=hH.tail;have hc0:=(isC_y h25).trans (Decidable.not_not.1 h38);exact ⟨tup_bi (isV_y hc0 fun j hj=>hI j (by omega)).symm hc0.symm,hH.weaken (((((((hlez4.trans hlez5).trans hlf27).trans hlf28).trans hle7).trans hle8).trans hle9).trans hlk) hw0 hw1⟩
theorem u4:Tryz.prog.underlying 4=some (TypeDesc.bool):=by kernel_rfl
theorem ag25:Agg Tryz.prog 25 2:=⟨_,u25,rfl,by kernel_rfl⟩
theorem fn14:Fn Tryz.prog 14:=⟨_,Tryz.func14,by kernel_rfl,rfl⟩
theorem fn17:Fn Tryz.prog 17:=⟨_,Tryz.func17,by kernel_rfl,rfl⟩
theorem fn20:Fn Tryz.prog 20:=⟨_,Tryz.func20,by kernel_rfl,rfl⟩
theorem fn47:Fn Tryz.prog 47:=⟨_,Tryz.func47,by kernel_rfl,rfl⟩
theorem fn48:Fn Tryz.prog 48:=⟨_,Tryz.func48,by kernel_rfl,rfl⟩
theorem lawIsIsomorphicTo_c {B:World} {H0 H:HP} {L:List SA} {w:World} {qad qaf:Option Addr} {cad caf:Nat} {ad:List Int} {af:List (List Term)} {qbd qbf:Option Addr} {cbd cbf:Nat} {bd:List Int} {bf:List (List Term)} {qms:Option Addr} {cms:Nat} {ms:List (List Term)} {n:Int} (had:Ints H qad ad) (haf:Forms H qaf af) (hbd:Ints H qbd bd) (hbf:Forms H qbf bf) (hms:Forms H qms ms) (hn:ad.length≤9223372036854775807∧af.length≤9223372036854775807) (hl : ∀i,i<af.length→(fm af i).length≤9223372036854775807) (bn:bd.length≤9223372036854775807∧bf.length≤9223372036854775807) (bl : ∀i,i<bf.length→(fm bf i).length≤9223372036854775807) (mn:ms.length≤9223372036854775807) (ml : ∀i,i<ms.length→(fm ms i).length≤9223372036854775807) (hH:Hp B H0 H L w):Calls Tryz.prog 11 [.agg [.slice qad ad.length cad,.slice qaf af.length caf].toArray,.agg [.slice qbd bd.length cbd,.slice qbf bf.length cbf].toArray,.slice qms ms.length cms,.int .i64 n].toArray w fun e w'=>e = .returned (.bool true)∧Below B.heap.size B w':=by
 refine Jz Tryz.func11 rfl 80 rfl rfl [(0,.agg [.slice qad ad.length cad,.slice qaf af.length caf].toArray),(1,.agg [.slice qbd bd.length cbd,.slice qbf bf.length cbf].toArray),(2,.slice qms ms.length cms),(3,.int .i64 n)] rfl hH ?_;clear hH;refine Je fun _ hK1 _=>(Jb (Ee rfl rfl rfl fun g4=>(Ee rfl rfl rfl fun g5=>(Jg (Jd rfl) rfl (Jf (Ja (hK1 (Je fun _ hK2 _=>(Jb (Jg (Jd rfl) rfl (Jf (Ja (hK2 (Je fun _ hK3 _=>(Jb (Jg (Jx rfl (.s .z) (by simpa [*] using ag25)) rfl ?_))))))))))))))));refine Jg (Jc rfl) rfl (Jw fn14 rfl rfl fun w hH=>(szAlgebra_c had haf (by omega) hl hH).mono ?_);rintro _ w ⟨rfl,hH⟩;refine ⟨_,rfl,fun a hF=>JL hF hH ?_⟩;refine Jg (Jd rfl) rfl (Jf (Ja (hK3 (Je fun _ hK4 _=>(Je fun _ hK5 _=>(Jb (Jg (Jc rfl) rfl (Jg (JR rfl rfl) rfl (Jf (Ja (hK5 (Jp rfl (fun h11=>?_) (fun h11=>?_)))))))))))))
 ·
  refine Je fun _ hK6 _=>(Jb (Jg (Jd rfl) rfl (Jf (Ja (hK6 (Js (Jk (Jq rfl (Res.tmp rfl) fun w hH=>?_))))))));replace hH:=hH.tail;replace hH:=hH.tail
  first | exact ⟨rfl,hH.below⟩ | exact absurd rfl h11p | exact absurd rfl h11 | (exfalso;omega) | (simp at h11;done)
 ·
  have hsz:ad.length+af.length+tot af≤1048576:=by unfold szv at h11;split at h11 <;> omega
  have hl6 : ∀i,i<af.length→(fm af i).length≤1048576:=fun i hi=>by have:=tot_fm hi;omega
  refine Jo (Ja (hK4 (Je fun _ hK7 _=>(Jb (Jg (Jx rfl At.z (by simpa [*] using ag25)) rfl (Jg (Jc rfl) rfl (Jw fn14 rfl rfl fun w hH=>(szAlgebra_c hbd hbf (by unfold szv at h11 ⊢;split at h11 <;> split <;> omega) bl hH).mono ?_)))))));rintro _ w ⟨rfl,hH⟩;refine ⟨_,rfl,fun a hF=>JL hF hH ?_⟩;refine Jg (Jd rfl) rfl (Jf (Ja (hK7 (Je fun _ hK8 _=>(Je fun _ hK9 _=>(Jb (Jg (Jc rfl) rfl (Jg (JR rfl rfl) rfl (Jf (Ja (hK9 (Jp rfl (fun h21=>?_) (fun h21=>?_)))))))))))))
  ·
   refine Je fun _ hK10 _=>(Jb (Jg (Jd rfl) rfl (Jf (Ja (hK10 (Js (Jk (Jq rfl (Res.tmp rfl) fun w hH=>?_))))))));replace hH:=hH.tail;replace hH:=hH.tail
   first | exact ⟨rfl,hH.below⟩ | exact absurd rfl h21p | exact absurd rfl h21 | (exfalso;omega) | (simp at h21;done)
  ·
   have hszb:bd.length+bf.length+tot bf≤1048576:=by unfold szv at h21;split at h21 <;> (try split at h21) <;> omega
   have bl6 : ∀i,i<bf.length→(fm bf i).length≤1048576:=fun i hi=>by have:=tot_fm hi;omega
   refine Jo (Ja (hK8 (Je fun _ hK11 _=>(Jb (Jg (Jc rfl) rfl (Jg (Jc rfl) rfl (Jw fn42 rfl rfl fun w hH=>(szFormS_c hms (by unfold szv at h21 h11 ⊢;split at h21 <;> split <;> (try split at h21) <;> (try split) <;> omega) ml hH).mono ?_)))))));rintro _ w ⟨rfl,hH⟩;refine ⟨_,rfl,fun a hF=>JL hF hH ?_⟩;refine Jg (Jd rfl) rfl (Jf (Ja (hK11 (Je fun _ hK12 _=>(Je fun _ hK13 _=>(Jb (Jg (Jc rfl) rfl (Jg (JR rfl rfl) rfl (Jf (Ja (hK13 (Jp rfl (fun h31=>?_) (fun h31=>?_)))))))))))))
   ·
    refine Je fun _ hK14 _=>(Jb (Jg (Jd rfl) rfl (Jf (Ja (hK14 (Js (Jk (Jq rfl (Res.tmp rfl) fun w hH=>?_))))))));replace hH:=hH.tail;replace hH:=hH.tail
    first | exact ⟨rfl,hH.below⟩ | exact absurd rfl h31p | exact absurd rfl h31 | (exfalso;omega) | (simp at h31;done)
   ·
    have hszm:ms.length+tot ms≤1048576:=by unfold szv at h31;split at h31 <;> (try split at h31) <;> (try split at h31) <;> omega
    have ml6 : ∀i,i<ms.length→(fm ms i).length≤1048576:=fun i hi=>by have:=tot_fm hi;omega
    refine Jo (Ja (hK12 (Je fun _ hK15 _=>(Ej (Rs:=[_,_]) 13 [[], [0], [], [0,1,2], [], [0,1,2,3,4], [], [0,1,2,3,4,5,6], [0,1,2,3,4,5,6,7], [0,1,2,3,4,5,6,7,8], [0,1,2,3,4,5,6,7,8], [0,1,2,3,4,5,6,7,8,9], [0,1,2,3,4,5,6,7,8,9,10,11]] [[14], [], [13], [], [], [], [], [1,3,5], [], [], [], [], []] [[], [], [], [], [], [], [], [], [], [], [], [], []] rfl rfl (by kernel_rfl) ?_))));apply Jj 1 rfl
    iterate 3 focus (intros;(conv=>lhs;simp only [Jh,Jt,JN,Jv,JI,eq_self,reduceEqDiff,reduceIte,reduceSub,reduceAdd,JxA,JxB]);all_goals rfl)
    ·
     intro gh X K zq zc zq2 zc2 zb zv hK;refine Jg (Jx rfl At.z (by simpa [*] using ag25)) rfl (Ji ?_);exact hK zq zc zq2 zc2 zb zv
    ·
     intro gh gh' h
     rfl
    apply GJ.st2 2 rfl
    iterate 3 focus (intros;(conv=>lhs;simp only [Jh,Jt,JN,Jv,JI,eq_self,reduceEqDiff,reduceIte,reduceSub,reduceAdd,JxA,JxB]);all_goals rfl)
    ·
     intro gh X K zq zc zq2 zc2 zb zv hK;refine Jw fn17 rfl rfl fun w hH=>(toAlgebra_c had haf (by omega) hl6 hH).mono ?_;rintro _ w ⟨qdo34,cdo34,qfo34,cfo34,vso34,rfl,hH⟩;refine ⟨_,rfl,fun a hF=>JL hF hH ?_⟩;refine Ji ?_;exact hK qdo34 cdo34 qfo34 cfo34 zb vso34
    ·
     intro gh gh' h;refine ⟨?_,?_,?_⟩ <;> rfl
    apply Jj 3 rfl
    iterate 3 focus (intros;(conv=>lhs;simp only [Jh,Jt,JN,Jv,JI,eq_self,reduceEqDiff,reduceIte,reduceSub,reduceAdd,JxA,JxB]);all_goals rfl)
    ·
     intro gh X K zq zc zq2 zc2 zb zv hK;refine Jg (Jx rfl At.z (by simpa [*] using ag25)) rfl (Ji ?_);exact hK zq zc zq2 zc2 zb zv
    ·
     intro gh gh' h
     rfl
    apply GJ.st2 4 rfl
    iterate 3 focus (intros;(conv=>lhs;simp only [Jh,Jt,JN,Jv,JI,eq_self,reduceEqDiff,reduceIte,reduceSub,reduceAdd,JxA,JxB]);all_goals rfl)
    ·
     intro gh X K zq zc zq2 zc2 zb zv hK;refine Jw fn17 rfl rfl fun w hH=>(toAlgebra_c hbd hbf (by omega) bl6 hH).mono ?_;rintro _ w ⟨qdo36,cdo36,qfo36,cfo36,vso36,rfl,hH⟩;refine ⟨_,rfl,fun a hF=>JL hF hH ?_⟩;refine Ji ?_;exact hK qdo36 cdo36 qfo36 cfo36 zb vso36
    ·
     intro gh gh' h;refine ⟨?_,?_,?_⟩ <;> (first | simp only [h 1 rfl] | rfl)
    apply Jj 5 rfl
    iterate 3 focus (intros;(conv=>lhs;simp only [Jh,Jt,JN,Jv,JI,eq_self,reduceEqDiff,reduceIte,reduceSub,reduceAdd,JxA,JxB]);all_goals rfl)
    ·
     intro gh X K zq zc zq2 zc2 zb zv hK;refine Jg (Jc rfl) rfl (Ji ?_);exact hK zq zc zq2 zc2 zb zv
    ·
     intro gh gh' h
     rfl
    apply Ea 6 rfl
    iterate 3 focus (intros;(conv=>lhs;simp only [Jh,Jt,JN,Jv,JI,eq_self,reduceEqDiff,reduceIte,reduceSub,reduceAdd,JxA,JxB]);all_goals rfl)
    ·
     intro gh X K zq zc zq2 zc2 zb zv hK;refine Jw fn44 rfl rfl fun w hH=>(toFormS_c hms (by omega) ml6 hH).mono ?_;rintro _ w ⟨qo38,co38,vso38,rfl,hH⟩;refine ⟨_,rfl,fun a hF=>JL hF hH ?_⟩;refine Ji ?_;exact hK qo38 co38 zq2 zc2 zb vso38
    ·
     intro gh gh' h;refine ⟨?_,?_⟩ <;> (first | simp only [h 1 rfl,h 3 rfl] | rfl)
    apply Jj 7 rfl
    iterate 3 focus (intros;(conv=>lhs;simp only [Jh,Jt,JN,Jv,JI,eq_self,reduceEqDiff,reduceIte,reduceSub,reduceAdd,JxA,JxB]);all_goals rfl)
    ·
     intro gh X K zq zc zq2 zc2 zb zv hK;refine Jg (Jc rfl) rfl (Ji ?_);exact hK zq zc zq2 zc2 zb zv
    ·
     intro gh gh' h
     rfl
    apply Jj 8 rfl
    iterate 3 focus (intros;(conv=>lhs;simp only [Jh,Jt,JN,Jv,JI,eq_self,reduceEqDiff,reduceIte,reduceSub,reduceAdd,JxA,JxB]);all_goals rfl)
    ·
     intro gh X K zq zc zq2 zc2 zb zv hK;refine Jw fn47 rfl rfl fun w hH=>hH.lend .z fun Hl1 hle1 hA1 hB1 hH=>hH.lend .z fun Hl2 hle2 hA2 hB2 hH=>hH.lend .z fun Hl3 hle3 hA3 hB3 hH=>hH.lend .z fun Hl4 hle4 hA4 hB4 hH=>hH.lend .z fun Hl5 hle5 hA5 hB5 hH=>(sIsIsomorphicTo_c (((((own_ints hA1).le hle2).le hle3).le hle4).le hle5) ((((own_forms haf.wfss hA2).le hle3).le hle4).le hle5) (((own_ints hA3).le hle4).le hle5) ((own_forms hbf.wfss hA4).le hle5) (own_forms hms.wfss hA5) (by omega) (by omega) hl6 (by omega) (by omega) bl6 (by omega) ml6 hH).mono ?_;rintro _ w ⟨rfl,hH⟩;replace hH:=hB5 _ _ hH;replace hH:=hB4 _ _ hH;replace hH:=hB3 _ _ hH;replace hH:=hB2 _ _ hH;replace hH:=hB1 _ _ hH;refine ⟨_,rfl,fun a hF=>JL hF hH ?_⟩;refine Ji ?_;exact hK zq zc zq2 zc2 zb zv
    ·
     intro gh gh' h
     first | simp only [h 1 rfl,h 3 rfl,h 5 rfl] | rfl
    apply Jj 9 rfl
    iterate 3 focus (intros;(conv=>lhs;simp only [Jh,Jt,JN,Jv,JI,eq_self,reduceEqDiff,reduceIte,reduceSub,reduceAdd,JxA,JxB]);all_goals rfl)
    ·
     intro gh X K zq zc zq2 zc2 zb zv hK;refine Jg (Jc rfl) rfl (Ji ?_);exact hK zq zc zq2 zc2 zb zv
    ·
     intro gh gh' h
     first | simp only [h 1 rfl,h 3 rfl,h 5 rfl] | rfl
    apply Jj 10 rfl
    iterate 3 focus (intros;(conv=>lhs;simp only [Jh,Jt,JN,Jv,JI,eq_self,reduceEqDiff,reduceIte,reduceSub,reduceAdd,JxA,JxB]);all_goals rfl)
    ·
     intro gh X K zq zc zq2 zc2 zb zv hK;refine Jg (JM rfl rfl) rfl (Ji ?_);exact hK zq zc zq2 zc2 zb zv
    ·
     intro gh gh' h
     first | simp only [h 1 rfl,h 3 rfl,h 5 rfl] | rfl
    apply Jj 11 rfl
    iterate 3 focus (intros;(conv=>lhs;simp only [Jh,Jt,JN,Jv,JI,eq_self,reduceEqDiff,reduceIte,reduceSub,reduceAdd,JxA,JxB]);all_goals rfl)
    ·
     intro gh X K zq zc zq2 zc2 zb zv hK;refine Jg (JM rfl rfl) rfl (Ji ?_);exact hK zq zc zq2 zc2 zb zv
    ·
     intro gh gh' h
     first | simp only [h 1 rfl,h 3 rfl,h 5 rfl] | rfl
    apply Jj 12 rfl
    iterate 3 focus (intros;(conv=>lhs;simp only [Jh,Jt,JN,Jv,JI,eq_self,reduceEqDiff,reduceIte,reduceSub,reduceAdd,JxA,JxB]);all_goals rfl)
    ·
     intro gh X K zq zc zq2 zc2 zb zv hK;refine Jg (Jd rfl) rfl (Ji ?_);exact hK zq zc zq2 zc2 zb zv
    ·
     intro gh gh' h
     first | simp only [h 1 rfl,h 3 rfl,h 5 rfl] | rfl
    apply Jj 13 rfl
    iterate 3 focus (intros;(conv=>lhs;simp only [Jh,Jt,JN,Jv,JI,eq_self,reduceEqDiff,reduceIte,reduceSub,reduceAdd,JxA,JxB]);all_goals rfl)
    ·
     intro gh X K zq zc zq2 zc2 zb zv hK;refine Jg (Jd rfl) rfl (Ji ?_);exact hK zq zc zq2 zc2 zb zv
    ·
     intro gh gh' h
     first | simp only [h 1 rfl,h 3 rfl,h 5 rfl] | rfl
    apply Ek [0,1,2,3,4,5,6,7,8,9,10,11,12] [0,1,2,3,4,5,6,7,8,9,10,11,12,13,14] foll0 rfl rfl rfl (by rfl)
    iterate 2 focus (intros;(conv=>lhs;simp only [Jh,Jt,JN,Jv,JI,eq_self,reduceEqDiff,reduceIte,reduceSub,reduceAdd,JxA,JxB]);all_goals rfl)
    intro gh;generalize (gh 1).c=cdo34;generalize (gh 1).c2=cfo34;generalize (gh 1).q=qdo34;generalize (gh 1).q2=qfo34;generalize (gh 1).vs=vso34;generalize (gh 3).c=cdo36;generalize (gh 3).c2=cfo36;generalize (gh 3).q=qdo36;generalize (gh 3).q2=qfo36;generalize (gh 3).vs=vso36;generalize (gh 5).c=co38;generalize (gh 5).q=qo38;generalize (gh 5).vs=vso38;clear gh;refine Ja (hK15 (Je fun _ hK16 _=>(Jb (Jg (Jx rfl (.s (.s (.s (.s (.s (.s .z)))))) (by simpa [*] using ag25)) rfl (Jw fn17 rfl rfl fun w hH=>(toAlgebra_c had haf (by omega) hl6 hH).mono ?_)))));rintro _ w ⟨qdo44,cdo44,qfo44,cfo44,vso44,rfl,hH⟩;refine ⟨_,rfl,fun a hF=>JL hF hH ?_⟩;refine JV ze35 rfl fun g12=>(JJ rfl rfl (by first | exact bytesC_one _ | exact intsC_one _ | exact Term.c_one _ | simp [Value.oneCell']) (by simpa [*] using sz35) (by simp [*]) At.z (Jf (Ja (hK16 (Je fun _ hK17 _=>(Jb (Jg (Jx rfl (.s (.s (.s (.s (.s (.s (.s (.s .z)))))))) (by simpa [*] using ag25)) rfl (Jw fn17 rfl rfl fun w hH=>(toAlgebra_c hbd hbf (by omega) bl6 hH).mono ?_))))))));rintro _ w ⟨qdo46,cdo46,qfo46,cfo46,vso46,rfl,hH⟩;refine ⟨_,rfl,fun a hF=>JL hF hH ?_⟩;refine JV ze35 rfl fun g13=>(JJ rfl rfl (by first | exact bytesC_one _ | exact intsC_one _ | exact Term.c_one _ | simp [Value.oneCell']) (by simpa [*] using sz35) (by simp [*]) At.z (Jf (Ja (hK17 (Je fun _ hK18 _=>(Jb (Jg (Jc rfl) rfl (Jw fn44 rfl rfl fun w hH=>(toFormS_c hms (by omega) ml6 hH).mono ?_))))))));rintro _ w ⟨qo48,co48,vso48,rfl,hH⟩;refine ⟨_,rfl,fun a hF=>JL hF hH ?_⟩;refine Jg (Jd rfl) rfl (Jf (Ja (hK18 (Je fun _ hK19 _=>(Jb (Jg (Jx rfl (.s (.s (.s (.s .z)))) (by simpa [*] using ag35)) rfl (Jg (Jx rfl (.s .z) (by simpa [*] using ag35)) rfl (Jg (Jc rfl) rfl (Jg (Jc rfl) rfl (Jw fn48 rfl rfl fun w hH=>hH.lend (.s (.s (.s (.s (.s .z))))) fun Hl1 hle1 hA1 hB1 hH=>hH.lend (.s (.s (.s (.s (.s .z))))) fun Hl2 hle2 hA2 hB2 hH=>hH.lend (.s (.s .z)) fun Hl3 hle3 hA3 hB3 hH=>hH.lend (.s (.s .z)) fun Hl4 hle4 hA4 hB4 hH=>hH.lend .z fun Hl5 hle5 hA5 hB5 hH=>(IsIsomorphicTo_c (((((own_ints hA1).le hle2).le hle3).le hle4).le hle5) ((((own_forms haf.wfss hA2).le hle3).le hle4).le hle5) (((own_ints hA3).le hle4).le hle5) ((own_forms hbf.wfss hA4).le hle5) (own_forms hms.wfss hA5) (by omega) (by omega) hl6 (by omega) (by omega) bl6 (by omega) ml6 hH).mono ?_))))))))));rintro _ w ⟨rfl,hH⟩;replace hH:=hB5 _ _ hH;replace hH:=hB4 _ _ hH;replace hH:=hB3 _ _ hH;replace hH:=hB2 _ _ hH;replace hH:=hB1 _ _ hH;refine ⟨_,rfl,fun a hF=>JL hF hH ?_⟩;refine Jg (Jc rfl) rfl (Jg (JM rfl rfl) rfl (Jg (JM rfl rfl) rfl (Jg (Jd rfl) rfl (Jg (Jd rfl) rfl (Jf (Ja (hK19 (Je fun _ hK20 _=>(Je fun _ hK21 _=>(Jb (Jg (Jc rfl) rfl (Jg (Jc rfl) rfl (Jg (PR.neqB u4 rfl rfl) rfl (Jg (Jc rfl) rfl (Ei (jd:=60) rfl (fun hg60=>?_) (fun hg60=>?_))))))))))))))))
    ·
     try have hg60p:=of_decide_eq_true hg60
     refine JU rfl rfl rfl hg60 (JU rfl rfl rfl hg60 (JU rfl rfl rfl hg60 (Jg (JZ rfl hg60 rfl) rfl (Jf (Ja (hK21 (Ey rfl (Je fun _ hK22 _=>(Jb (Jg (Jd rfl) rfl (Jf (Ja (hK22 (Js (Jk (Jq rfl (Res.tmp rfl) fun w hH=>?_))))))))))))))));replace hH:=hH.tail;replace hH:=hH.tail;replace hH:=hH.tail;replace hH:=hH.tail;replace hH:=hH.tail;replace hH:=hH.tail;replace hH:=hH.tail;replace hH:=hH.tail;replace hH:=hH.tail;replace hH:=hH.tail;replace hH:=hH.tail;replace hH:=hH.tail;replace hH:=hH.tail;replace hH:=hH.tail
     first | exact ⟨rfl,hH.below⟩ | exact absurd rfl hg60p | exact absurd rfl hg60 | (exfalso;omega) | (simp at hg60;done)
    ·
     try have hg60p:=of_decide_eq_false hg60
     refine JX (Jc rfl) rfl rfl rfl hg60 (JX (Jc rfl) rfl rfl rfl hg60 (JX (El rfl rfl) rfl rfl rfl hg60 (Jg (JW rfl hg60 rfl) rfl (Jf (Ja (hK21 (Jp rfl (fun hc64=>?_) (fun hc64=>?_))))))))
     ·
      refine Je fun _ hK23 _=>(Jb (Jg (Jd rfl) rfl (Jf (Ja (hK23 (Js (Jk (Jq rfl (Res.tmp rfl) fun w hH=>?_))))))));replace hH:=hH.tail;replace hH:=hH.tail;replace hH:=hH.tail;replace hH:=hH.tail;replace hH:=hH.tail;replace hH:=hH.tail;replace hH:=hH.tail;replace hH:=hH.tail;replace hH:=hH.tail;replace hH:=hH.tail;replace hH:=hH.tail;replace hH:=hH.tail;replace hH:=hH.tail;replace hH:=hH.tail
      first | exact ⟨rfl,hH.below⟩ | exact absurd rfl hc64p | exact absurd rfl hc64 | (exfalso;omega) | (simp at hc64;done)
     ·
      refine Jo (Ja (hK20 (Je fun _ hK24 _=>(Je fun _ hK25 _=>(Ej (Rs:=[_,_,_,_,_,_,_,_,_,_,_,_,_,_]) 5 [[], [], [1], [0,1,2], [0,1,2,3]] [[11], [18], [], [2,5,6], []] [[], [], [], [], []] rfl rfl (by kernel_rfl) ?_)))));apply Jj 1 rfl
      iterate 3 focus (intros;(conv=>lhs;simp only [Jh,Jt,JN,Jv,JI,eq_self,reduceEqDiff,reduceIte,reduceSub,reduceAdd,JxA,JxB]);all_goals rfl)
      ·
       intro gh X K zq zc zq2 zc2 zb zv hK;refine Jg (Jx rfl At.z (by simpa [*] using ag35)) rfl (Ji ?_);exact hK zq zc zq2 zc2 zb zv
      ·
       intro gh gh' h
       rfl
      apply Jj 2 rfl
      iterate 3 focus (intros;(conv=>lhs;simp only [Jh,Jt,JN,Jv,JI,eq_self,reduceEqDiff,reduceIte,reduceSub,reduceAdd,JxA,JxB]);all_goals rfl)
      ·
       intro gh X K zq zc zq2 zc2 zb zv hK;refine Jg (Jx rfl At.z (by simpa [*] using ag25)) rfl (Ji ?_);exact hK zq zc zq2 zc2 zb zv
      ·
       intro gh gh' h
       rfl
      apply GJ.st2 3 rfl
      iterate 3 focus (intros;(conv=>lhs;simp only [Jh,Jt,JN,Jv,JI,eq_self,reduceEqDiff,reduceIte,reduceSub,reduceAdd,JxA,JxB]);all_goals rfl)
      ·
       intro gh X K zq zc zq2 zc2 zb zv hK;refine Jw fn17 rfl rfl fun w hH=>(toAlgebra_c had haf (by omega) hl6 hH).mono ?_;rintro _ w ⟨qdo67,cdo67,qfo67,cfo67,vso67,rfl,hH⟩;refine ⟨_,rfl,fun a hF=>JL hF hH ?_⟩;refine Ji ?_;exact hK qdo67 cdo67 qfo67 cfo67 zb vso67
      ·
       intro gh gh' h;refine ⟨?_,?_,?_⟩ <;> rfl
      apply Jj 4 rfl
      iterate 3 focus (intros;(conv=>lhs;simp only [Jh,Jt,JN,Jv,JI,eq_self,reduceEqDiff,reduceIte,reduceSub,reduceAdd,JxA,JxB]);all_goals rfl)
      ·
       intro gh X K zq zc zq2 zc2 zb zv hK;refine Jw fn20 rfl rfl fun w hH=>hH.lend (.s (.s .z)) fun Hl1 hle1 hA1 hB1 hH=>hH.lend (.s (.s .z)) fun Hl2 hle2 hA2 hB2 hH=>hH.lend .z fun Hl3 hle3 hA3 hB3 hH=>hH.lend .z fun Hl4 hle4 hA4 hB4 hH=>(eqAlgebra_c ((((own_ints hA1).le hle2).le hle3).le hle4) (((own_forms haf.wfss hA2).le hle3).le hle4) ((own_ints hA3).le hle4) (own_forms haf.wfss hA4) (by omega) (by omega) hl hH).mono ?_;rintro _ w ⟨rfl,hH⟩;replace hH:=hB4 _ _ hH;replace hH:=hB3 _ _ hH;replace hH:=hB2 _ _ hH;replace hH:=hB1 _ _ hH;refine ⟨_,rfl,fun a hF=>JL hF hH ?_⟩;refine Jr (.s .z) (Jr (.s .z) (Jr (.s (.s (.s .z))) (Jr (.s (.s (.s .z))) (Ji ?_))));exact hK zq zc zq2 zc2 zb zv
      ·
       intro gh gh' h
       first | simp only [h 2 rfl] | rfl
      apply Jj 5 rfl
      iterate 3 focus (intros;(conv=>lhs;simp only [Jh,Jt,JN,Jv,JI,eq_self,reduceEqDiff,reduceIte,reduceSub,reduceAdd,JxA,JxB]);all_goals rfl)
      ·
       intro gh X K zq zc zq2 zc2 zb zv hK;refine Jg (Em rfl) rfl (Ji ?_);exact hK zq zc zq2 zc2 zb zv
      ·
       intro gh gh' h
       first | simp only [h 2 rfl] | rfl
      apply Ek [0,1,2,3,4] [0,1,2,3,4,5,6,7,8,9,10,11,12,13,14,15,16,17,18] foll0 rfl rfl rfl (by rfl)
      iterate 2 focus (intros;(conv=>lhs;simp only [Jh,Jt,JN,Jv,JI,eq_self,reduceEqDiff,reduceIte,reduceSub,reduceAdd,JxA,JxB]);all_goals rfl)
      intro gh;generalize (gh 2).c=cdo67;generalize (gh 2).c2=cfo67;generalize (gh 2).q=qdo67;generalize (gh 2).q2=qfo67;generalize (gh 2).vs=vso67;clear gh;refine Ja (hK25 (Eg rfl (fun hc69=>?_) (fun hc69=>?_)))
      ·
       refine Je fun _ hK26 _=>(Jb (Jg (Jd rfl) rfl (Jf (Ja (hK26 (Js (Jk (Jq rfl (Res.tmp rfl) fun w hH=>?_))))))));replace hH:=hH.tail;replace hH:=hH.tail;replace hH:=hH.tail;replace hH:=hH.tail;replace hH:=hH.tail;replace hH:=hH.tail;replace hH:=hH.tail;replace hH:=hH.tail;replace hH:=hH.tail;replace hH:=hH.tail;replace hH:=hH.tail;replace hH:=hH.tail;replace hH:=hH.tail;replace hH:=hH.tail;replace hH:=hH.tail;replace hH:=hH.tail
       first | exact ⟨rfl,hH.below⟩ | exact absurd rfl hc69p | exact absurd rfl hc69 | (exfalso;omega) | (simp at hc69;done)
      ·
       refine Jo (Ja (hK24 (Je fun _ hK27 _=>(Je fun _ hK28 _=>(Ej (Rs:=[_,_,_,_,_,_,_,_,_,_,_,_,_,_,_,_]) 5 [[], [], [1], [0,1,2], [0,1,2,3]] [[12], [19], [], [2,9,10], []] [[], [], [], [], []] rfl rfl (by kernel_rfl) ?_)))));apply Jj 1 rfl
       iterate 3 focus (intros;(conv=>lhs;simp only [Jh,Jt,JN,Jv,JI,eq_self,reduceEqDiff,reduceIte,reduceSub,reduceAdd,JxA,JxB]);all_goals rfl)
       ·
        intro gh X K zq zc zq2 zc2 zb zv hK;refine Jg (Jx rfl At.z (by simpa [*] using ag35)) rfl (Ji ?_);exact hK zq zc zq2 zc2 zb zv
       ·
        intro gh gh' h
        rfl
       apply Jj 2 rfl
       iterate 3 focus (intros;(conv=>lhs;simp only [Jh,Jt,JN,Jv,JI,eq_self,reduceEqDiff,reduceIte,reduceSub,reduceAdd,JxA,JxB]);all_goals rfl)
       ·
        intro gh X K zq zc zq2 zc2 zb zv hK;refine Jg (Jx rfl At.z (by simpa [*] using ag25)) rfl (Ji ?_);exact hK zq zc zq2 zc2 zb zv
       ·
        intro gh gh' h
        rfl
       apply GJ.st2 3 rfl
       iterate 3 focus (intros;(conv=>lhs;simp only [Jh,Jt,JN,Jv,JI,eq_self,reduceEqDiff,reduceIte,reduceSub,reduceAdd,JxA,JxB]);all_goals rfl)
       ·
        intro gh X K zq zc zq2 zc2 zb zv hK;refine Jw fn17 rfl rfl fun w hH=>(toAlgebra_c hbd hbf (by omega) bl6 hH).mono ?_;rintro _ w ⟨qdo72,cdo72,qfo72,cfo72,vso72,rfl,hH⟩;refine ⟨_,rfl,fun a hF=>JL hF hH ?_⟩;refine Ji ?_;exact hK qdo72 cdo72 qfo72 cfo72 zb vso72
       ·
        intro gh gh' h;refine ⟨?_,?_,?_⟩ <;> rfl
       apply Jj 4 rfl
       iterate 3 focus (intros;(conv=>lhs;simp only [Jh,Jt,JN,Jv,JI,eq_self,reduceEqDiff,reduceIte,reduceSub,reduceAdd,JxA,JxB]);all_goals rfl)
       ·
        intro gh X K zq zc zq2 zc2 zb zv hK;refine Jw fn20 rfl rfl fun w hH=>hH.lend (.s (.s .z)) fun Hl1 hle1 hA1 hB1 hH=>hH.lend (.s (.s .z)) fun Hl2 hle2 hA2 hB2 hH=>hH.lend .z fun Hl3 hle3 hA3 hB3 hH=>hH.lend .z fun Hl4 hle4 hA4 hB4 hH=>(eqAlgebra_c ((((own_ints hA1).le hle2).le hle3).le hle4) (((own_forms hbf.wfss hA2).le hle3).le hle4) ((own_ints hA3).le hle4) (own_forms hbf.wfss hA4) (by omega) (by omega) bl hH).mono ?_;rintro _ w ⟨rfl,hH⟩;replace hH:=hB4 _ _ hH;replace hH:=hB3 _ _ hH;replace hH:=hB2 _ _ hH;replace hH:=hB1 _ _ hH;refine ⟨_,rfl,fun a hF=>JL hF hH ?_⟩;refine Jr (.s .z) (Jr (.s .z) (Jr (.s (.s (.s .z))) (Jr (.s (.s (.s .z))) (Ji ?_))));exact hK zq zc zq2 zc2 zb zv
       ·
        intro gh gh' h
        first | simp only [h 2 rfl] | rfl
       apply Jj 5 rfl
       iterate 3 focus (intros;(conv=>lhs;simp only [Jh,Jt,JN,Jv,JI,eq_self,reduceEqDiff,reduceIte,reduceSub,reduceAdd,JxA,JxB]);all_goals rfl)
       ·
        intro gh X K zq zc zq2 zc2 zb zv hK;refine Jg (Em rfl) rfl (Ji ?_);exact hK zq zc zq2 zc2 zb zv
       ·
        intro gh gh' h
        first | simp only [h 2 rfl] | rfl
       apply Ek [0,1,2,3,4] [0,1,2,3,4,5,6,7,8,9,10,11,12,13,14,15,16,17,18,19,20] foll0 rfl rfl rfl (by rfl)
       iterate 2 focus (intros;(conv=>lhs;simp only [Jh,Jt,JN,Jv,JI,eq_self,reduceEqDiff,reduceIte,reduceSub,reduceAdd,JxA,JxB]);all_goals rfl)
       intro gh;generalize (gh 2).c=cdo72;generalize (gh 2).c2=cfo72;generalize (gh 2).q=qdo72;generalize (gh 2).q2=qfo72;generalize (gh 2).vs=vso72;clear gh;refine Ja (hK28 (Eg rfl (fun hc74=>?_) (fun hc74=>?_)))
       ·
        refine Je fun _ hK29 _=>(Jb (Jg (Jd rfl) rfl (Jf (Ja (hK29 (Js (Jk (Jq rfl (Res.tmp rfl) fun w hH=>?_))))))));replace hH:=hH.tail;replace hH:=hH.tail;replace hH:=hH.tail;replace hH:=hH.tail;replace hH:=hH.tail;replace hH:=hH.tail;replace hH:=hH.tail;replace hH:=hH.tail;replace hH:=hH.tail;replace hH:=hH.tail;replace hH:=hH.tail;replace hH:=hH.tail;replace hH:=hH.tail;replace hH:=hH.tail;replace hH:=hH.tail;replace hH:=hH.tail;replace hH:=hH.tail;replace hH:=hH.tail
        first | exact ⟨rfl,hH.below⟩ | exact absurd rfl hc74p | exact absurd rfl hc74 | (exfalso;omega) | (simp at hc74;done)
       ·
        refine Jo (Ja (hK27 (Je fun _ hK30 _=>(Je fun _ hK31 _=>(Jb (Jg (Jc rfl) rfl (Jg (Jc rfl) rfl (Jw fn44 rfl rfl fun w hH=>(toFormS_c hms (by omega) ml6 hH).mono ?_))))))));rintro _ w ⟨qo77,co77,vso77,rfl,hH⟩;refine ⟨_,rfl,fun a hF=>JL hF hH ?_⟩;refine Jw fn46 rfl rfl fun w hH=>hH.lend (.s (.s (.s (.s (.s (.s (.s (.s (.s .z))))))))) fun Hl1 hle1 hA1 hB1 hH=>hH.lend .z fun Hl2 hle2 hA2 hB2 hH=>(eqFormS_c ((own_forms hms.wfss hA1).le hle2) (own_forms hms.wfss hA2) (by omega) ml hH).mono ?_;rintro _ w ⟨rfl,hH⟩;replace hH:=hB2 _ _ hH;replace hH:=hB1 _ _ hH;refine ⟨_,rfl,fun a hF=>JL hF hH ?_⟩;refine Jg (Em rfl) rfl (Jf (Ja (hK31 (Eg rfl (fun hc79=>?_) (fun hc79=>?_)))))
        ·
         refine Je fun _ hK32 _=>(Jb (Jg (Jd rfl) rfl (Jf (Ja (hK32 (Js (Jk (Jq rfl (Res.tmp rfl) fun w hH=>?_))))))));replace hH:=hH.tail;replace hH:=hH.tail;replace hH:=hH.tail;replace hH:=hH.tail;replace hH:=hH.tail;replace hH:=hH.tail;replace hH:=hH.tail;replace hH:=hH.tail;replace hH:=hH.tail;replace hH:=hH.tail;replace hH:=hH.tail;replace hH:=hH.tail;replace hH:=hH.tail;replace hH:=hH.tail;replace hH:=hH.tail;replace hH:=hH.tail;replace hH:=hH.tail;replace hH:=hH.tail;replace hH:=hH.tail
         first | exact ⟨rfl,hH.below⟩ | exact absurd rfl hc79p | exact absurd rfl hc79 | (exfalso;omega) | (simp at hc79;done)
        ·
         refine Jo (Ja (hK30 (Je fun _ hK33 _=>(Jb (Jg (Jd rfl) rfl (Jf (Ja (hK33 (Js (Jq rfl (Res.tmp rfl) fun w hH=>?_))))))))));replace hH:=hH.tail;replace hH:=hH.tail;replace hH:=hH.tail;replace hH:=hH.tail;replace hH:=hH.tail;replace hH:=hH.tail;replace hH:=hH.tail;replace hH:=hH.tail;replace hH:=hH.tail;replace hH:=hH.tail;replace hH:=hH.tail;replace hH:=hH.tail;replace hH:=hH.tail;replace hH:=hH.tail;replace hH:=hH.tail;replace hH:=hH.tail;replace hH:=hH.tail;replace hH:=hH.tail;replace hH:=hH.tail
         first | exact ⟨rfl,hH.below⟩ | exact absurd rfl hc79p | exact absurd rfl hc79 | (exfalso;omega) | (simp at hc79;done)
end Go.Proofs.YthenedanhcnccaaGreat.G
namespace Go.Proofs.YthenedanhcnccaaGreat.fnExactIsIsomorphicTo
open Go.ChangeShapes Go.WideShapes Go.ChangeAt Go.RowKit
open Go.Proofs.YthenedanhcnccaaGreat.G
theorem u25:Tryz.prog.underlying 25=some (TypeDesc.struct #[{name:="Degrees",type:=22,offset:=0,embedded:=false,tag:="",pkgPath:="",byteOffset:=0},{name:="Images",type:=23,offset:=1,embedded:=false,tag:="",pkgPath:="",byteOffset:=24}]):=by kernel_rfl
theorem u22:Tryz.prog.underlying 22=some (TypeDesc.slice 2):=by kernel_rfl
theorem u2:Tryz.prog.underlying 2=some (TypeDesc.int .i64):=by kernel_rfl
theorem u23:Tryz.prog.underlying 23=some (TypeDesc.slice 28):=by kernel_rfl
theorem u28:Tryz.prog.underlying 28=some (TypeDesc.struct #[{name:="Terms",type:=26,offset:=0,embedded:=false,tag:="",pkgPath:="",byteOffset:=0}]):=by kernel_rfl
theorem u26:Tryz.prog.underlying 26=some (TypeDesc.slice 155):=by kernel_rfl
theorem u155:Tryz.prog.underlying 155=some (TypeDesc.struct #[{name:="Monomial",type:=149,offset:=0,embedded:=false,tag:="",pkgPath:="",byteOffset:=0},{name:="Factor",type:=2,offset:=8,embedded:=false,tag:="",pkgPath:="",byteOffset:=8}]):=by kernel_rfl
theorem u149:Tryz.prog.underlying 149=some (TypeDesc.array 8 5):=by kernel_rfl
theorem u5:Tryz.prog.underlying 5=some (TypeDesc.int .u8):=by kernel_rfl
theorem u4:Tryz.prog.underlying 4=some (TypeDesc.bool):=by kernel_rfl
theorem own:ownKnob Tryz.prog.godebug=none:=by kernel_rfl
theorem lifted (os:Os) (started:os.Started) (H:Type) (enc:TypeId × Value→H):ReturnsInHanded {} Tryz.checked os 11 .any (Rows.fnExactIsIsomorphicToSpec.pre6 enc Tryz.prog Tryz.f11 Rows.fnExactIsIsomorphicToRow.domain false) (Rows.fnExactIsIsomorphicToSpec.post enc Tryz.prog Tryz.f11 false true false false):=by
 refine returnsInHanded_of_change_sized (C:=Tryz.checked) own started (by kernel_rfl) Tryz.func11
  (ChangeSpec.witness6 (enc:=enc) (C:=Tryz.checked) false ⟨#[],#[.agg #[.slice none 0 0,.slice none 0 0],.agg #[.slice none 0 0,.slice none 0 0],.slice none 0 0,.int .i64 0], []⟩ 12 (by kernel_rfl) (by kernel_rfl) (by kernel_rfl) (by kernel_rfl)) ?_
 intro W base args ds gs before hval0 hW hcnd hsz0 _;have hval : ∀(j:Nat) t v,Tryz.f11.params[j]? = some t→args[j]? = some v→Value.okWide Tryz.prog W .any base t v:=hval0;have hW':=hW;obtain ⟨p,q,hA0,hV,rfl,hfz,hnd⟩:=hW;have hA:DataW.TrodAll enc Tryz.prog W 0 (fun _=>true) true Tryz.f11.params.toList args.toList ds p:=hA0;rw [Tryz.params11] at hA hval;obtain ⟨v0,JN,d0,ds0,p0,q0,hargs,rfl,rfl,h0,r0⟩:=trodAll_cons hA;obtain ⟨v1,vs1,d1,ds1,p1,q1,rfl,rfl,rfl,h1,r1⟩:=trodAll_cons r0;obtain ⟨v2,vs2,d2,ds2,p2,q2,rfl,rfl,rfl,h2,r2⟩:=trodAll_cons r1;obtain ⟨v3,vs3,d3,ds3,p3,q3,rfl,rfl,rfl,h3,r3⟩:=trodAll_cons r2;obtain ⟨rfl,rfl,rfl⟩:=trodAll_nil r3
 obtain rfl:args = #[v0,v1,v2,v3]:=by cases args;simp_all
 obtain ⟨rfl,rfl⟩:=trodVars_none hV;obtain ⟨q0d,c0d,ds0,q0f,c0f,fs0,rfl,X0,F0,le0,fl0⟩:=openV_alg u25 rfl rfl rfl rfl (by kernel_rfl) (by kernel_rfl) (by kernel_rfl) u22 u2 (by kernel_rfl) u23 (by kernel_rfl) (fun n l y hy=>tr_form u28 rfl rfl (by kernel_rfl) (by kernel_rfl) u26 (by kernel_rfl) u155 rfl rfl rfl rfl u149 u5 (by kernel_rfl) (by kernel_rfl) u2 (by kernel_rfl) hy) (hval 0 25 v0 rfl rfl) h0;obtain ⟨q1d,c1d,ds1,q1f,c1f,fs1,rfl,X1,F1,le1,fl1⟩:=openV_alg u25 rfl rfl rfl rfl (by kernel_rfl) (by kernel_rfl) (by kernel_rfl) u22 u2 (by kernel_rfl) u23 (by kernel_rfl) (fun n l y hy=>tr_form u28 rfl rfl (by kernel_rfl) (by kernel_rfl) u26 (by kernel_rfl) u155 rfl rfl rfl rfl u149 u5 (by kernel_rfl) (by kernel_rfl) u2 (by kernel_rfl) hy) (hval 1 25 v1 rfl rfl) h1;obtain ⟨q2,c2,fs2,rfl,X2,le2,fl2⟩:=openV_forms u23 (by kernel_rfl) (fun n l y hy=>tr_form u28 rfl rfl (by kernel_rfl) (by kernel_rfl) u26 (by kernel_rfl) u155 rfl rfl rfl rfl u149 u5 (by kernel_rfl) (by kernel_rfl) u2 (by kernel_rfl) hy) (hval 2 23 v2 rfl rfl) h2;obtain ⟨a3,rfl,lo3,hi3⟩:=openV_int u2 (hval 3 2 v3 rfl rfl) h3;clear hA0 hval0 hsz0;refine ((lawIsIsomorphicTo_c X0 F0 X1 F1 X2 le0 fl0 le1 fl1 le2 fl2 (Hp.start (H:=hp W) fun _ _ h=>h)).mono fun e W' ⟨he,bel⟩=>?_);subst he;exact ⟨_,rfl,law_post (f:=Tryz.f11) (by kernel_rfl) (by kernel_rfl) rfl rfl u4 rfl hW' bel⟩
theorem joined:joinedFacts Tryz.prog 11 Tryz.f11 Rows.fnExactIsIsomorphicToSpec Rows.fnExactIsIsomorphicToRow=true:=by
 unfold joinedFacts;simp only [Bool.and_eq_true]
 repeat' apply And.intro
 all_goals first
  | with_reducible exact Facts.fEnter
  | with_reducible exact Facts.fLaid
  | with_reducible exact Facts.fMaps
  | with_reducible exact Facts.fHeard
  | (rw [Facts.fMake];rfl)
  | (rw [Facts.fLift];rfl)
  | (rw [Facts.fKeys];rfl)
  | (rw [Facts.fStops];rfl)
  | (rw [Facts.fStopK];rfl)
  | as_aux_lemma=>kernel_rfl
theorem over:Rows.fnExactIsIsomorphicToRow.holds Tryz.pinned (OpenSpec.ofChange Rows.fnExactIsIsomorphicToSpec):=
 OpenClaim.holds_of_wide 11 Tryz.f11 rfl rfl rfl rfl rfl rfl rfl ⟨rfl,rfl,rfl,rfl,rfl⟩ rfl rfl rfl rfl rfl (by as_aux_lemma=>kernel_rfl) Tryz.func11 joined
  (of_decide_eq_true (by as_aux_lemma=>kernel_rfl)) (by unfold Func.isWrapper;first | (rw [if_pos (by decide +kernel)];kernel_rfl) | (rw [if_neg (by decide +kernel)];exact ⟨rfl,rfl⟩))
  (fun os started H enc _=>lifted os started H enc)
theorem proved:Rows.FnExactIsIsomorphicToSaid:=over
#print axioms proved
end Go.Proofs.YthenedanhcnccaaGreat.fnExactIsIsomorphicTo
namespace Go.Proofs.YthenedanhcnccaaGreat
theorem fnExactIsIsomorphicTo_holds:Rows.FnExactIsIsomorphicToSaid:=fnExactIsIsomorphicTo.proved
end Go.Proofs.YthenedanhcnccaaGreat
