/- The row: the law answers true whatever the input, and the input reads as it did. No condition. -/
import Derived.Test.YtffgojlocbafhaaGreatRows
import Derived.Test.YtffgojlocbafhaaGreatProg
import Derived.WalkKit
import Derived.KernelRfl
import Derived.JoinedOf
import Derived.Maps.AppendAt
import Derived.Still
import Derived.ProofKit
import Derived.OpenShut
import Derived.StillTail
import Derived.Deep.Upon
import Derived.WalkSpells
import Derived.Maps.Range
import Derived.Laws.Entries
import Derived.DeepKeys4
import Derived.Laws.Concat
import Derived.Laws.IdiomStrings
import Derived.Laws.Strings
import Derived.Lib.ItoaNum
import Derived.Lib.Join
import Derived.Lib.LaidTab
import Derived.Lib.SplitLaws
import Derived.Lib.AtoiTie
import Derived.Lib.ParseIntBTie
import Derived.Laws.Strings2
import Derived.Laws.Strings3
import Derived.Laws.Slices
import Derived.Laws.StructEq
import Derived.ChangeOld
import Derived.Below
import Derived.SizedLaws
import Derived.Test.YtffgojlocbafhaaGreatPApag
set_option linter.unusedVariables false
set_option linter.unusedSimpArgs false
set_option maxRecDepth 10000
set_option maxHeartbeats 8000000
open Nat (reduceEqDiff reduceSub reduceAdd)
namespace Go.Proofs.YtffgojlocbafhaaGreat.G
open Go Go.RowKit
theorem u4:Tryz.prog.underlying 4=some (TypeDesc.bool):=by kernel_rfl
theorem fn10:Fn Tryz.prog 10:=⟨_,Tryz.func10,by kernel_rfl,rfl⟩
theorem fn11:Fn Tryz.prog 11:=⟨_,Tryz.func11,by kernel_rfl,rfl⟩
theorem fn12:Fn Tryz.prog 12:=⟨_,Tryz.func12,by kernel_rfl,rfl⟩
theorem fn13:Fn Tryz.prog 13:=⟨_,Tryz.func13,by kernel_rfl,rfl⟩
theorem fn14:Fn Tryz.prog 14:=⟨_,Tryz.func14,by kernel_rfl,rfl⟩
theorem fn15:Fn Tryz.prog 15:=⟨_,Tryz.func15,by kernel_rfl,rfl⟩
theorem fn17:Fn Tryz.prog 17:=⟨_,Tryz.func17,by kernel_rfl,rfl⟩
theorem fn18:Fn Tryz.prog 18:=⟨_,Tryz.func18,by kernel_rfl,rfl⟩
theorem fn19:Fn Tryz.prog 19:=⟨_,Tryz.func19,by kernel_rfl,rfl⟩
theorem fn20:Fn Tryz.prog 20:=⟨_,Tryz.func20,by kernel_rfl,rfl⟩
theorem fn4:Fn Tryz.prog 4:=⟨_,Tryz.func4,by kernel_rfl,rfl⟩
theorem fn5:Fn Tryz.prog 5:=⟨_,Tryz.func5,by kernel_rfl,rfl⟩
theorem fn6:Fn Tryz.prog 6:=⟨_,Tryz.func6,by kernel_rfl,rfl⟩
theorem fn7:Fn Tryz.prog 7:=⟨_,Tryz.func7,by kernel_rfl,rfl⟩
theorem fn8:Fn Tryz.prog 8:=⟨_,Tryz.func8,by kernel_rfl,rfl⟩
theorem fn9:Fn Tryz.prog 9:=⟨_,Tryz.func9,by kernel_rfl,rfl⟩
theorem qp_len2 {ds:List Int} {fs:List (List Term)} (hw:Wfss fs) (i:Nat):(fm (qpV ds fs) i).length≤1048576:=by
 cases h:isAlg ds fs with
 | false=>rw [qpV_no h];simp [fm]
 | true=>
  rcases Nat.lt_or_ge i fs.length with hi | hi
  ·rw [qp_at h hi];have h1:=isForm_len4 ((isAlg_ok h hw).ok i hi);have h2:=List.length_filter_le (ofWord 2) (fm fs i);unfold wordsF
   omega
  ·have h3:=(qpV_len ds fs).1;unfold fm;rw [List.getD_eq_getElem?_getD,List.getElem?_eq_none (by omega)]
   simp
theorem rnkC_ok {ds:List Int} {fs:List (List Term)} (h:isAlg ds fs=true) (h2 : ¬rnkC ds fs≠0):rnkOk ds fs=true:=by
 unfold rnkC at h2;rw [if_pos h] at h2
 cases e:rnkOk ds fs with
 | true=>rfl
 | false=>rw [e] at h2;simp at h2
theorem rnkV_ok {ds:List Int} {fs:List (List Term)} (h:isAlg ds fs=true) (h2:rnkOk ds fs=true):(rnkV ds fs).length=ds.length:=by
 unfold rnkV;rw [h,h2];exact rnkR_len ds fs
theorem row_bd {r:List Int} (h : ∀x∈r,0≤x∧x≤10006) (k:Nat):0≤r.getD k 0∧r.getD k 0≤1000000:=by
 rcases Nat.lt_or_ge k r.length with hk | hk
 ·have:=h _ (getD_mem hk);omega
 ·rw [getD_ge hk];omega
theorem qp_len {ds:List Int} {fs:List (List Term)} (h:isAlg ds fs=true) (hw:Wfss fs) {i:Nat} (hi:i<fs.length):(fm (qpV ds fs) i).length≤1048576:=by
 rw [qp_at h hi];have h1:=isForm_len4 ((isAlg_ok h hw).ok i hi);have h2:=List.length_filter_le (ofWord 2) (fm fs i);unfold wordsF
 omega
theorem lawParts_c {B:World} {H0 H:HP} {L:List SA} {w:World} {qb:Option Addr} {cb:Nat} {code:List Int} (hbt:Bts H qb code) (hbk:BtOk code) (hH:Hp B H0 H L w):Calls Tryz.prog 3 [.slice qb code.length cb].toArray w fun e w'=>e = .returned (.bool true)∧Below B.heap.size B w':=by
 refine JB Tryz.func3 rfl 281 rfl rfl [(0,.slice qb code.length cb)] rfl hH ?_;clear hH;refine Je fun _ hK1 _=>(Jb (Jg (Jd rfl) rfl (Jf (Ja (hK1 (Je fun _ hK2 _=>(Je fun _ hK3 _=>(Jb (Jg (Jc rfl) rfl (Jx fn4 rfl rfl fun w hH=>(big_c hbt hbk hH).mono ?_))))))))));rintro _ w ⟨rfl,hH⟩;refine ⟨_,rfl,fun a hF=>JQ hF hH ?_⟩;refine Jf (Ja (hK3 (Ei rfl (fun h36=>?_) (fun h36=>?_))))
 ·
  refine Je fun _ hK4 _=>(Jb (Jg (Jd rfl) rfl (Jf (Ja (hK4 (Js (Ji (Ju rfl (Res.tmp rfl) fun w hH=>?_))))))))
  first | exact ⟨rfl,hH.below⟩ | (rw [linV_no (algC_ne h140)];exact ⟨rfl,hH.below⟩) | exact absurd rfl h36p | exact absurd rfl h36 | exact absurd hdec (of_decide_eq_true h36) | exact absurd hdec h36 | exact absurd (hqd.2 (by have:=of_decide_eq_true hg203;omega)) h36 | exact absurd (by rw [show i=kf38.length by have:=linV_len2 hAlg;omega];exact flt_min hAlg hWf) h36 | exact absurd hdr (of_decide_eq_true h36) | exact absurd hdr h36 | (exfalso;have h99:=hr3 k hkl j (by omega) (by have:=of_decide_eq_true hg270;omega);omega) | (exfalso;have h99:=of_decide_eq_true h36;omega) | (exfalso;omega) | (simp at h36;done)
 ·
  have hcl:code.length≤1048576:=by have:=of_decide_eq_false h36;omega
  refine Jk (Ja (hK2 (Je fun _ hK5 _=>(Jb (Jg (Jc rfl) rfl (Jx fn5 rfl rfl fun w hH=>(DrawLinearTable_c hbt hbk hcl hH).mono ?_))))));rintro _ w ⟨ka38,kf38,qd38,cd38,qf38,cf38,vs38,hk38,rfl,hH⟩;refine ⟨_,rfl,fun a hF=>JQ hF hH ?_⟩;refine JM ze27 rfl fun g3=>(Jr rfl rfl (by first | exact bytesC_one _ | exact intsC_one _ | exact Term.c_one _ | simp [Value.oneCell']) (by simpa [*] using sz27) (by simp [*]) At.z (Jf (Ja (hK5 (Je fun _ hK6 _=>?_)))));have hN1:=hk38.hn;have hN2:=hk38.hl
  have hL9 : ∀i,i<kf38.length→(fm kf38 i).length≤1048576:=fun i hi=>by have:=hk38.len i hi;omega
  obtain ⟨hV1,_,hV3⟩:=linV_len ka38 kf38;have hQ1:=(qpV_len ka38 kf38).1
  have hQ3 : ∀i,i<(qpV ka38 kf38).length→(fm (qpV ka38 kf38) i).length≤9223372036854775807:=fun i _=>by have:=qp_len2 (ds:=ka38) hk38.wf i;omega
  have hR1:=rnkV_len ka38 kf38;refine Jb (Jg (Jn rfl At.z (by simpa [*] using ag27)) rfl (Jx fn6 rfl rfl fun w hH=>hH.lend (.s .z) fun Hl1 hle1 hA1 hB1 hH=>hH.lend (.s .z) fun Hl2 hle2 hA2 hB2 hH=>(LinearTable_c ((own_ints hA1).le hle2) (own_forms hk38.wf hA2) (by omega) (by omega) hL9 hH).mono ?_));rintro _ w ⟨qo41,co41,vso41,rfl,hH⟩;replace hH:=hB2 _ _ hH;replace hH:=hB1 _ _ hH;refine ⟨_,rfl,fun a hF=>JQ hF hH ?_⟩;refine Jg (Jc rfl) rfl (Jg (JJ rfl rfl) rfl (Jg (JJ rfl rfl) rfl (Jg (Jd rfl) rfl (Jg (Jd rfl) rfl (Jf (Ja (hK6 (Je fun _ hK7 _=>(Je fun _ hK8 _=>(Jb (Jg (Jn rfl (.s (.s (.s .z))) (by simpa [*] using ag27)) rfl (Jx fn7 rfl rfl fun w hH=>hH.lend .z fun Hl1 hle1 hA1 hB1 hH=>hH.lend .z fun Hl2 hle2 hA2 hB2 hH=>(sLinearTable_c ((own_ints hA1).le hle2) (own_forms hk38.wf hA2) (by omega) (by omega) hL9 hH).mono ?_))))))))))));rintro _ w ⟨qo46,co46,vso46,rfl,hH⟩;replace hH:=hB2 _ _ hH;replace hH:=hB1 _ _ hH;refine ⟨_,rfl,fun a hF=>JQ hF hH ?_⟩;refine Jg (Jc rfl) rfl (Jg (JJ rfl rfl) rfl (Jg (JJ rfl rfl) rfl (Jg (Jd rfl) rfl (Jg (Jd rfl) rfl (Jf (Ja (hK8 (Je fun _ hK9 _=>(Jb (Jg (Jc rfl) rfl (Jg (Jc rfl) rfl (Jg (En rfl rfl) rfl (Jg (Jc rfl) rfl (JZ (jd:=52) rfl (fun hg52=>?_) (fun hg52=>?_)))))))))))))))
  ·
   try have hg52p:=of_decide_eq_true hg52
   refine JE rfl rfl rfl hg52 (JE rfl rfl rfl hg52 (JE rfl rfl rfl hg52 (JE rfl rfl rfl hg52 (Jg (JP rfl hg52 rfl) rfl (Jf (Ja (hK9 (Ek rfl (Je fun _ hK10 _=>(Jb (Jg (Jd rfl) rfl (Jf (Ja (hK10 (Js (Ji ?_))))))))))))))));refine Ju rfl (Res.tmp rfl) fun w hH=>?_;replace hH:=hH.tail;replace hH:=hH.tail;replace hH:=hH.tail;replace hH:=hH.tail;replace hH:=hH.tail
   first | exact ⟨rfl,hH.below⟩ | (rw [linV_no (algC_ne h140)];exact ⟨rfl,hH.below⟩) | exact absurd rfl hg52p | exact absurd rfl hg52 | exact absurd hdec (of_decide_eq_true hg52) | exact absurd hdec hg52 | exact absurd (hqd.2 (by have:=of_decide_eq_true hg203;omega)) hg52 | exact absurd (by rw [show i=kf38.length by have:=linV_len2 hAlg;omega];exact flt_min hAlg hWf) hg52 | exact absurd hdr (of_decide_eq_true hg52) | exact absurd hdr hg52 | (exfalso;have h99:=hr3 k hkl j (by omega) (by have:=of_decide_eq_true hg270;omega);omega) | (exfalso;have h99:=of_decide_eq_true hg52;omega) | (exfalso;omega) | (simp at hg52;done)
  ·
   try have hg52p:=of_decide_eq_false hg52
   refine JK (Jc rfl) rfl rfl rfl hg52 (JK (Jc rfl) rfl rfl rfl hg52 (Ez fn8 rfl rfl hg52 rfl rfl fun w hH=>hH.lend (.s (.s (.s .z))) fun Hl1 hle1 hA1 hB1 hH=>hH.lend (.s (.s .z)) fun Hl2 hle2 hA2 hB2 hH=>(rows9_c ((own_rows hA1).le hle2) (own_rows hA2) (by omega) hV3 hH).mono ?_));rintro _ w ⟨rfl,hH⟩;replace hH:=hB2 _ _ hH;replace hH:=hB1 _ _ hH;refine ⟨_,rfl,fun a hF=>JQ hF hH ?_⟩;refine JK (Es rfl) rfl rfl rfl hg52 (Jg (JN rfl hg52 rfl) rfl (Jf (Ja (hK9 (Ei rfl (fun hc57=>?_) (fun hc57=>?_))))))
   ·
    refine Je fun _ hK11 _=>(Jb (Jg (Jd rfl) rfl (Jf (Ja (hK11 (Js (Ji (Ju rfl (Res.tmp rfl) fun w hH=>?_))))))));replace hH:=hH.tail;replace hH:=hH.tail;replace hH:=hH.tail;replace hH:=hH.tail;replace hH:=hH.tail
    first | exact ⟨rfl,hH.below⟩ | (rw [linV_no (algC_ne h140)];exact ⟨rfl,hH.below⟩) | exact absurd rfl hc57p | exact absurd rfl hc57 | exact absurd hdec (of_decide_eq_true hc57) | exact absurd hdec hc57 | exact absurd (hqd.2 (by have:=of_decide_eq_true hg203;omega)) hc57 | exact absurd (by rw [show i=kf38.length by have:=linV_len2 hAlg;omega];exact flt_min hAlg hWf) hc57 | exact absurd hdr (of_decide_eq_true hc57) | exact absurd hdr hc57 | (exfalso;have h99:=hr3 k hkl j (by omega) (by have:=of_decide_eq_true hg270;omega);omega) | (exfalso;have h99:=of_decide_eq_true hc57;omega) | (exfalso;omega) | (simp at hc57;done)
   ·
    refine Jk (Ja (hK7 (Je fun _ hK12 _=>(Jb (Jg (Jn rfl (.s (.s (.s (.s .z)))) (by simpa [*] using ag27)) rfl (Jx fn9 rfl rfl fun w hH=>hH.lend (.s (.s .z)) fun Hl1 hle1 hA1 hB1 hH=>hH.lend (.s (.s .z)) fun Hl2 hle2 hA2 hB2 hH=>(QuadraticParts_c ((own_ints hA1).le hle2) (own_forms hk38.wf hA2) (by omega) (by omega) hL9 hH).mono ?_))))));rintro _ w ⟨qo60,co60,vso60,rfl,hH⟩;replace hH:=hB2 _ _ hH;replace hH:=hB1 _ _ hH;refine ⟨_,rfl,fun a hF=>JQ hF hH ?_⟩;refine Jg (Jc rfl) rfl (Jg (JJ rfl rfl) rfl (Jg (JJ rfl rfl) rfl (Jg (Jd rfl) rfl (Jg (Jd rfl) rfl (Jf (Ja (hK12 (Je fun _ hK13 _=>(Je fun _ hK14 _=>(Jb (Jg (Jn rfl (.s (.s (.s (.s (.s .z))))) (by simpa [*] using ag27)) rfl (Jx fn10 rfl rfl fun w hH=>hH.lend .z fun Hl1 hle1 hA1 hB1 hH=>hH.lend .z fun Hl2 hle2 hA2 hB2 hH=>(sQuadraticParts_c ((own_ints hA1).le hle2) (own_forms hk38.wf hA2) (by omega) (by omega) hL9 hH).mono ?_))))))))))));rintro _ w ⟨qo65,co65,vso65,rfl,hH⟩;replace hH:=hB2 _ _ hH;replace hH:=hB1 _ _ hH;refine ⟨_,rfl,fun a hF=>JQ hF hH ?_⟩;refine Jg (Jc rfl) rfl (Jg (JJ rfl rfl) rfl (Jg (JJ rfl rfl) rfl (Jg (Jd rfl) rfl (Jg (Jd rfl) rfl (Jf (Ja (hK14 (Je fun _ hK15 _=>(Jb (Jg (Jc rfl) rfl (Jg (Jc rfl) rfl (Jg (En rfl rfl) rfl (Jg (Jc rfl) rfl (JZ (jd:=71) rfl (fun hg71=>?_) (fun hg71=>?_)))))))))))))))
    ·
     try have hg71p:=of_decide_eq_true hg71
     refine JE rfl rfl rfl hg71 (JE rfl rfl rfl hg71 (JE rfl rfl rfl hg71 (JE rfl rfl rfl hg71 (Jg (JP rfl hg71 rfl) rfl (Jf (Ja (hK15 (Ek rfl (Je fun _ hK16 _=>(Jb (Jg (Jd rfl) rfl (Jf (Ja (hK16 (Js (Ji ?_))))))))))))))));refine Ju rfl (Res.tmp rfl) fun w hH=>?_;replace hH:=hH.tail;replace hH:=hH.tail;replace hH:=hH.tail;replace hH:=hH.tail;replace hH:=hH.tail;replace hH:=hH.tail;replace hH:=hH.tail
     first | exact ⟨rfl,hH.below⟩ | (rw [linV_no (algC_ne h140)];exact ⟨rfl,hH.below⟩) | exact absurd rfl hg71p | exact absurd rfl hg71 | exact absurd hdec (of_decide_eq_true hg71) | exact absurd hdec hg71 | exact absurd (hqd.2 (by have:=of_decide_eq_true hg203;omega)) hg71 | exact absurd (by rw [show i=kf38.length by have:=linV_len2 hAlg;omega];exact flt_min hAlg hWf) hg71 | exact absurd hdr (of_decide_eq_true hg71) | exact absurd hdr hg71 | (exfalso;have h99:=hr3 k hkl j (by omega) (by have:=of_decide_eq_true hg270;omega);omega) | (exfalso;have h99:=of_decide_eq_true hg71;omega) | (exfalso;omega) | (simp at hg71;done)
    ·
     try have hg71p:=of_decide_eq_false hg71
     refine JK (Jc rfl) rfl rfl rfl hg71 (JK (Jc rfl) rfl rfl rfl hg71 (Ez fn11 rfl rfl hg71 rfl rfl fun w hH=>hH.lend (.s (.s (.s .z))) fun Hl1 hle1 hA1 hB1 hH=>hH.lend (.s (.s .z)) fun Hl2 hle2 hA2 hB2 hH=>(forms9_c ((own_forms (qpV_wf hk38.wf) hA1).le hle2) (own_forms (qpV_wf hk38.wf) hA2) (by omega) hQ3 hH).mono ?_));rintro _ w ⟨rfl,hH⟩;replace hH:=hB2 _ _ hH;replace hH:=hB1 _ _ hH;refine ⟨_,rfl,fun a hF=>JQ hF hH ?_⟩;refine JK (Es rfl) rfl rfl rfl hg71 (Jg (JN rfl hg71 rfl) rfl (Jf (Ja (hK15 (Ei rfl (fun hc76=>?_) (fun hc76=>?_))))))
     ·
      refine Je fun _ hK17 _=>(Jb (Jg (Jd rfl) rfl (Jf (Ja (hK17 (Js (Ji (Ju rfl (Res.tmp rfl) fun w hH=>?_))))))));replace hH:=hH.tail;replace hH:=hH.tail;replace hH:=hH.tail;replace hH:=hH.tail;replace hH:=hH.tail;replace hH:=hH.tail;replace hH:=hH.tail
      first | exact ⟨rfl,hH.below⟩ | (rw [linV_no (algC_ne h140)];exact ⟨rfl,hH.below⟩) | exact absurd rfl hc76p | exact absurd rfl hc76 | exact absurd hdec (of_decide_eq_true hc76) | exact absurd hdec hc76 | exact absurd (hqd.2 (by have:=of_decide_eq_true hg203;omega)) hc76 | exact absurd (by rw [show i=kf38.length by have:=linV_len2 hAlg;omega];exact flt_min hAlg hWf) hc76 | exact absurd hdr (of_decide_eq_true hc76) | exact absurd hdr hc76 | (exfalso;have h99:=hr3 k hkl j (by omega) (by have:=of_decide_eq_true hg270;omega);omega) | (exfalso;have h99:=of_decide_eq_true hc76;omega) | (exfalso;omega) | (simp at hc76;done)
     ·
      refine Jk (Ja (hK13 (Je fun _ hK18 _=>(Jb (Jg (Jn rfl (.s (.s (.s (.s (.s (.s .z)))))) (by simpa [*] using ag27)) rfl (Jx fn12 rfl rfl fun w hH=>hH.lend (.s (.s .z)) fun Hl1 hle1 hA1 hB1 hH=>hH.lend (.s (.s .z)) fun Hl2 hle2 hA2 hB2 hH=>(IsMinimal_c ((own_ints hA1).le hle2) (own_forms hk38.wf hA2) (by omega) (by omega) hL9 hH).mono ?_))))));rintro _ w ⟨rfl,hH⟩;replace hH:=hB2 _ _ hH;replace hH:=hB1 _ _ hH;refine ⟨_,rfl,fun a hF=>JQ hF hH ?_⟩;refine Jg (Jc rfl) rfl (Jg (JJ rfl rfl) rfl (Jg (JJ rfl rfl) rfl (Jg (Jd rfl) rfl (Jg (Jd rfl) rfl (Jf (Ja (hK18 (Je fun _ hK19 _=>(Je fun _ hK20 _=>(Jb (Jg (Jn rfl (.s (.s (.s (.s (.s (.s .z)))))) (by simpa [*] using ag27)) rfl (Jx fn13 rfl rfl fun w hH=>hH.lend .z fun Hl1 hle1 hA1 hB1 hH=>hH.lend .z fun Hl2 hle2 hA2 hB2 hH=>(sIsMinimal_c ((own_ints hA1).le hle2) (own_forms hk38.wf hA2) (by omega) (by omega) hL9 hH).mono ?_))))))))))));rintro _ w ⟨rfl,hH⟩;replace hH:=hB2 _ _ hH;replace hH:=hB1 _ _ hH;refine ⟨_,rfl,fun a hF=>JQ hF hH ?_⟩;refine Jg (Jc rfl) rfl (Jg (JJ rfl rfl) rfl (Jg (JJ rfl rfl) rfl (Jg (Jd rfl) rfl (Jg (Jd rfl) rfl (Jf (Ja (hK20 (Je fun _ hK21 _=>(Jb (Jg (Jc rfl) rfl (Jg (Jc rfl) rfl (Jg (En rfl rfl) rfl (Jg (Jc rfl) rfl (JZ (jd:=90) rfl (fun hg90=>?_) (fun hg90=>?_)))))))))))))))
      ·
       try have hg90p:=of_decide_eq_true hg90
       refine JE rfl rfl rfl hg90 (JE rfl rfl rfl hg90 (JE rfl rfl rfl hg90 (Jg (JP rfl hg90 rfl) rfl (Jf (Ja (hK21 (Ek rfl (Je fun _ hK22 _=>(Jb (Jg (Jd rfl) rfl (Jf (Ja (hK22 (Js (Ji (Ju rfl (Res.tmp rfl) fun w hH=>?_))))))))))))))));replace hH:=hH.tail;replace hH:=hH.tail;replace hH:=hH.tail;replace hH:=hH.tail;replace hH:=hH.tail;replace hH:=hH.tail;replace hH:=hH.tail
       first | exact ⟨rfl,hH.below⟩ | (rw [linV_no (algC_ne h140)];exact ⟨rfl,hH.below⟩) | exact absurd rfl hg90p | exact absurd rfl hg90 | exact absurd hdec (of_decide_eq_true hg90) | exact absurd hdec hg90 | exact absurd (hqd.2 (by have:=of_decide_eq_true hg203;omega)) hg90 | exact absurd (by rw [show i=kf38.length by have:=linV_len2 hAlg;omega];exact flt_min hAlg hWf) hg90 | exact absurd hdr (of_decide_eq_true hg90) | exact absurd hdr hg90 | (exfalso;have h99:=hr3 k hkl j (by omega) (by have:=of_decide_eq_true hg270;omega);omega) | (exfalso;have h99:=of_decide_eq_true hg90;omega) | (exfalso;omega) | (simp at hg90;done)
      ·
       try have hg90p:=of_decide_eq_false hg90
       refine JK (Jc rfl) rfl rfl rfl hg90 (JK (Jc rfl) rfl rfl rfl hg90 (JK (PR.neqB u4 rfl rfl) rfl rfl rfl hg90 (Jg (JN rfl hg90 rfl) rfl (Jf (Ja (hK21 (Jm rfl (fun hc94=>?_) (fun hc94=>?_))))))))
       ·
        refine Je fun _ hK23 _=>(Jb (Jg (Jd rfl) rfl (Jf (Ja (hK23 (Js (Ji (Ju rfl (Res.tmp rfl) fun w hH=>?_))))))));replace hH:=hH.tail;replace hH:=hH.tail;replace hH:=hH.tail;replace hH:=hH.tail;replace hH:=hH.tail;replace hH:=hH.tail;replace hH:=hH.tail
        first | exact ⟨rfl,hH.below⟩ | (rw [linV_no (algC_ne h140)];exact ⟨rfl,hH.below⟩) | exact absurd rfl hc94p | exact absurd rfl hc94 | exact absurd hdec (of_decide_eq_true hc94) | exact absurd hdec hc94 | exact absurd (hqd.2 (by have:=of_decide_eq_true hg203;omega)) hc94 | exact absurd (by rw [show i=kf38.length by have:=linV_len2 hAlg;omega];exact flt_min hAlg hWf) hc94 | exact absurd hdr (of_decide_eq_true hc94) | exact absurd hdr hc94 | (exfalso;have h99:=hr3 k hkl j (by omega) (by have:=of_decide_eq_true hg270;omega);omega) | (exfalso;have h99:=of_decide_eq_true hc94;omega) | (exfalso;omega) | (simp at hc94;done)
       ·
        refine Jk (Ja (hK19 (Je fun _ hK24 _=>(Jb (Jg (Jn rfl (.s (.s (.s (.s (.s (.s .z)))))) (by simpa [*] using ag27)) rfl (Jx fn14 rfl rfl fun w hH=>hH.lend .z fun Hl1 hle1 hA1 hB1 hH=>hH.lend .z fun Hl2 hle2 hA2 hB2 hH=>(RanksOf_c ((own_ints hA1).le hle2) (own_forms hk38.wf hA2) (by omega) (by omega) hL9 hH).mono ?_))))));rintro _ w ⟨qo97,co97,rfl,hH⟩;replace hH:=hB2 _ _ hH;replace hH:=hB1 _ _ hH;refine ⟨_,rfl,fun a hF=>JQ hF hH ?_⟩;refine Jg (Jc rfl) rfl (Jg (JJ rfl rfl) rfl (Jg (JJ rfl rfl) rfl (Jg (Jd rfl) rfl (Jg (Jd rfl) rfl (Jf (Ja (hK24 (Je fun _ hK25 _=>(Je fun _ hK26 _=>(Jb (Jg (Jn rfl (.s (.s (.s (.s (.s (.s (.s .z))))))) (by simpa [*] using ag27)) rfl (Jx fn15 rfl rfl fun w hH=>hH.lend .z fun Hl1 hle1 hA1 hB1 hH=>hH.lend .z fun Hl2 hle2 hA2 hB2 hH=>(sRanksOf_c ((own_ints hA1).le hle2) (own_forms hk38.wf hA2) (by omega) (by omega) hL9 hH).mono ?_))))))))))));rintro _ w ⟨qo102,co102,rfl,hH⟩;replace hH:=hB2 _ _ hH;replace hH:=hB1 _ _ hH;refine ⟨_,rfl,fun a hF=>JQ hF hH ?_⟩;refine Jg (Jc rfl) rfl (Jg (JJ rfl rfl) rfl (Jg (JJ rfl rfl) rfl (Jg (Jd rfl) rfl (Jg (Jd rfl) rfl (Jf (Ja (hK26 (Je fun _ hK27 _=>(Jb (Jg (Jc rfl) rfl (Jg (Jc rfl) rfl (Jg (En rfl rfl) rfl (Jg (Jc rfl) rfl (JZ (jd:=108) rfl (fun hg108=>?_) (fun hg108=>?_)))))))))))))))
        ·
         try have hg108p:=of_decide_eq_true hg108
         refine JE rfl rfl rfl hg108 (JE rfl rfl rfl hg108 (JE rfl rfl rfl hg108 (JE rfl rfl rfl hg108 (Jg (JP rfl hg108 rfl) rfl (Jf (Ja (hK27 (Ek rfl (Je fun _ hK28 _=>(Jb (Jg (Jd rfl) rfl (Jf (Ja (hK28 (Js (Ji ?_))))))))))))))));refine Ju rfl (Res.tmp rfl) fun w hH=>?_;replace hH:=hH.tail;replace hH:=hH.tail;replace hH:=hH.tail;replace hH:=hH.tail;replace hH:=hH.tail;replace hH:=hH.tail;replace hH:=hH.tail;replace hH:=hH.tail;replace hH:=hH.tail
         first | exact ⟨rfl,hH.below⟩ | (rw [linV_no (algC_ne h140)];exact ⟨rfl,hH.below⟩) | exact absurd rfl hg108p | exact absurd rfl hg108 | exact absurd hdec (of_decide_eq_true hg108) | exact absurd hdec hg108 | exact absurd (hqd.2 (by have:=of_decide_eq_true hg203;omega)) hg108 | exact absurd (by rw [show i=kf38.length by have:=linV_len2 hAlg;omega];exact flt_min hAlg hWf) hg108 | exact absurd hdr (of_decide_eq_true hg108) | exact absurd hdr hg108 | (exfalso;have h99:=hr3 k hkl j (by omega) (by have:=of_decide_eq_true hg270;omega);omega) | (exfalso;have h99:=of_decide_eq_true hg108;omega) | (exfalso;omega) | (simp at hg108;done)
        ·
         try have hg108p:=of_decide_eq_false hg108
         refine JK (Jc rfl) rfl rfl rfl hg108 (JK (Jc rfl) rfl rfl rfl hg108 (Ez fn16 rfl rfl hg108 rfl rfl fun w hH=>hH.lend (.s (.s (.s .z))) fun Hl1 hle1 hA1 hB1 hH=>hH.lend (.s (.s .z)) fun Hl2 hle2 hA2 hB2 hH=>(likeInts_c ((own_ints hA1).le hle2) (own_ints hA2) (by omega) hH).mono ?_));rintro _ w ⟨rfl,hH⟩;replace hH:=hB2 _ _ hH;replace hH:=hB1 _ _ hH;refine ⟨_,rfl,fun a hF=>JQ hF hH ?_⟩;refine JK (Es rfl) rfl rfl rfl hg108 (Jg (JN rfl hg108 rfl) rfl (Jf (Ja (hK27 (Ei rfl (fun hc113=>?_) (fun hc113=>?_))))))
         ·
          refine Je fun _ hK29 _=>(Jb (Jg (Jd rfl) rfl (Jf (Ja (hK29 (Js (Ji (Ju rfl (Res.tmp rfl) fun w hH=>?_))))))));replace hH:=hH.tail;replace hH:=hH.tail;replace hH:=hH.tail;replace hH:=hH.tail;replace hH:=hH.tail;replace hH:=hH.tail;replace hH:=hH.tail;replace hH:=hH.tail;replace hH:=hH.tail
          first | exact ⟨rfl,hH.below⟩ | (rw [linV_no (algC_ne h140)];exact ⟨rfl,hH.below⟩) | exact absurd rfl hc113p | exact absurd rfl hc113 | exact absurd hdec (of_decide_eq_true hc113) | exact absurd hdec hc113 | exact absurd (hqd.2 (by have:=of_decide_eq_true hg203;omega)) hc113 | exact absurd (by rw [show i=kf38.length by have:=linV_len2 hAlg;omega];exact flt_min hAlg hWf) hc113 | exact absurd hdr (of_decide_eq_true hc113) | exact absurd hdr hc113 | (exfalso;have h99:=hr3 k hkl j (by omega) (by have:=of_decide_eq_true hg270;omega);omega) | (exfalso;have h99:=of_decide_eq_true hc113;omega) | (exfalso;omega) | (simp at hc113;done)
         ·
          refine Jk (Ja (hK25 (Je fun _ hK30 _=>(Jb (Jg (Jc rfl) rfl (Jx fn17 rfl rfl fun w hH=>(DrawWordLengthOf_c hbt hbk hcl hH).mono ?_))))));rintro _ w ⟨ka116,kf116,kg116,qd116,cd116,qf116,cf116,vs116,qg116,cg116,hk116,hg116,rfl,hH⟩;refine ⟨_,rfl,fun a hF=>JQ hF hH ?_⟩;refine Jg (Jc rfl) rfl (Jg (JJ rfl rfl) rfl (Jg (JJ rfl rfl) rfl (JM ze27 rfl fun g20=>(JM ze43 rfl fun g21=>(Jr rfl rfl (by first | exact bytesC_one _ | exact intsC_one _ | exact Term.c_one _ | simp [Value.oneCell']) (by simpa [*] using sz27) (by simp [*]) (.s .z) (Jr rfl rfl (by first | exact bytesC_one _ | exact intsC_one _ | exact Term.c_one _ | simp [Value.oneCell']) (by simpa [*] using sz43) (by simp [*]) At.z (Jf (Ja (hK30 (Je fun _ hK31 _=>?_))))))))));have hN3:=hk116.hn;have hN4:=hk116.hl;have hg116l:=hg116.2
          have hL8 : ∀i,i<kf116.length→(fm kf116 i).length≤1048576:=fun i hi=>by have:=hk116.len i hi;omega
          refine Jb (Jg (Jn rfl (.s .z) (by simpa [*] using ag27)) rfl (Jg (Jn rfl At.z (by simpa [*] using ag43)) rfl (Jx fn18 rfl rfl fun w hH=>hH.lend (.s (.s .z)) fun Hl1 hle1 hA1 hB1 hH=>hH.lend (.s (.s .z)) fun Hl2 hle2 hA2 hB2 hH=>hH.lend (.s (.s .z)) fun Hl3 hle3 hA3 hB3 hH=>(WordLengthOf_c (((own_ints hA1).le hle2).le hle3) ((own_forms hk116.wf hA2).le hle3) (own_terms hg116.1 hA3) (by omega) (by omega) hL8 (by omega) (own_le hA3) hH).mono ?_)));rintro _ w ⟨rfl,hH⟩;replace hH:=hB3 _ _ hH;replace hH:=hB2 _ _ hH;replace hH:=hB1 _ _ hH;refine ⟨_,rfl,fun a hF=>JQ hF hH ?_⟩;refine Jg (Jc rfl) rfl (Jg (JJ rfl rfl) rfl (Jg (JJ rfl rfl) rfl (Jg (Jd rfl) rfl (Jg (Jd rfl) rfl (Jf (Ja (hK31 (Je fun _ hK32 _=>(Je fun _ hK33 _=>(Jb (Jg (Jn rfl (.s (.s (.s (.s .z)))) (by simpa [*] using ag27)) rfl (Jg (Jn rfl (.s (.s (.s .z))) (by simpa [*] using ag43)) rfl (Jx fn19 rfl rfl fun w hH=>hH.lend .z fun Hl1 hle1 hA1 hB1 hH=>hH.lend .z fun Hl2 hle2 hA2 hB2 hH=>hH.lend .z fun Hl3 hle3 hA3 hB3 hH=>(sWordLengthOf_c (((own_ints hA1).le hle2).le hle3) ((own_forms hk116.wf hA2).le hle3) (own_terms hg116.1 hA3) (by omega) (by omega) hL8 (by omega) (own_le hA3) hH).mono ?_)))))))))))));rintro _ w ⟨rfl,hH⟩;replace hH:=hB3 _ _ hH;replace hH:=hB2 _ _ hH;replace hH:=hB1 _ _ hH;refine ⟨_,rfl,fun a hF=>JQ hF hH ?_⟩;refine Jg (Jc rfl) rfl (Jg (JJ rfl rfl) rfl (Jg (JJ rfl rfl) rfl (Jg (Jd rfl) rfl (Jg (Jd rfl) rfl (Jf (Ja (hK33 (Je fun _ hK34 _=>(Jb (Jg (Jc rfl) rfl (Jg (Jc rfl) rfl (Jg (En rfl rfl) rfl (Jg (Jc rfl) rfl (JZ (jd:=134) rfl (fun hg134=>?_) (fun hg134=>?_)))))))))))))))
          ·
           try have hg134p:=of_decide_eq_true hg134
           refine JE rfl rfl rfl hg134 (JE rfl rfl rfl hg134 (JE rfl rfl rfl hg134 (Jg (JP rfl hg134 rfl) rfl (Jf (Ja (hK34 (Ek rfl (Je fun _ hK35 _=>(Jb (Jg (Jd rfl) rfl (Jf (Ja (hK35 (Js (Ji (Ju rfl (Res.tmp rfl) fun w hH=>?_))))))))))))))));replace hH:=hH.tail;replace hH:=hH.tail;replace hH:=hH.tail;replace hH:=hH.tail;replace hH:=hH.tail;replace hH:=hH.tail;replace hH:=hH.tail;replace hH:=hH.tail;replace hH:=hH.tail;replace hH:=hH.tail;replace hH:=hH.tail;replace hH:=hH.tail;replace hH:=hH.tail;replace hH:=hH.tail
           first | exact ⟨rfl,hH.below⟩ | (rw [linV_no (algC_ne h140)];exact ⟨rfl,hH.below⟩) | exact absurd rfl hg134p | exact absurd rfl hg134 | exact absurd hdec (of_decide_eq_true hg134) | exact absurd hdec hg134 | exact absurd (hqd.2 (by have:=of_decide_eq_true hg203;omega)) hg134 | exact absurd (by rw [show i=kf38.length by have:=linV_len2 hAlg;omega];exact flt_min hAlg hWf) hg134 | exact absurd hdr (of_decide_eq_true hg134) | exact absurd hdr hg134 | (exfalso;have h99:=hr3 k hkl j (by omega) (by have:=of_decide_eq_true hg270;omega);omega) | (exfalso;have h99:=of_decide_eq_true hg134;omega) | (exfalso;omega) | (simp at hg134;done)
          ·
           try have hg134p:=of_decide_eq_false hg134
           refine JK (Jc rfl) rfl rfl rfl hg134 (JK (Jc rfl) rfl rfl rfl hg134 (JK (En rfl rfl) rfl rfl rfl hg134 (Jg (JN rfl hg134 rfl) rfl (Jf (Ja (hK34 (Jm rfl (fun hc138=>?_) (fun hc138=>?_))))))))
           ·
            refine Je fun _ hK36 _=>(Jb (Jg (Jd rfl) rfl (Jf (Ja (hK36 (Js (Ji (Ju rfl (Res.tmp rfl) fun w hH=>?_))))))));replace hH:=hH.tail;replace hH:=hH.tail;replace hH:=hH.tail;replace hH:=hH.tail;replace hH:=hH.tail;replace hH:=hH.tail;replace hH:=hH.tail;replace hH:=hH.tail;replace hH:=hH.tail;replace hH:=hH.tail;replace hH:=hH.tail;replace hH:=hH.tail;replace hH:=hH.tail;replace hH:=hH.tail
            first | exact ⟨rfl,hH.below⟩ | (rw [linV_no (algC_ne h140)];exact ⟨rfl,hH.below⟩) | exact absurd rfl hc138p | exact absurd rfl hc138 | exact absurd hdec (of_decide_eq_true hc138) | exact absurd hdec hc138 | exact absurd (hqd.2 (by have:=of_decide_eq_true hg203;omega)) hc138 | exact absurd (by rw [show i=kf38.length by have:=linV_len2 hAlg;omega];exact flt_min hAlg hWf) hc138 | exact absurd hdr (of_decide_eq_true hc138) | exact absurd hdr hc138 | (exfalso;have h99:=hr3 k hkl j (by omega) (by have:=of_decide_eq_true hg270;omega);omega) | (exfalso;have h99:=of_decide_eq_true hc138;omega) | (exfalso;omega) | (simp at hc138;done)
           ·
            refine Jk (Ja (hK32 (ER (σ:=Unit) (fun (_:Unit)=>[]) (fun (_:Unit)=>H) (fun (_:Unit)=>obj g3 (.cells [.slice qd38 ka38.length cd38,.slice qf38 kf38.length cf38].toArray 27 (0,0))::own 2 1 qd38 ka38.length cd38 (intsC ka38)::ownFs 43 52 qf38 cf38 vs38 kf38::ownRs 24 2 qo41 co41 vso41 (linV ka38 kf38)::ownFs 43 52 qo60 co60 vso60 (qpV ka38 kf38)::own 2 1 qo97 (rnkV ka38 kf38).length co97 (intsC (rnkV ka38 kf38))::L) (fun (_:Unit)=>isAlg ka38 kf38=true) ?_ ?_)))
            ·
             intro _ hMt1;refine Je fun _ hK37 _=>(Jb (Jg (Jc rfl) rfl (Jg (En rfl rfl) rfl (Jf (Ja (hK37 (Jm rfl (fun h140=>?_) (fun h140=>?_))))))))
             ·
              refine Je fun _ hK38 _=>(Jb (Jg (Jc rfl) rfl (Jg (Jq u29 rfl rfl) rfl (Jg (Ef rfl rfl) rfl (Jg (Jd rfl) rfl (Jf (Ja (hK38 (Js (Ji (Ju rfl (Res.tmp rfl) fun w hH=>?_)))))))))));replace hH:=hH.tail;replace hH:=hH.tail;replace hH:=hH.tail;replace hH:=hH.tail;replace hH:=hH.tail;replace hH:=hH.tail;replace hH:=hH.tail;replace hH:=hH.tail;replace hH:=hH.tail;replace hH:=hH.tail;replace hH:=hH.tail;replace hH:=hH.tail;replace hH:=hH.tail;replace hH:=hH.tail
              first | exact ⟨rfl,hH.below⟩ | (rw [linV_no (algC_ne h140)];exact ⟨rfl,hH.below⟩) | exact absurd rfl h140p | exact absurd rfl h140 | exact absurd hdec (of_decide_eq_true h140) | exact absurd hdec h140 | exact absurd (hqd.2 (by have:=of_decide_eq_true hg203;omega)) h140 | exact absurd (by rw [show i=kf38.length by have:=linV_len2 hAlg;omega];exact flt_min hAlg hWf) h140 | exact absurd hdr (of_decide_eq_true h140) | exact absurd hdr h140 | (exfalso;have h99:=hr3 k hkl j (by omega) (by have:=of_decide_eq_true hg270;omega);omega) | (exfalso;have h99:=of_decide_eq_true h140;omega) | (exfalso;omega) | (simp at h140;done)
             ·
              have hAlg:isAlg ka38 kf38=true:=algC_eq h140;refine Jk (Ja (JF .z (JF .z (JF .z (JF .z (JF .z (JF (.s .z) (JF (.s (.s (.s (.s .z)))) (JF (.s (.s (.s (.s (.s .z))))) (Jh .z (Jh (.s (.s (.s .z))) (Jh (.s (.s (.s (.s .z)))) (Jh (.s (.s (.s (.s .z)))) (Jh (.s (.s (.s (.s .z)))) ?_))))))))))))));refine Jh (.s (.s (.s (.s (.s .z))))) ?_;exact hMt1 () hAlg 2 rfl rfl trivial rfl rfl
            ·
             rintro _ hAlg;have hWf:=hk38.wf;have hAk:=isAlg_ok hAlg hWf;have hAn:=hAk.hn;have hAl:=hAk.hl;refine Je fun _ hK39 _=>(CJ.fixA (.s (.s .z)) fun Ho38f hleo38f hAo38f=>?_);replace hbt:=hbt.le hleo38f;have hxo38f:=(own_forms hk38.wf hAo38f);have hco38f:=own_le hAo38f.1;refine CJ.fixA (.s .z) fun Ho38d hleo38d hAo38d=>?_;replace hbt:=hbt.le hleo38d;replace hxo38f:=hxo38f.le hleo38d;have hxo38d:=own_ints hAo38d;have hco38d:=own_le hAo38d;refine CJ.fixA (.s .z) fun Ho41 hleo41 hAo41=>?_;replace hbt:=hbt.le hleo41;replace hxo38f:=hxo38f.le hleo41;replace hxo38d:=hxo38d.le hleo41;have hxo41:=own_rows hAo41;have hco41:=own_le hAo41.1;refine CJ.fixA (.s .z) fun Ho60 hleo60 hAo60=>?_;replace hbt:=hbt.le hleo60;replace hxo38f:=hxo38f.le hleo60;replace hxo38d:=hxo38d.le hleo60;replace hxo41:=hxo41.le hleo60;have hxo60:=(own_forms (qpV_wf hk38.wf) hAo60);have hco60:=own_le hAo60.1;refine CJ.fixA (.s .z) fun Ho97 hleo97 hAo97=>?_;replace hbt:=hbt.le hleo97;replace hxo38f:=hxo38f.le hleo97;replace hxo38d:=hxo38d.le hleo97;replace hxo41:=hxo41.le hleo97;replace hxo60:=hxo60.le hleo97;have hxo97:=own_ints hAo97;have hco97:=own_le hAo97;refine Jb (Jg (Jd rfl) rfl (Jf (Ja (hK39 (Je fun _ hK40 _=>(Je fun _ hK41 _=>(Jb (Jg (Jd rfl) rfl (Jf (Ja (hK41 (Jp (JH (σ:=Nat) (fun (i:Nat)=>[(27,.int .i64 (i:Int)),(26,.bool (fltK ka38 kf38 i))]) (fun (i:Nat)=>Ho97) (fun (i:Nat)=>obj g3 (.cells [.slice qd38 ka38.length cd38,.slice qf38 kf38.length cf38].toArray 27 (0,0))::L) (fun (i:Nat)=>i≤kf38.length) (fun (i:Nat)=>kf38.length - i) 0 (by omega) ⟨rfl,⟨rfl,trivial⟩⟩ rfl rfl ?_)))))))))))));rintro i hi _ hAg0;refine Je fun _ hK42 _=>(Je fun _ hK43 _=>(Jb (Jg (Jc rfl) rfl (Jg (Jc rfl) rfl (Jg (Jq u29 rfl rfl) rfl (Jg (JV rfl rfl) rfl (Jf (Ja (hK43 (Jm rfl (fun h147=>?_) (fun h147=>?_)))))))))))
             ·
              have hil:i<kf38.length:=by have:=linV_len2 hAlg;omega
              have himg:=img_both hAlg hWf hil;have hqd:=quad_both hAlg hWf hil;have hs1:=sum_one hAlg hWf hil;have hrw:=linV_row hAlg hil
              have hsumn:(rw_ (linV ka38 kf38) i).length≤1000:=by rw [hrw,linR_len];omega
              have hsumv : ∀k,0≤(rw_ (linV ka38 kf38) i).getD k 0∧(rw_ (linV ka38 kf38) i).getD k 0≤1000000:=fun k=>by rw [hrw];exact row_bd (linR_cf hAlg hWf hil) k
              have hqpl:=qp_len hAlg hWf hil
              have hq2:(qpV ka38 kf38).length=kf38.length:=by rw [qpV_yes hAlg];simp
              have hdec:decide (wlen ka38 kf38 (fm kf38 i)=1)=decide ((0:Int)<sumI (rw_ (linV ka38 kf38) i)):=by rw [himg.2];exact decide_eq_decide.2 hs1.2.symm
              refine Jk (Ja (hK42 (Je fun _ hK44 _=>(Jp (ER (σ:=Bool) (fun (b:Bool)=>[(26,.bool b)]) (fun (b:Bool)=>Ho97) (fun (b:Bool)=>obj g3 (.cells [.slice qd38 ka38.length cd38,.slice qf38 kf38.length cf38].toArray 27 (0,0))::L) (fun (b:Bool)=>b=fltK ka38 kf38 (i+1)) ?_ ?_)))))
              ·
               intro _ hMt2;refine Jb (Jg (Jc rfl) rfl (Jg (Jc rfl) rfl (JZ (jd:=151) rfl (fun hg151=>?_) (fun hg151=>?_))))
               ·
                try have hg151p:=of_decide_eq_true hg151
                refine JK (Jc rfl) rfl rfl rfl hg151 (JK (Jc rfl) rfl rfl rfl hg151 (JK (JY u29 sz24 rfl rfl rfl (by omega) hxo41.sm) rfl rfl rfl hg151 ?_));obtain ⟨qe155,ce155,he155,le155,Fe155⟩:=hxo41 i (by omega);refine JK (JR rfl he155 pl24) rfl rfl rfl hg151 (Ez fn20 rfl rfl hg151 rfl rfl fun w hH=>(sum_c Fe155 hsumn hsumv hH).mono ?_);rintro _ w ⟨rfl,hH⟩;refine ⟨_,rfl,fun a hF=>JQ hF hH ?_⟩;refine JK (Ef rfl rfl) rfl rfl rfl hg151 (Jg (JP rfl hg151 rfl) rfl (Jg (Jd rfl) rfl (Jf (Ja ?_))));exact hMt2 _ (by rw [fltK_succ,hg151];rfl) 10 rfl rfl ⟨rfl,trivial⟩ rfl rfl
               ·
                try have hg151p:=of_decide_eq_false hg151
                refine JE rfl rfl rfl hg151 (JE rfl rfl rfl hg151 (JE rfl rfl rfl hg151 (JE rfl rfl rfl hg151 (JE rfl rfl rfl hg151 (JE rfl rfl rfl hg151 (Jg (JN rfl hg151 rfl) rfl (Jg (Jd rfl) rfl (Jf (Ja ?_)))))))));exact hMt2 _ (by rw [fltK_succ,hg151];rfl) 10 rfl rfl ⟨rfl,trivial⟩ rfl rfl
              ·
               rintro b hb;refine Je fun _ hK45 _=>(Et [[], [], [1], [], [2,3], [4]] (by kernel_rfl) (Jz (fun gh=>Jn rfl At.z (by simpa [*] using ag27)) (Jz (fun gh=>Jt u27 rfl sz25 rfl) (Jz (fun gh=>Jv rfl At.z rfl pl25) (Jz (fun gh=>Jc rfl) (Jz (fun gh=>JY u25 sz43 rfl rfl rfl (by omega) hxo38f.sm) ?_))))));obtain ⟨qe165,ce165,he165,le165,Fe165⟩:=hxo38f i (by omega);refine Jz (fun gh=>JO (cs:=[_]) rfl (one_cell he165) (hxo38f.sm (i:=i) (by omega)) ag43) (Ec 6 1 foll0 (by kernel_rfl) rfl rfl fun gh=>(Er (us':=(160,_)::(161,_)::(162,_)::(163,_)::(164,_)::(165,_)::_) (L':=_) rfl rfl (Jx fn18 rfl rfl fun w hH=>(WordLengthOf_c hxo38d hxo38f Fe165 (by omega) (by omega) hL9 (by have:=hL9 i hil;omega) le165 hH).mono ?_)));rintro _ w ⟨rfl,hH⟩;refine ⟨_,rfl,fun a hF=>JQ hF hH ?_⟩;refine Jf (Ed (JG (Jc rfl) rfl (JG (JJ rfl rfl) rfl (JG (JJ rfl rfl) rfl (JG (Jd rfl) rfl (JG (Jd rfl) rfl (Ee (Ja (hK45 (Je fun _ hK46 _=>(Et [[], [], [], [1,2], [3]] (by kernel_rfl) (Jz (fun gh=>Jn rfl At.z (by simpa [*] using ag27)) (Jz (fun gh=>Jc rfl) (Jz (fun gh=>Jc rfl) (Jz (fun gh=>JY u25 sz43 rfl rfl rfl (by omega) hxo60.sm) ?_)))))))))))))));obtain ⟨qe174,ce174,he174,le174,Fe174⟩:=hxo60 i (by omega);refine Jz (fun gh=>JO (cs:=[_]) rfl (one_cell he174) (hxo60.sm (i:=i) (by omega)) ag43) (Ec 5 1 foll0 (by kernel_rfl) rfl rfl fun gh=>(Er (us':=(170,_)::(171,_)::(172,_)::(173,_)::(174,_)::_) (L':=_) rfl rfl (Jx fn18 rfl rfl fun w hH=>(WordLengthOf_c hxo38d hxo38f Fe174 (by omega) (by omega) hL9 (by omega) le174 hH).mono ?_)));rintro _ w ⟨rfl,hH⟩;refine ⟨_,rfl,fun a hF=>JQ hF hH ?_⟩;refine Jf (Ed (JG (Jc rfl) rfl (JG (JJ rfl rfl) rfl (JG (JJ rfl rfl) rfl (JG (Jd rfl) rfl (JG (Jd rfl) rfl (Ee (Ja (hK46 (Je fun _ hK47 _=>(Jb (Jg (Jc rfl) rfl (Jg (En rfl rfl) rfl (Jg (Jc rfl) rfl (JZ (jd:=180) rfl (fun hg180=>?_) (fun hg180=>?_))))))))))))))))
               ·
                try have hg180p:=of_decide_eq_true hg180
                refine JE rfl rfl rfl hg180 (JE rfl rfl rfl hg180 (JE rfl rfl rfl hg180 (JE rfl rfl rfl hg180 (JE rfl rfl rfl hg180 (JE rfl rfl rfl hg180 (JE rfl rfl rfl hg180 (JE rfl rfl rfl hg180 (JE rfl rfl rfl hg180 (Jg (JP rfl hg180 rfl) rfl (Jg (Jc rfl) rfl (JE rfl rfl rfl rfl (JE rfl rfl rfl rfl (Jg (JP rfl rfl rfl) rfl (Jg (Jc rfl) rfl ?_))))))))))))));refine JE rfl rfl rfl rfl (JE rfl rfl rfl rfl (JE rfl rfl rfl rfl (JE rfl rfl rfl rfl (JE rfl rfl rfl rfl (JE rfl rfl rfl rfl (JE rfl rfl rfl rfl (JE rfl rfl rfl rfl (EU rfl rfl rfl (EU rfl rfl rfl (JE rfl rfl rfl rfl (Jg (JP rfl rfl rfl) rfl (Jf (Ja (hK47 (Ek rfl ?_)))))))))))))));refine Je fun _ hK48 _=>(Jb (Jg (Jd rfl) rfl (Jf (Ja (hK48 (Js (JL (Ji (Ji (JL (Ji (Ju rfl (Res.tmp rfl) fun w hH=>?_))))))))))));replace hH:=hH.tail
                first | exact ⟨rfl,hH.below⟩ | (rw [linV_no (algC_ne h140)];exact ⟨rfl,hH.below⟩) | exact absurd rfl hg180p | exact absurd rfl hg180 | exact absurd hdec (of_decide_eq_true hg180) | exact absurd hdec hg180 | exact absurd (hqd.2 (by have:=of_decide_eq_true hg203;omega)) hg180 | exact absurd (by rw [show i=kf38.length by have:=linV_len2 hAlg;omega];exact flt_min hAlg hWf) hg180 | exact absurd hdr (of_decide_eq_true hg180) | exact absurd hdr hg180 | (exfalso;have h99:=hr3 k hkl j (by omega) (by have:=of_decide_eq_true hg270;omega);omega) | (exfalso;have h99:=of_decide_eq_true hg180;omega) | (exfalso;omega) | (simp at hg180;done)
               ·
                try have hg180p:=of_decide_eq_false hg180
                refine JK (Jc rfl) rfl rfl rfl hg180 (JK (Ef rfl rfl) rfl rfl rfl hg180 (JK (Jc rfl) rfl rfl rfl hg180 (JK (Jc rfl) rfl rfl rfl hg180 (JK (JY u29 sz24 rfl rfl rfl (by omega) hxo41.sm) rfl rfl rfl hg180 ?_))));obtain ⟨qe186,ce186,he186,le186,Fe186⟩:=hxo41 i (by omega);refine JK (JR rfl he186 pl24) rfl rfl rfl hg180 (Ez fn20 rfl rfl hg180 rfl rfl fun w hH=>(sum_c Fe186 hsumn hsumv hH).mono ?_);rintro _ w ⟨rfl,hH⟩;refine ⟨_,rfl,fun a hF=>JQ hF hH ?_⟩;refine JK (Em rfl rfl) rfl rfl rfl hg180 (JK (PR.neqB u4 rfl rfl) rfl rfl rfl hg180 (Jg (JN rfl hg180 rfl) rfl (Jg (Jc rfl) rfl (JZ (jd:=191) rfl (fun hg191=>?_) (fun hg191=>?_)))))
                ·
                 try have hg191p:=of_decide_eq_true hg191
                 refine JE rfl rfl rfl hg191 (JE rfl rfl rfl hg191 (Jg (JP rfl hg191 rfl) rfl (Jg (Jc rfl) rfl (JE rfl rfl rfl rfl (JE rfl rfl rfl rfl (JE rfl rfl rfl rfl (JE rfl rfl rfl rfl (JE rfl rfl rfl rfl (JE rfl rfl rfl rfl (JE rfl rfl rfl rfl (JE rfl rfl rfl rfl (EU rfl rfl rfl (EU rfl rfl rfl (JE rfl rfl rfl rfl ?_))))))))))))));refine Jg (JP rfl rfl rfl) rfl (Jf (Ja (hK47 (Ek rfl (Je fun _ hK49 _=>(Jb (Jg (Jd rfl) rfl (Jf (Ja (hK49 (Js (JL (Ji (Ji (JL (Ji ?_))))))))))))))));refine Ju rfl (Res.tmp rfl) fun w hH=>?_;replace hH:=hH.tail
                 first | exact ⟨rfl,hH.below⟩ | (rw [linV_no (algC_ne h140)];exact ⟨rfl,hH.below⟩) | exact absurd rfl hg191p | exact absurd rfl hg191 | exact absurd hdec (of_decide_eq_true hg191) | exact absurd hdec hg191 | exact absurd (hqd.2 (by have:=of_decide_eq_true hg203;omega)) hg191 | exact absurd (by rw [show i=kf38.length by have:=linV_len2 hAlg;omega];exact flt_min hAlg hWf) hg191 | exact absurd hdr (of_decide_eq_true hg191) | exact absurd hdr hg191 | (exfalso;have h99:=hr3 k hkl j (by omega) (by have:=of_decide_eq_true hg270;omega);omega) | (exfalso;have h99:=of_decide_eq_true hg191;omega) | (exfalso;omega) | (simp at hg191;done)
                ·
                 try have hg191p:=of_decide_eq_false hg191
                 refine JK (Jc rfl) rfl rfl rfl hg191 (JK (En rfl rfl) rfl rfl rfl hg191 (Jg (JN rfl hg191 rfl) rfl (Jg (Jc rfl) rfl (JZ (jd:=195) rfl (fun hg195=>?_) (fun hg195=>?_)))))
                 ·
                  try have hg195p:=of_decide_eq_true hg195
                  refine JE rfl rfl rfl hg195 (JE rfl rfl rfl hg195 (JE rfl rfl rfl hg195 (JE rfl rfl rfl hg195 (JE rfl rfl rfl hg195 (JE rfl rfl rfl hg195 (JE rfl rfl rfl hg195 (JE rfl rfl rfl hg195 (EU rfl rfl rfl (EU rfl rfl rfl (JE rfl rfl rfl hg195 (Jg (JP rfl hg195 rfl) rfl (Jf (Ja (hK47 (Ek rfl ?_)))))))))))))));refine Je fun _ hK50 _=>(Jb (Jg (Jd rfl) rfl (Jf (Ja (hK50 (Js (JL (Ji (Ji (JL (Ji (Ju rfl (Res.tmp rfl) fun w hH=>?_))))))))))));replace hH:=hH.tail
                  first | exact ⟨rfl,hH.below⟩ | (rw [linV_no (algC_ne h140)];exact ⟨rfl,hH.below⟩) | exact absurd rfl hg195p | exact absurd rfl hg195 | exact absurd hdec (of_decide_eq_true hg195) | exact absurd hdec hg195 | exact absurd (hqd.2 (by have:=of_decide_eq_true hg203;omega)) hg195 | exact absurd (by rw [show i=kf38.length by have:=linV_len2 hAlg;omega];exact flt_min hAlg hWf) hg195 | exact absurd hdr (of_decide_eq_true hg195) | exact absurd hdr hg195 | (exfalso;have h99:=hr3 k hkl j (by omega) (by have:=of_decide_eq_true hg270;omega);omega) | (exfalso;have h99:=of_decide_eq_true hg195;omega) | (exfalso;omega) | (simp at hg195;done)
                 ·
                  try have hg195p:=of_decide_eq_false hg195
                  refine JK (Jc rfl) rfl rfl rfl hg195 (JK (Jc rfl) rfl rfl rfl hg195 (JK (JY u25 sz43 rfl rfl rfl (by omega) hxo60.sm) rfl rfl rfl hg195 (JK (Ep u43 rfl sz41 rfl (hxo60.sm (i:=i) (by omega))) rfl rfl rfl hg195 ?_)));obtain ⟨qe200,ce200,he200,le200,Fe200⟩:=hxo60 i (by omega);refine JK (JR rfl he200 pl41) rfl rfl rfl hg195 (JK (Jq u41 rfl rfl) rfl rfl rfl hg195 (JK (Em rfl rfl) rfl rfl rfl hg195 (JK (Jc rfl) rfl rfl rfl hg195 (JZ (jd:=203) rfl (fun hg203=>?_) (fun hg203=>?_)))))
                  ·
                   try have hg203p:=of_decide_eq_true hg203
                   refine JK (Jc rfl) rfl rfl rfl hg203 (JK (En rfl rfl) rfl rfl rfl hg203 (JK (JP rfl hg203 rfl) rfl rfl rfl hg195 (Jg (JN rfl hg195 rfl) rfl (Jf (Ja (hK47 (Jm rfl (fun hc207=>?_) (fun hc207=>?_))))))))
                   ·
                    refine Je fun _ hK51 _=>(Jb (Jg (Jd rfl) rfl (Jf (Ja (hK51 (Js (JL (Ji (Ji (JL (Ji (Ju rfl (Res.tmp rfl) fun w hH=>?_))))))))))));replace hH:=hH.tail
                    first | exact ⟨rfl,hH.below⟩ | (rw [linV_no (algC_ne h140)];exact ⟨rfl,hH.below⟩) | exact absurd rfl hc207p | exact absurd rfl hc207 | exact absurd hdec (of_decide_eq_true hc207) | exact absurd hdec hc207 | exact absurd (hqd.2 (by have:=of_decide_eq_true hg203;omega)) hc207 | exact absurd (by rw [show i=kf38.length by have:=linV_len2 hAlg;omega];exact flt_min hAlg hWf) hc207 | exact absurd hdr (of_decide_eq_true hc207) | exact absurd hdr hc207 | (exfalso;have h99:=hr3 k hkl j (by omega) (by have:=of_decide_eq_true hg270;omega);omega) | (exfalso;have h99:=of_decide_eq_true hc207;omega) | (exfalso;omega) | (simp at hc207;done)
                   ·
                    refine Jk (JD (Ja (hK44 (Jb (Jg (Jc rfl) rfl (Jg (Jy rfl rfl (by first | exact nw _ (by omega) | rfl)) rfl (Jg (Jd rfl) rfl (Jf (Ja ?_)))))))));exact hAg0 (i+1) (by show i+1≤kf38.length;omega) (by show kf38.length - (i+1)<kf38.length - i;omega) 63 rfl rfl ⟨rfl,⟨(congrArg (fun z=>some (Value.bool z)) hb),trivial⟩⟩ rfl rfl
                  ·
                   try have hg203p:=of_decide_eq_false hg203
                   refine JE rfl rfl rfl hg203 (JE rfl rfl rfl hg203 (JK (JN rfl hg203 rfl) rfl rfl rfl hg195 (Jg (JN rfl hg195 rfl) rfl (Jf (Ja (hK47 (Ew rfl (Jk (JD (Ja (hK44 (Jb (Jg (Jc rfl) rfl (Jg (Jy rfl rfl (by first | exact nw _ (by omega) | rfl)) rfl (Jg (Jd rfl) rfl (Jf ?_))))))))))))))));refine Ja ?_;exact hAg0 (i+1) (by show i+1≤kf38.length;omega) (by show kf38.length - (i+1)<kf38.length - i;omega) 63 rfl rfl ⟨rfl,⟨(congrArg (fun z=>some (Value.bool z)) hb),trivial⟩⟩ rfl rfl
             ·
              refine JI (Jl (Jl (JT (Ja (hK40 (Je fun _ hK52 _=>(Je fun _ hK53 _=>(Jb (Jg (Jc rfl) rfl (Jg (Jc rfl) rfl (Jg (PR.neqB u4 rfl rfl) rfl (Jf (Ja (hK53 (Jm rfl (fun hc210=>?_) (fun hc210=>?_))))))))))))))))
              ·
               refine Je fun _ hK54 _=>(Jb (Jg (Jd rfl) rfl (Jf (Ja (hK54 (Js (Ji (Ju rfl (Res.tmp rfl) fun w hH=>?_))))))));replace hH:=hH.tail
               first | exact ⟨rfl,hH.below⟩ | (rw [linV_no (algC_ne h140)];exact ⟨rfl,hH.below⟩) | exact absurd rfl hc210p | exact absurd rfl hc210 | exact absurd hdec (of_decide_eq_true hc210) | exact absurd hdec hc210 | exact absurd (hqd.2 (by have:=of_decide_eq_true hg203;omega)) hc210 | exact absurd (by rw [show i=kf38.length by have:=linV_len2 hAlg;omega];exact flt_min hAlg hWf) hc210 | exact absurd hdr (of_decide_eq_true hc210) | exact absurd hdr hc210 | (exfalso;have h99:=hr3 k hkl j (by omega) (by have:=of_decide_eq_true hg270;omega);omega) | (exfalso;have h99:=of_decide_eq_true hc210;omega) | (exfalso;omega) | (simp at hc210;done)
              ·
               refine Jk (Ja (hK52 (Je fun _ hK55 _=>(Je fun _ hK56 _=>(Jb (Jg (Jc rfl) rfl (Jg (En rfl rfl) rfl (Jf (Ja (hK56 (Jm rfl (fun h212=>?_) (fun h212=>?_))))))))))))
               ·
                refine Je fun _ hK57 _=>(Jb (Jg (Jd rfl) rfl (Jf (Ja (hK57 (Js (Ji (Ju rfl (Res.tmp rfl) fun w hH=>?_))))))));replace hH:=hH.tail
                first | exact ⟨rfl,hH.below⟩ | (rw [linV_no (algC_ne h140)];exact ⟨rfl,hH.below⟩) | exact absurd rfl h212p | exact absurd rfl h212 | exact absurd hdec (of_decide_eq_true h212) | exact absurd hdec h212 | exact absurd (hqd.2 (by have:=of_decide_eq_true hg203;omega)) h212 | exact absurd (by rw [show i=kf38.length by have:=linV_len2 hAlg;omega];exact flt_min hAlg hWf) h212 | exact absurd hdr (of_decide_eq_true h212) | exact absurd hdr h212 | (exfalso;have h99:=hr3 k hkl j (by omega) (by have:=of_decide_eq_true hg270;omega);omega) | (exfalso;have h99:=of_decide_eq_true h212;omega) | (exfalso;omega) | (simp at h212;done)
               ·
                have hro:rnkOk ka38 kf38=true:=rnkC_ok hAlg h212;have hrl:(rnkV ka38 kf38).length=ka38.length:=rnkV_ok hAlg hro;refine Jk (Ja (hK55 (Je fun _ hK58 _=>(Je fun _ hK59 _=>(Jb (Jg (Jd rfl) rfl (Jf (Ja (hK59 (Jp (JH (σ:=Nat) (fun (a:Nat)=>[(32,.int .i64 (a:Int))]) (fun (a:Nat)=>Ho97) (fun (a:Nat)=>obj g3 (.cells [.slice qd38 ka38.length cd38,.slice qf38 kf38.length cf38].toArray 27 (0,0))::L) (fun (a:Nat)=>a≤ka38.length) (fun (a:Nat)=>ka38.length - a) 0 (by omega) ⟨rfl,trivial⟩ rfl rfl ?_)))))))))));rintro a ha _ hAg1;refine Je fun _ hK60 _=>(Je fun _ hK61 _=>(Jb (Jg (Jc rfl) rfl (Jg (Jc rfl) rfl (Jg (Jq u24 rfl rfl) rfl (Jg (JV rfl rfl) rfl (Jf (Ja (hK61 (Jm rfl (fun h216=>?_) (fun h216=>?_)))))))))))
                ·
                 have hal:a<ka38.length:=by omega
                 obtain ⟨hr1,hr2,hr3⟩:=rank_img hAlg hWf hro hal;have hil4:=hk38.len a (by omega);have hdr:decide ((rnkV ka38 kf38).getD a 0=1)=decide (((fm kf38 a).length:Int)=0):=decide_eq_decide.2 ⟨fun h=>by have:=hr2.1 h;omega,fun h=>hr2.2 (by omega)⟩;refine Jk (Ja (hK60 (Je fun _ hK62 _=>(Jp (Je fun _ hK63 _=>(Je fun _ hK64 _=>(Ey foll0 (by kernel_rfl) (JG (Jc rfl) rfl (JG (Jc rfl) rfl (JG (JY u24 sz2 rfl rfl rfl (by omega) hxo97.sm) rfl (JG (JR rfl (hxo97 _ (by omega)) pl2) rfl (JG (JV rfl rfl) rfl (JG (Jc rfl) rfl (JS.splitB (jd:=224) rfl (fun hg224=>?_) (fun hg224=>?_)))))))))))))))
                 ·
                  try have hg224p:=of_decide_eq_true hg224
                  refine EH rfl rfl rfl hg224 (EH rfl rfl rfl hg224 (EH rfl rfl rfl hg224 (EH rfl rfl rfl hg224 (EH rfl rfl rfl hg224 (EH rfl rfl rfl hg224 (EH rfl rfl rfl hg224 (EH rfl rfl rfl hg224 (EH rfl rfl rfl hg224 (EH rfl rfl rfl hg224 (EH rfl rfl rfl hg224 (EH rfl rfl rfl hg224 (EH rfl rfl rfl hg224 (EH rfl rfl rfl hg224 (JG (JP rfl hg224 rfl) rfl ?_))))))))))))));refine Ee (Ja (hK64 (Ek rfl (Je fun _ hK65 _=>(Jb (Jg (Jd rfl) rfl (Jf (Ja (hK65 (Js (Ji (JL (Ji (Ji (JL (Ji ?_))))))))))))))));refine Ju rfl (Res.tmp rfl) fun w hH=>?_;replace hH:=hH.tail
                  first | exact ⟨rfl,hH.below⟩ | (rw [linV_no (algC_ne h140)];exact ⟨rfl,hH.below⟩) | exact absurd rfl hg224p | exact absurd rfl hg224 | exact absurd hdec (of_decide_eq_true hg224) | exact absurd hdec hg224 | exact absurd (hqd.2 (by have:=of_decide_eq_true hg203;omega)) hg224 | exact absurd (by rw [show i=kf38.length by have:=linV_len2 hAlg;omega];exact flt_min hAlg hWf) hg224 | exact absurd hdr (of_decide_eq_true hg224) | exact absurd hdr hg224 | (exfalso;have h99:=hr3 k hkl j (by omega) (by have:=of_decide_eq_true hg270;omega);omega) | (exfalso;have h99:=of_decide_eq_true hg224;omega) | (exfalso;omega) | (simp at hg224;done)
                 ·
                  try have hg224p:=of_decide_eq_false hg224
                  refine EF (Jc rfl) rfl rfl rfl hg224 (EF (Jc rfl) rfl rfl rfl hg224 (EF (JY u24 sz2 rfl rfl rfl (by omega) hxo97.sm) rfl rfl rfl hg224 (EF (JR rfl (hxo97 _ (by omega)) pl2) rfl rfl rfl hg224 (EF (Ef rfl rfl) rfl rfl rfl hg224 (EF (Jt u27 rfl sz25 rfl) rfl rfl rfl hg224 (EF (Jv rfl At.z rfl pl25) rfl rfl rfl hg224 (EF (Jc rfl) rfl rfl rfl hg224 (EF (JY u25 sz43 rfl rfl rfl (by omega) hxo38f.sm) rfl rfl rfl hg224 (EF (Ep u43 rfl sz41 rfl (hxo38f.sm (i:=a) (by omega))) rfl rfl rfl hg224 ?_)))))))));obtain ⟨qe235,ce235,he235,le235,Fe235⟩:=hxo38f a (by omega);refine EF (JR rfl he235 pl41) rfl rfl rfl hg224 (EF (Jq u41 rfl rfl) rfl rfl rfl hg224 (EF (Ef rfl rfl) rfl rfl rfl hg224 (EF (PR.neqB u4 rfl rfl) rfl rfl rfl hg224 (JG (JN rfl hg224 rfl) rfl (Ee (Ja (hK64 (Jm rfl (fun hc239=>?_) (fun hc239=>?_)))))))))
                  ·
                   refine Je fun _ hK66 _=>(Jb (Jg (Jd rfl) rfl (Jf (Ja (hK66 (Js (Ji (JL (Ji (Ji (JL (Ji (Ju rfl (Res.tmp rfl) fun w hH=>?_)))))))))))));replace hH:=hH.tail
                   first | exact ⟨rfl,hH.below⟩ | (rw [linV_no (algC_ne h140)];exact ⟨rfl,hH.below⟩) | exact absurd rfl hc239p | exact absurd rfl hc239 | exact absurd hdec (of_decide_eq_true hc239) | exact absurd hdec hc239 | exact absurd (hqd.2 (by have:=of_decide_eq_true hg203;omega)) hc239 | exact absurd (by rw [show i=kf38.length by have:=linV_len2 hAlg;omega];exact flt_min hAlg hWf) hc239 | exact absurd hdr (of_decide_eq_true hc239) | exact absurd hdr hc239 | (exfalso;have h99:=hr3 k hkl j (by omega) (by have:=of_decide_eq_true hg270;omega);omega) | (exfalso;have h99:=of_decide_eq_true hc239;omega) | (exfalso;omega) | (simp at hc239;done)
                  ·
                   refine Jk (Ja (hK63 (Je fun _ hK67 _=>(Jb (Jg (Jd rfl) rfl (Jf (Ja (hK67 (Jp (JH (σ:=Nat) (fun (k:Nat)=>[(33,.int .i64 (k:Int))]) (fun (k:Nat)=>Ho97) (fun (k:Nat)=>obj g3 (.cells [.slice qd38 ka38.length cd38,.slice qf38 kf38.length cf38].toArray 27 (0,0))::L) (fun (k:Nat)=>k≤(fm kf38 a).length) (fun (k:Nat)=>(fm kf38 a).length - k) 0 (by omega) ⟨rfl,trivial⟩ rfl rfl ?_))))))))));rintro k hk _ hAg2;refine Je fun _ hK68 _=>(Je fun _ hK69 _=>(Jb (Jg (Jc rfl) rfl (Jg (Jt u27 rfl sz25 rfl) rfl (Jg (Jv rfl At.z rfl pl25) rfl (Jg (Jc rfl) rfl (Jg (JY u25 sz43 rfl rfl rfl (by omega) hxo38f.sm) rfl (Jg (Ep u43 rfl sz41 rfl (hxo38f.sm (i:=a) (by omega))) rfl ?_))))))));obtain ⟨qe246,ce246,he246,le246,Fe246⟩:=hxo38f a (by omega);refine Jg (JR rfl he246 pl41) rfl (Jg (Jq u41 rfl rfl) rfl (Jg (JV rfl rfl) rfl (Jf (Ja (hK69 (Jm rfl (fun h248=>?_) (fun h248=>?_)))))))
                   ·
                    have hkl:k<(fm kf38 a).length:=by omega
                    refine Jk (Ja (hK68 (Je fun _ hK70 _=>(Jp (Je fun _ hK71 _=>(Jb (Jg (Jd rfl) rfl (Jf (Ja (hK71 (Jp (JH (σ:=Nat) (fun (j:Nat)=>[(34,.int .i64 (j:Int))]) (fun (j:Nat)=>Ho97) (fun (j:Nat)=>obj g3 (.cells [.slice qd38 ka38.length cd38,.slice qf38 kf38.length cf38].toArray 27 (0,0))::L) (fun (j:Nat)=>j≤ka38.length) (fun (j:Nat)=>ka38.length - j) 0 (by omega) ⟨rfl,trivial⟩ rfl rfl ?_))))))))))));rintro j hj _ hAg3;refine Je fun _ hK72 _=>(Je fun _ hK73 _=>(Jb (Jg (Jc rfl) rfl (Jg (Jc rfl) rfl (Jg (Jq u24 rfl rfl) rfl (Jg (JV rfl rfl) rfl (Jf (Ja (hK73 (Jm rfl (fun h254=>?_) (fun h254=>?_)))))))))))
                    ·
                     have hjl:j<ka38.length:=by omega
                     refine Jk (Ja (hK72 (Je fun _ hK74 _=>(Jp (Je fun _ hK75 _=>(Ey foll0 (by kernel_rfl) (JG (Jt u27 rfl sz25 rfl) rfl (JG (Jv rfl At.z rfl pl25) rfl (JG (Jc rfl) rfl (JG (JY u25 sz43 rfl rfl rfl (by omega) hxo38f.sm) rfl (JG (Ep u43 rfl sz41 rfl (hxo38f.sm (i:=a) (by omega))) rfl ?_)))))))))));obtain ⟨qe262,ce262,he262,le262,Fe262⟩:=hxo38f a (by omega);refine JG (JR rfl he262 pl41) rfl (JG (Jc rfl) rfl (JG (Jc rfl) rfl (JG (Eo u41 sz52 rfl rfl rfl (by omega) Fe262.sm) rfl (JG (Ep u52 rfl sz50 rfl (Fe262.sm (i:=k) (by omega))) rfl (JG (PR.idxP1 u50 sz5 rfl (Fe262.sm (i:=k) (by omega)) rfl rfl (by omega)) rfl (JG (JR rfl (Fe262.byte (by omega) (by omega)) pl5) rfl (JG (Em rfl rfl) rfl (JG (Jc rfl) rfl (JS.splitB (jd:=270) rfl (fun hg270=>?_) (fun hg270=>?_))))))))))
                     ·
                      try have hg270p:=of_decide_eq_true hg270
                      refine EF (Jc rfl) rfl rfl rfl hg270 (EF (Jc rfl) rfl rfl rfl hg270 (EF (JY u24 sz2 rfl rfl rfl (by omega) hxo97.sm) rfl rfl rfl hg270 (EF (JR rfl (hxo97 _ (by omega)) pl2) rfl rfl rfl hg270 (EF (Jc rfl) rfl rfl rfl hg270 (EF (Jc rfl) rfl rfl rfl hg270 (EF (JY u24 sz2 rfl rfl rfl (by omega) hxo97.sm) rfl rfl rfl hg270 (EF (JR rfl (hxo97 _ (by omega)) pl2) rfl rfl rfl hg270 (EF (PR.geq rfl rfl) rfl rfl rfl hg270 (JG (JP rfl hg270 rfl) rfl (Ee (Ja (hK75 (Jm rfl (fun hc280=>?_) (fun hc280=>?_))))))))))))))
                      ·
                       refine Je fun _ hK76 _=>(Jb (Jg (Jd rfl) rfl (Jf (Ja (hK76 (Js (JL (Ji (Ji (JL (JL (Ji (Ji (JL (JL ?_)))))))))))))));refine Ji (Ji (JL (Ji (Ju rfl (Res.tmp rfl) fun w hH=>?_))));replace hH:=hH.tail
                       first | exact ⟨rfl,hH.below⟩ | (rw [linV_no (algC_ne h140)];exact ⟨rfl,hH.below⟩) | exact absurd rfl hc280p | exact absurd rfl hc280 | exact absurd hdec (of_decide_eq_true hc280) | exact absurd hdec hc280 | exact absurd (hqd.2 (by have:=of_decide_eq_true hg203;omega)) hc280 | exact absurd (by rw [show i=kf38.length by have:=linV_len2 hAlg;omega];exact flt_min hAlg hWf) hc280 | exact absurd hdr (of_decide_eq_true hc280) | exact absurd hdr hc280 | (exfalso;have h99:=hr3 k hkl j (by omega) (by have:=of_decide_eq_true hg270;omega);omega) | (exfalso;have h99:=of_decide_eq_true hc280;omega) | (exfalso;omega) | (simp at hc280;done)
                      ·
                       refine Jk (JD (Ja (hK74 (Jb (Jg (Jc rfl) rfl (Jg (Jy rfl rfl (by first | exact nw _ (by omega) | rfl)) rfl (Jg (Jd rfl) rfl (Jf (Ja ?_)))))))));exact hAg3 (j+1) (by show j+1≤ka38.length;omega) (by show ka38.length - (j+1)<ka38.length - j;omega) 32 rfl rfl ⟨rfl,trivial⟩ rfl rfl
                     ·
                      try have hg270p:=of_decide_eq_false hg270
                      refine EH rfl rfl rfl hg270 (EH rfl rfl rfl hg270 (EH rfl rfl rfl hg270 (EH rfl rfl rfl hg270 (EH rfl rfl rfl hg270 (EH rfl rfl rfl hg270 (EH rfl rfl rfl hg270 (EH rfl rfl rfl hg270 (EH rfl rfl rfl hg270 (JG (JN rfl hg270 rfl) rfl (Ee (Ja (hK75 (Ew rfl (Jk (JD ?_)))))))))))))));refine Ja (hK74 (Jb (Jg (Jc rfl) rfl (Jg (Jy rfl rfl (by first | exact nw _ (by omega) | rfl)) rfl (Jg (Jd rfl) rfl (Jf (Ja ?_)))))));exact hAg3 (j+1) (by show j+1≤ka38.length;omega) (by show ka38.length - (j+1)<ka38.length - j;omega) 32 rfl rfl ⟨rfl,trivial⟩ rfl rfl
                    ·
                     refine JI (Jl (Jl (JT (JD (Ja (hK70 (Jb (Jg (Jc rfl) rfl (Jg (Jy rfl rfl (by first | exact nw _ (by omega) | rfl)) rfl (Jg (Jd rfl) rfl (Jf (Ja ?_))))))))))));exact hAg2 (k+1) (by show k+1≤(fm kf38 a).length;omega) (by show (fm kf38 a).length - (k+1)<(fm kf38 a).length - k;omega) 19 rfl rfl ⟨rfl,trivial⟩ rfl rfl
                   ·
                    refine JI (Jl (Jl (JT (JD (Ja (hK62 (Jb (Jg (Jc rfl) rfl (Jg (Jy rfl rfl (by first | exact nw _ (by omega) | rfl)) rfl (Jg (Jd rfl) rfl (Jf (Ja ?_))))))))))));exact hAg1 (a+1) (by show a+1≤ka38.length;omega) (by show ka38.length - (a+1)<ka38.length - a;omega) 40 rfl rfl ⟨rfl,trivial⟩ rfl rfl
                ·
                 refine JI (Jl (Jl (JT (Ja (hK58 (Je fun _ hK77 _=>(Jb (Jg (Jd rfl) rfl (Jf (Ja (hK77 (Js (Ju rfl (Res.tmp rfl) fun w hH=>?_)))))))))))));replace hH:=hH.tail
                 first | exact ⟨rfl,hH.below⟩ | (rw [linV_no (algC_ne h140)];exact ⟨rfl,hH.below⟩) | exact absurd rfl h216p | exact absurd rfl h216 | exact absurd hdec (of_decide_eq_true h216) | exact absurd hdec h216 | exact absurd (hqd.2 (by have:=of_decide_eq_true hg203;omega)) h216 | exact absurd (by rw [show i=kf38.length by have:=linV_len2 hAlg;omega];exact flt_min hAlg hWf) h216 | exact absurd hdr (of_decide_eq_true h216) | exact absurd hdr h216 | (exfalso;have h99:=hr3 k hkl j (by omega) (by have:=of_decide_eq_true hg270;omega);omega) | (exfalso;have h99:=of_decide_eq_true h216;omega) | (exfalso;omega) | (simp at h216;done)
end Go.Proofs.YtffgojlocbafhaaGreat.G
namespace Go.Proofs.YtffgojlocbafhaaGreat.fnAlgebraParts
open Go.ChangeShapes Go.WideShapes Go.ChangeAt Go.RowKit
open Go.Proofs.YtffgojlocbafhaaGreat.G
theorem u22:Tryz.prog.underlying 22=some (TypeDesc.slice 5):=by kernel_rfl
theorem u5:Tryz.prog.underlying 5=some (TypeDesc.int .u8):=by kernel_rfl
theorem u4:Tryz.prog.underlying 4=some (TypeDesc.bool):=by kernel_rfl
theorem own:ownKnob Tryz.prog.godebug=none:=by kernel_rfl
theorem lifted (os:Os) (started:os.Started) (H:Type) (enc:TypeId × Value→H):ReturnsInHanded {} Tryz.checked os 3 .any (Rows.fnAlgebraPartsSpec.pre6 enc Tryz.prog Tryz.f3 Rows.fnAlgebraPartsRow.domain false) (Rows.fnAlgebraPartsSpec.post enc Tryz.prog Tryz.f3 false true false false):=by
 refine returnsInHanded_of_change_sized (C:=Tryz.checked) own started (by kernel_rfl) Tryz.func3
  (ChangeSpec.witness6 (enc:=enc) (C:=Tryz.checked) false ⟨#[],#[.slice none 0 0], []⟩ 12 (by kernel_rfl) (by kernel_rfl) (by kernel_rfl) (by kernel_rfl)) ?_
 intro W base args ds gs before hval0 hW hcnd hsz0 _;have hval : ∀(j:Nat) t v,Tryz.f3.params[j]? = some t→args[j]? = some v→Value.okWide Tryz.prog W .any base t v:=hval0;have hW':=hW;obtain ⟨p,q,hA0,hV,rfl,hfz,hnd⟩:=hW;have hA:DataW.TrodAll enc Tryz.prog W 0 (fun _=>true) true Tryz.f3.params.toList args.toList ds p:=hA0;rw [Tryz.params3] at hA hval;obtain ⟨v0,JX,d0,ds0,p0,q0,hargs,rfl,rfl,h0,r0⟩:=trodAll_cons hA;obtain ⟨rfl,rfl,rfl⟩:=trodAll_nil r0
 obtain rfl:args = #[v0]:=by cases args;simp_all
 obtain ⟨rfl,rfl⟩:=trodVars_none hV;obtain ⟨q0,xs0,c0,rfl,X0,bk0⟩:=openV_bytes u22 u5 (by kernel_rfl) (hval 0 22 v0 rfl rfl) h0;clear hA0 hval0 hsz0;refine ((lawParts_c X0 bk0 (Hp.start (H:=hp W) fun _ _ h=>h)).mono fun e W' ⟨he,bel⟩=>?_);subst he;exact ⟨_,rfl,law_post (f:=Tryz.f3) (by kernel_rfl) (by kernel_rfl) rfl rfl u4 rfl hW' bel⟩
theorem joined:joinedFacts Tryz.prog 3 Tryz.f3 Rows.fnAlgebraPartsSpec Rows.fnAlgebraPartsRow=true:=by
 unfold joinedFacts;simp only [Bool.and_eq_true]
 repeat' apply And.intro
 all_goals first
  | with_reducible exact Facts.fEnter
  | with_reducible exact Facts.fLaid
  | with_reducible exact Facts.fMaps
  | with_reducible exact Facts.fHeard
  | (rw [Facts.fMake];rfl)
  | (rw [Facts.fLift];rfl)
  | (rw [Facts.fKeys];rfl)
  | (rw [Facts.fStops];rfl)
  | (rw [Facts.fStopK];rfl)
  | as_aux_lemma=>kernel_rfl
theorem over:Rows.fnAlgebraPartsRow.holds Tryz.pinned (OpenSpec.ofChange Rows.fnAlgebraPartsSpec):=
 OpenClaim.holds_of_wide 3 Tryz.f3 rfl rfl rfl rfl rfl rfl rfl ⟨rfl,rfl,rfl,rfl,rfl⟩ rfl rfl rfl rfl rfl (by as_aux_lemma=>kernel_rfl) Tryz.func3 joined
  (of_decide_eq_true (by as_aux_lemma=>kernel_rfl)) (by unfold Func.isWrapper;first | (rw [if_pos (by decide +kernel)];kernel_rfl) | (rw [if_neg (by decide +kernel)];exact ⟨rfl,rfl⟩))
  (fun os started H enc _=>lifted os started H enc)
theorem proved:Rows.FnAlgebraPartsSaid:=over
#print axioms proved
end Go.Proofs.YtffgojlocbafhaaGreat.fnAlgebraParts
namespace Go.Proofs.YtffgojlocbafhaaGreat
theorem fnAlgebraParts_holds:Rows.FnAlgebraPartsSaid:=fnAlgebraParts.proved
end Go.Proofs.YtffgojlocbafhaaGreat
