/- A part of the walk of one law: what the functions compute. No condition. -/
import Derived.Test.YtffgojlocbafhaaGreatDoorRows
import Derived.Test.YtffgojlocbafhaaGreatDoorProg
import Derived.WalkKit
import Derived.KernelRfl
import Derived.JoinedOf
import Derived.Maps.AppendAt
import Derived.Still
import Derived.ProofKit
import Derived.OpenShut
import Derived.StillTail
import Derived.Deep.Upon
import Derived.WalkSpells
import Derived.Maps.Range
import Derived.Laws.Entries
import Derived.Laws.StructEq
import Derived.DeepKeys4
import Derived.Laws.Concat
import Derived.Laws.IdiomStrings
import Derived.Laws.Strings
import Derived.Lib.ItoaNum
import Derived.Lib.Join
import Derived.Lib.LaidTab
import Derived.Lib.SplitLaws
import Derived.Lib.AtoiTie
import Derived.Lib.ParseIntBTie
import Derived.Shelf.Strings.Builder1
import Derived.Shelf.Strings.Builder2
import Derived.Shelf.Strings.OnBuilder
import Derived.Shelf.Strings.BuilderF
import Derived.Shelf.Strings.BuilderK
import Derived.Shelf.Strconv.Atoi
import Derived.Shelf.Strconv.Itoa0
import Derived.Shelf.Strconv.Itoa1
import Derived.Shelf.LaysM
import Derived.Shelf.Strconv.Itoa2
import Derived.Shelf.Strconv.Itoa3
import Derived.Shelf.Strconv.Itoa4
import Derived.Shelf.Strconv.AtoiErrFast
import Derived.Shelf.Strconv.ParseIntEmpty
import Derived.Shelf.Strconv.AtoiFail
import Derived.Shelf.Strconv.Clone
import Derived.Shelf.Strconv.SyntaxError
import Derived.Shelf.LaysC
import Derived.Shelf.Strconv.ToError
import Derived.Shelf.Strconv.Lower
import Derived.Shelf.Strconv.ParseUint10
import Derived.Shelf.Strconv.ParseUint10Empty
import Derived.Shelf.Strconv.ParseUint10Any
import Derived.Shelf.Strconv.ParseInt10
import Derived.Shelf.Strconv.AtoiLong
import Derived.Shelf.Strconv.AtoiInnerAll
import Derived.Shelf.Strconv.RangeError
import Derived.Shelf.Strconv.ToErrorRange
import Derived.Shelf.Strconv.AtoiAll
import Derived.Shelf.Strconv.ParseUintEmpty
import Derived.Shelf.Strconv.ParseUint10b64
import Derived.Shelf.Strconv.ParseUint10b32
import Derived.Shelf.Strconv.ParseUint10b16
import Derived.Shelf.Strconv.ParseUint10b8
import Derived.Shelf.Strconv.ParseUint10At
import Derived.Shelf.Strconv.ParseInt10At64
import Derived.Shelf.Strconv.ParseInt10At32
import Derived.Shelf.Strconv.ParseInt10At16
import Derived.Shelf.Strconv.ParseInt10At8
import Derived.Shelf.Strconv.ParseInt10All
import Derived.Shelf.Strconv.ParseIntPublic10
import Derived.Shelf.Strings.Search1
import Derived.Shelf.Strings.Search2
import Derived.Shelf.Strings.Search3
import Derived.Shelf.Strings.Cut
import Derived.Shelf.Strings.Count
import Derived.Shelf.Strings.Shaped
import Derived.Shelf.Strings.Split
import Derived.Shelf.Unicode.DecodeSlow
import Derived.Laws.Strings2
import Derived.Laws.Strings3
import Derived.Laws.Slices
import Derived.Lib.AtoiErrMem
import Derived.Lib.SmallJoins
import Derived.WalkSmall
import Derived.WideLaws
import Derived.Lib.AppendIntMem
import Derived.Test.YtffgojlocbafhaaGreatDoorCards
import Derived.Test.YtffgojlocbafhaaGreatDoorTie
import Derived.LaidMore
import Derived.Stop.Joined
import Derived.Stop.LaidErr
import Derived.SevenTiedAt
import Derived.MakeChecks
import Derived.Shelf.Vars
import Derived.Lay
import Derived.ChangeOld
import Derived.Below
import Derived.SizedLaws
import Derived.Test.YtffgojlocbafhaaGreatDoorPAtxf
set_option linter.unusedVariables false
set_option linter.unusedSimpArgs false
set_option maxRecDepth 10000
set_option maxHeartbeats 8000000
open Nat (reduceEqDiff reduceSub reduceAdd)
namespace Go.Proofs.YtffgojlocbafhaaGreatDoor.G
open Go Go.RowKit
theorem fn32:Fn Tryz.prog 32:=⟨_,Tryz.func32,by kernel_rfl,rfl⟩
theorem fn33:Fn Tryz.prog 33:=⟨_,Tryz.func33,by kernel_rfl,rfl⟩
theorem fn76:Fn Tryz.prog 76:=⟨_,Tryz.func76,by kernel_rfl,rfl⟩
theorem allP_wf {ds:List Int} {ws:List (List UInt8)} {fs:List (List Term)} (h:allO (fun w=>rdP ds (imW w)) ws=some fs):Wfss fs∧∀i,(fm fs i).length≤400:=by
 rw [rdP_rdO] at h;have hl:=allO_len h
 have key : ∀i f,fs[i]? = some f→okR ds (imW (ws.getD i [])) f:=fun i f hf=>by
  obtain ⟨x,h1,h2⟩:=allO_list (g:=id) h i (by have:=fm_lt hf;omega);rw [List.map_id,hf] at h2;simp only [id,Option.some.injEq] at h2;rw [h2];exact rdO_ok h1
 refine ⟨fun f hf=>?_,fun i=>?_⟩
 ·obtain ⟨i,hi,rfl⟩:=List.getElem_of_mem hf;exact (key i _ (List.getElem?_eq_getElem hi)).2.1
 ·rcases Nat.lt_or_ge i fs.length with hi | hi
  ·have h1:=key i _ (List.getElem?_eq_getElem hi);rw [fm_some (List.getElem?_eq_getElem hi)];exact isForm_len4 h1.1
  ·unfold fm;rw [List.getD_eq_getElem?_getD,List.getElem?_eq_none hi]
   simp
theorem readAlgebra_c {B:World} {H0 H:HP} {L:List SA} {w:World} {t:List UInt8} (hl:t.length≤4294967280) (hB:LbOk H) (hT:TabOk Tryz.prog nmT H) (hH:Hp B H0 H L w):Calls Tryz.prog 32 [sV t].toArray w fun e w'=>∃qd cd qf cf vs,e = .returned (.tuple #[.agg [.slice qd (raI t).1.length cd,.slice qf (raI t).2.1.length cf].toArray,.bool (raI t).2.2])∧Hp B H0 H (own 2 1 qd (raI t).1.length cd (intsC (raI t).1)::ownFs 42 89 qf cf vs (raI t).2.1::L) w':=by
 refine JD Tryz.func32 rfl 96 rfl rfl [(0,sV t)] rfl hH ?_;clear hH;have hPl:=spl_len 59 t;have hPm:=fun x (hx:x∈(spl 59 t))=>spl_mem 59 t x hx;refine Jd fun _ hK1 _=>(Jb (JG ze27 rfl fun g2=>(Jg (Je rfl) rfl (Jf (Ja (hK1 (Jd fun _ hK2 _=>(Jb (EG 2 1 (EG 42 1 (J.ts0 89 (Jg (JQ bz27) rfl (JG ze27 rfl fun g4=>(Jk rfl rfl (by first | exact bytesC_one _ | exact intsC_one _ | exact Term.c_one _ | simp [Value.oneCell']) (by simpa [*] using sz27) (by simp [*]) At.z (Jf ?_)))))))))))))));refine Ja (hK2 (Jd fun _ hK3 _=>(Jd fun _ hK4 _=>(Jb (Jg (Jc rfl) rfl (Jg (EU rfl rfl) rfl (Jf (Ja (hK4 (Jp rfl (fun h22=>?_) (fun h22=>?_)))))))))))
 ·
  refine Jd fun _ hK5 _=>(Jb (Jg (Jl rfl At.z (by simpa [*] using ag27)) rfl (Jk rfl rfl (by first | exact bytesC_one _ | exact intsC_one _ | exact Term.c_one _ | simp [Value.oneCell']) (by simpa [*] using sz27) (by simp [*]) (.s (.s (.s (.s .z)))) (Jg (Je rfl) rfl (Jf (Ja (hK5 (Jt (Jn (JV rfl (Res.agg rfl (.s (.s (.s (.s .z)))) (by simpa [*] using ag27)) (Res.tmp rfl) fun w hH=>?_))))))))));replace hH:=hH.sublist (.cons _ (.cons _ (.cons _ (.cons _ (.cons _ (List.Sublist.refl _))))));rw [raI_0 h22];exact ⟨none,0,none,0,nilVs,rfl,(hH.ownFsNil 42 89).own0 2 1⟩
 ·
  refine Jo (Ja (hK3 (Jd fun _ hK6 _=>(Jb (Jg (Jc rfl) rfl (Jz fn73 rfl rfl fun w hH=>(split_c (s:=t) (c:=59) (by omega) hB hH).mono ?_))))));rintro _ w ⟨qo25,co25,rfl,hH⟩;refine ⟨_,rfl,fun a hF=>JL hF hH ?_⟩;refine Jg (Je rfl) rfl (Jf (Ja (hK6 (Jd fun _ hK7 _=>(Jd fun _ hK8 _=>(Jb (Jg (Jc rfl) rfl (Jg (Jr u95 rfl rfl) rfl (Jg (Jc rfl) rfl (Jf (Ja (hK8 (Jx (JP (σ:=Option Addr × Nat × List Int × Nat) (fun ⟨qd,cd,D,k⟩=>[(28,.int .i64 (k:Int))]) (fun ⟨qd,cd,D,k⟩=>H) (fun ⟨qd,cd,D,k⟩=>own 9 1 qo25 (spl 59 t).length co25 ((spl 59 t).map sV)::obj g4 (.cells [.slice qd D.length cd,.slice none 0 0].toArray 27 (0,0))::ownTs 89 nilVs []::own 42 1 none 0 0 (slicesC nilVs [])::own 2 1 qd D.length cd (intsC D)::obj g2 (.cells [.slice none 0 0,.slice none 0 0].toArray 27 (0,0))::L) (fun ⟨qd,cd,D,k⟩=>k≤(spl 59 t).length∧D.length=k∧allO dgW ((spl 59 t).take k)=some D) (fun ⟨qd,cd,D,k⟩=>(spl 59 t).length - k) (none,0, [],0) ⟨by omega,rfl,rfl⟩ ⟨rfl,trivial⟩ rfl rfl ?_))))))))))))));rintro ⟨qd,cd,D,k⟩ ⟨hk,hDl,hI⟩ _ hAg0;refine Jd fun _ hK9 _=>(Jb (Jg (JZ rfl rfl) rfl (Jf (Ja (hK9 (Jd fun _ hK10 _=>(Jp rfl (fun h29=>?_) (fun h29=>?_))))))))
  ·
   have hk1:k<(spl 59 t).length:=by omega
   have hwl:=hPm _ (pg_mem hk1);have hcl:=cut_len ((spl 59 t).getD k []) 58;refine Jo (Ja (hK10 (Jd fun _ hK11 _=>(Jx (Jd fun _ hK12 _=>(Jb (Jg (EM u95 sz9 rfl rfl rfl (by omega) At.z) rfl (Jg (EH rfl At.z (strsC_get (by omega)) pl9) rfl (Jg (Je rfl) rfl (Jf (Ja (hK12 (Jd fun _ hK13 _=>(Jb (Jg (Jc rfl) rfl (Jz fn74 rfl rfl fun w hH=>(cut_c (s:=((spl 59 t).getD k [])) (c:=58) (by omega) hB hH).mono ?_))))))))))))))));rintro _ w ⟨rfl,hH⟩;refine ⟨_,rfl,fun a hF=>JL hF hH ?_⟩;refine Jg (Jc rfl) rfl (Jg (JA rfl rfl) rfl (Jg (JA rfl rfl) rfl (Jg (JA rfl rfl) rfl (Jg (Je rfl) rfl (Jg (Je rfl) rfl (Jg (Je rfl) rfl (Jf (Ja (hK13 (Jd fun _ hK14 _=>(Jb (Jg (Jc rfl) rfl (Jz fn75 rfl rfl fun w hH=>(parseInt_c (s:=(Lib.cut ((spl 59 t).getD k []) [58]).1) (by omega) hB hH).mono ?_)))))))))))));rintro _ w ⟨v40,t40,N40,rfl,hv40,hH⟩;refine ⟨_,rfl,fun a hF=>JL hF hH ?_⟩;refine Jg (Jc rfl) rfl (Jg (JA rfl rfl) rfl (Jg (JA rfl rfl) rfl (Jg (Je rfl) rfl (Jg (Je rfl) rfl (Jf (Ja (hK14 (Jd fun _ hK15 _=>(Jd fun _ hK16 _=>(Jb (Jg (Jc rfl) rfl (Jg (PR.neqErr uI59 rfl rfl) rfl (Jf (Ja (hK16 (Ek rfl (fun h44=>?_) (fun h44=>?_)))))))))))))))))
   ·
    refine Jd fun _ hK17 _=>(Jb (Jg (JQ bz27) rfl (Jk rfl rfl (by first | exact bytesC_one _ | exact intsC_one _ | exact Term.c_one _ | simp [Value.oneCell']) (by simpa [*] using sz27) (by simp [*]) (.s (.s (.s (.s (.s .z))))) (Jg (Je rfl) rfl (Jf (Ja (hK17 (Jt (Jn (JU (Jn (Jn (JU (Jn (JV rfl (Res.agg rfl (.s (.s (.s (.s (.s .z))))) (by simpa [*] using ag27)) (Res.tmp rfl) fun w hH=>?_)))))))))))))));replace hH:=hH.sublist (.cons _ (.cons _ (.cons _ (.cons _ (.cons _ (.cons _ (List.Sublist.refl _)))))));rw [raI_1 h22 hk1 (isSome_f (not_f h44))];exact ⟨none,0,none,0,nilVs,rfl,(hH.ownFsNil 42 89).own0 2 1⟩
   ·
    have hok:okP (Lib.cut ((spl 59 t).getD k []) [58]).1=some v40:=okP_v (not_t h44) hv40;refine Jo (Ja (hK15 (Jb (Jg (Jq u27 rfl sz24 rfl) rfl (Jg (Jv rfl (.s .z) rfl pl24) rfl (Jg (Jc rfl) rfl (EX (MK.lit1I u24 ze2 sz2 rfl) rfl fun qo49 co49=>(Kb u24 ze2 sz2 by2 rfl rfl (by simp only [List.length_cons,List.length_nil];omega) .z (.s (.s (.s (.s .z)))) (fun _ _=>(.s (.s (.s (.s .z))))) rfl fun qo50 co50=>(Jg (Jq u27 rfl sz24 rfl) rfl (Ez rfl rfl rfl rfl sz24 (by simp [*]) (.s (.s .z)) (Jf (JJ (Ja (hK11 (Jb (Jg (JF rfl rfl (by first | exact nw _ (by omega) | rfl)) rfl ?_))))))))))))))));refine Jg (Jc rfl) rfl (Jf (Ja (JC .z ?_)));exact hAg0 (qo50,co50,D++[v40],k+1) ⟨by omega,by simp;omega,by rw [pg_take hk1];exact allO_app (f:=dgW) hok hI⟩ (by show (spl 59 t).length - (k+1)<(spl 59 t).length - k;omega) 31 rfl rfl ⟨rfl,trivial⟩ rfl rfl
  ·
   refine JR (Jw (Jw (JY (Ja (hK7 (Jd fun _ hK18 _=>(Jd fun _ hK19 _=>?_)))))))
   obtain rfl:k=(spl 59 t).length:=by omega
   refine Jb (Jg (Jq u27 rfl sz24 rfl) rfl (Jg (Jv rfl (.s .z) rfl pl24) rfl (Jz fn38 rfl rfl fun w hH=>hH.lend (.s (.s (.s (.s .z)))) fun Hl1 hle1 hA1 hB1 hH=>(AreDegrees_c (own_ints hA1) (by have:=spl_many dgW_nil (by rw [List.take_length] at hI;exact hI);omega) hH).mono ?_)));rintro _ w ⟨rfl,hH⟩;replace hH:=hB1 _ _ hH;refine ⟨_,rfl,fun a hF=>JL hF hH ?_⟩;refine Jg (Er rfl) rfl (Jf (Ja (hK19 (Ek rfl (fun h56=>?_) (fun h56=>?_)))))
   ·
    refine Jd fun _ hK20 _=>(Jb (Jg (JQ bz27) rfl (Jk rfl rfl (by first | exact bytesC_one _ | exact intsC_one _ | exact Term.c_one _ | simp [Value.oneCell']) (by simpa [*] using sz27) (by simp [*]) (.s (.s (.s (.s (.s .z))))) (Jg (Je rfl) rfl (Jf (Ja (hK20 (Jt (Jn (JV rfl (Res.agg rfl (.s (.s (.s (.s (.s .z))))) (by simpa [*] using ag27)) (Res.tmp rfl) fun w hH=>?_))))))))));replace hH:=hH.sublist (.cons _ (.cons _ (.cons _ (.cons _ (.cons _ (.cons _ (List.Sublist.refl _)))))));rw [raI_2 h22 hI (not_f h56)];exact ⟨none,0,none,0,nilVs,rfl,(hH.ownFsNil 42 89).own0 2 1⟩
   ·
    have hDg:isDeg D=true:=not_t h56;have hD8:=isDeg_len hDg;refine Jo (Ja (hK18 (Jd fun _ hK21 _=>(Jd fun _ hK22 _=>(Jb (Jg (Jc rfl) rfl (Jg (Jr u95 rfl rfl) rfl (Jg (Jc rfl) rfl (Jf (Ja (hK22 (Jx (JP (σ:=Option Addr × Nat × Vs × List (List Term) × Nat) (fun ⟨q,c,vs,F,j⟩=>[(60,.int .i64 (j:Int))]) (fun ⟨q,c,vs,F,j⟩=>H) (fun ⟨q,c,vs,F,j⟩=>own 2 1 qd D.length cd (intsC D)::own 9 1 qo25 (spl 59 t).length co25 ((spl 59 t).map sV)::obj g4 (.cells [.slice qd D.length cd,.slice q j c].toArray 27 (0,0))::ownTs 89 vs F::own 42 1 q j c (slicesC vs F)::obj g2 (.cells [.slice none 0 0,.slice none 0 0].toArray 27 (0,0))::L) (fun ⟨q,c,vs,F,j⟩=>j≤(spl 59 t).length∧F.length=j∧allO (fun w=>rdP D (imW w)) ((spl 59 t).take j)=some F) (fun ⟨q,c,vs,F,j⟩=>(spl 59 t).length - j) (none,0,nilVs, [],0) ⟨by omega,rfl,rfl⟩ ⟨rfl,trivial⟩ rfl rfl ?_)))))))))))));rintro ⟨q,c,vs,F,j⟩ ⟨hj,hFl,hJ⟩ _ hAg1;refine Jd fun _ hK23 _=>(Jb (Jg (JZ rfl rfl) rfl (Jf (Ja (hK23 (Jd fun _ hK24 _=>(Jp rfl (fun h61=>?_) (fun h61=>?_))))))))
    ·
     have hk2:j<(spl 59 t).length:=by omega
     have hwk:=hPm _ (pg_mem hk2);have hcl:=cut_len ((spl 59 t).getD j []) 58;refine Jo (Ja (hK24 (Jd fun _ hK25 _=>(Jx (Jd fun _ hK26 _=>(Jb (Jg (EM u95 sz9 rfl rfl rfl (by omega) (.s .z)) rfl (Jg (EH rfl (.s .z) (strsC_get (by omega)) pl9) rfl (Jg (Je rfl) rfl (Jf (Ja (hK26 (Jd fun _ hK27 _=>(Jb (Jg (Jc rfl) rfl (Jz fn74 rfl rfl fun w hH=>(cut_c (s:=((spl 59 t).getD j [])) (c:=58) (by omega) hB hH).mono ?_))))))))))))))));rintro _ w ⟨rfl,hH⟩;refine ⟨_,rfl,fun a hF=>JL hF hH ?_⟩;refine Jg (Jc rfl) rfl (Jg (JA rfl rfl) rfl (Jg (JA rfl rfl) rfl (Jg (JA rfl rfl) rfl (Jg (Je rfl) rfl (Jg (Je rfl) rfl (Jg (Je rfl) rfl (Jf (Ja (hK27 (Jd fun _ hK28 _=>(Jb (Jg (Jq u27 rfl sz24 rfl) rfl (Jg (Jv rfl (.s (.s .z)) rfl pl24) rfl (Jg (Jc rfl) rfl (Jz fn76 rfl rfl fun w hH=>hH.lend .z fun Hl1 hle1 hA1 hB1 hH=>(readForm_c (own_ints hA1) (by omega) (by omega) (hB.le hle1) (hT.le hle1) hH).mono ?_)))))))))))))));rintro _ w ⟨qo74,co74,rfl,hH⟩;replace hH:=hB1 _ _ hH;refine ⟨_,rfl,fun a hF=>JL hF hH ?_⟩;refine Jg (Jc rfl) rfl (Jg (JA rfl rfl) rfl (Jg (JA rfl rfl) rfl (JG ze42 rfl fun g18=>(Jk rfl rfl (by first | exact bytesC_one _ | exact intsC_one _ | exact Term.c_one _ | simp [Value.oneCell']) (by simpa [*] using sz42) (by simp [*]) At.z (Jg (Je rfl) rfl (Jf (Ja (hK28 (Jd fun _ hK29 _=>(Jd fun _ hK30 _=>(Jb (Jg (Jc rfl) rfl (Jg (Er rfl) rfl (Jf (Ja (hK30 ?_))))))))))))))));refine Ek rfl (fun h78=>?_) (fun h78=>?_)
     ·
      refine Jd fun _ hK31 _=>(Jb (Jg (JQ bz27) rfl (Jk rfl rfl (by first | exact bytesC_one _ | exact intsC_one _ | exact Term.c_one _ | simp [Value.oneCell']) (by simpa [*] using sz27) (by simp [*]) (.s (.s (.s (.s (.s (.s (.s .z))))))) (Jg (Je rfl) rfl (Jf (Ja (hK31 (Jt (Jn (JU (Jn (Jn (JU (Jn (JV rfl (Res.agg rfl (.s (.s (.s (.s (.s (.s (.s .z))))))) (by simpa [*] using ag27)) (Res.tmp rfl) fun w hH=>?_)))))))))))))));replace hH:=hH.sublist (.cons _ (.cons _ (.cons _ (.cons _ (.cons _ (.cons _ (.cons _ (.cons _ (List.Sublist.refl _)))))))));rw [raI_3 h22 hI hDg hk2 (rdP_n (not_f h78))];exact ⟨none,0,none,0,nilVs,rfl,(hH.ownFsNil 42 89).own0 2 1⟩
     ·
      refine Jo (Ja (hK29 (Jb (Jg (Jq u27 rfl sz25 rfl) rfl (Jg (Jv rfl (.s (.s (.s (.s .z)))) rfl pl25) rfl (Jg (Jl rfl At.z (by simpa [*] using ag42)) rfl (EX (EI u25 ze42 sz42 rfl rfl) rfl fun qo83 co83=>(EK u25 ze42 sz42 by42 rfl rfl rfl rfl (by omega) .z (.s (.s (.s (.s (.s (.s .z)))))) (fun _ _=>(.s (.s (.s (.s (.s (.s .z))))))) rfl fun qo84 co84=>(Jg (Jq u27 rfl sz25 rfl) rfl (Ez rfl rfl rfl rfl sz25 (by simp [*]) (.s (.s (.s (.s (.s .z))))) (Jf (JJ (Ja (hK25 (Jb (Jg (JF rfl rfl (by first | exact nw _ (by omega) | rfl)) rfl ?_))))))))))))))));refine Jg (Jc rfl) rfl (Jf (Ja (Ji (.s (.s (.s (.s (.s (.s (.s (.s .z)))))))) (Ji (.s (.s (.s (.s (.s (.s (.s (.s .z)))))))) (Ji (.s (.s (.s (.s (.s (.s (.s .z))))))) (Ji (.s (.s (.s (.s (.s (.s (.s .z))))))) (Ji (.s (.s (.s (.s (.s (.s .z)))))) (Ji (.s (.s (.s (.s (.s (.s .z)))))) (Ji (.s (.s (.s (.s (.s (.s .z)))))) (Ji (.s (.s (.s (.s (.s (.s (.s (.s .z)))))))) (Ji (.s (.s (.s (.s (.s (.s (.s (.s .z)))))))) (EJ.fsSnoc (fs:=F) hFl rfl (JC (.s .z) (JC (.s .z) ?_))))))))))))));refine Ji (.s (.s (.s (.s (.s .z))))) (Ji (.s (.s (.s (.s (.s .z))))) (Ji (.s (.s .z)) (Ji (.s (.s (.s (.s (.s .z))))) (Ji (.s (.s (.s (.s (.s .z))))) (Ji (.s (.s (.s (.s (.s .z))))) ?_)))));exact hAg1 (qo84,co84,setV vs j (qo74,co74),F++[(rdI D (imW ((spl 59 t).getD j []))).1],j+1) ⟨by omega,by simp;omega,by rw [pg_take hk2];exact allO_app (f:=fun w=>rdP D (imW w)) (rdP_y (not_t h78)) hJ⟩ (by show (spl 59 t).length - (j+1)<(spl 59 t).length - j;omega) 33 rfl rfl ⟨rfl,trivial⟩ rfl (by dsimp only;rw [slicesC_set hFl];rfl)
    ·
     refine JR (Jw (Jw (JY (Ja (hK21 (Jd fun _ hK32 _=>?_))))));obtain rfl:j=F.length:=hFl.symm
     have hFW:F.length=(spl 59 t).length:=by omega
     rw [hFW] at hJ;obtain ⟨wfF,hF4⟩:=allP_wf hJ;refine CJ.mkFs (.s (.s (.s .z))) (.s (.s (.s .z))) ?_
     rcases Bool.eq_false_or_eq_true (isAlg D F) with hb90 | hb90
     ·
      have hTx:=(isAlg_ok hb90 wfF).tx;refine Ed (Rs:=[_,_,_,_,_]) 11 [[], [], [1], [1,2], [1,2,3], [1,2,3,4], [1,2,3], [1,2,3,4,5,6], [1,2,3,4,5,6,7], [0,1,2,3,4,5], [0,1,2,3,4,5,6,7,8,9]] [[14], [14], [11,12], [], [14], [11,12], [], [], [], [], []] [[], [], [], [], [], [], [], [], [], [15], []] rfl rfl (by kernel_rfl) ?_;apply Jm 1 rfl
      iterate 3 focus (intros;(conv=>lhs;simp only [Jh,Js,JO,Ju,JI,eq_self,reduceEqDiff,reduceIte,reduceSub,reduceAdd,JxA,JxB]);all_goals rfl)
      ·
       intro gh X K zq zc zq2 zc2 zb zv hK;refine Jg (Jl rfl At.z (by simpa [*] using ag27)) rfl (Jj ?_);exact hK zq zc zq2 zc2 zb zv
      ·
       intro gh gh' h
       rfl
      apply Jm 2 rfl
      iterate 3 focus (intros;(conv=>lhs;simp only [Jh,Js,JO,Ju,JI,eq_self,reduceEqDiff,reduceIte,reduceSub,reduceAdd,JxA,JxB]);all_goals rfl)
      ·
       intro gh X K zq zc zq2 zc2 zb zv hK;refine Jg (Jl rfl At.z (by simpa [*] using ag27)) rfl (Jj ?_);exact hK zq zc zq2 zc2 zb zv
      ·
       intro gh gh' h
       rfl
      apply Jm 3 rfl
      iterate 3 focus (intros;(conv=>lhs;simp only [Jh,Js,JO,Ju,JI,eq_self,reduceEqDiff,reduceIte,reduceSub,reduceAdd,JxA,JxB]);all_goals rfl)
      ·
       intro gh X K zq zc zq2 zc2 zb zv hK;refine Jz fn21 rfl rfl fun w hH=>hH.lend (.s .z) fun Hl1 hle1 hA1 hB1 hH=>hH.lend .z fun Hl2 hle2 hA2 hB2 hH=>(IsAlgebra_c ((own_ints hA1).le hle2) (own_forms wfF hA2) (by omega) (by omega) (fun i _=>by have:=hF4 i;omega) hH).mono ?_;rintro _ w ⟨rfl,hH⟩;replace hH:=hB2 _ _ hH;replace hH:=hB1 _ _ hH;refine ⟨_,rfl,fun a hF=>JL hF hH ?_⟩;refine Ji .z (Ji (.s .z) (Jj ?_));exact hK zq zc zq2 zc2 zb zv
      ·
       intro gh gh' h
       rfl
      apply Jm 4 rfl
      iterate 3 focus (intros;(conv=>lhs;simp only [Jh,Js,JO,Ju,JI,eq_self,reduceEqDiff,reduceIte,reduceSub,reduceAdd,JxA,JxB]);all_goals rfl)
      ·
       intro gh X K zq zc zq2 zc2 zb zv hK;refine Jg (Jc rfl) rfl (Jj ?_);exact hK zq zc zq2 zc2 zb zv
      ·
       intro gh gh' h
       rfl
      apply Jm 5 rfl
      iterate 3 focus (intros;(conv=>lhs;simp only [Jh,Js,JO,Ju,JI,eq_self,reduceEqDiff,reduceIte,reduceSub,reduceAdd,JxA,JxB]);all_goals rfl)
      ·
       intro gh X K zq zc zq2 zc2 zb zv hK;refine JK (Jl rfl At.z (by simpa [*] using ag27)) rfl rfl rfl hb90 (Jj ?_);exact hK zq zc zq2 zc2 zb zv
      ·
       intro gh gh' h
       rfl
      apply Jm 6 rfl
      iterate 3 focus (intros;(conv=>lhs;simp only [Jh,Js,JO,Ju,JI,eq_self,reduceEqDiff,reduceIte,reduceSub,reduceAdd,JxA,JxB]);all_goals rfl)
      ·
       intro gh X K zq zc zq2 zc2 zb zv hK;refine Et fn26 rfl rfl hb90 rfl rfl fun w hH=>hH.lend (.s .z) fun Hl1 hle1 hA1 hB1 hH=>hH.lend .z fun Hl2 hle2 hA2 hB2 hH=>(algebraText_c ((own_ints hA1).le hle2) (own_forms wfF hA2) hTx ((hT.le hle1).le hle2) hH).mono ?_;rintro _ w ⟨rfl,hH⟩;replace hH:=hB2 _ _ hH;replace hH:=hB1 _ _ hH;refine ⟨_,rfl,fun a hF=>JL hF hH ?_⟩;refine Ji .z (Ji (.s .z) (Jj ?_));exact hK zq zc zq2 zc2 zb zv
      ·
       intro gh gh' h
       rfl
      apply Jm 7 rfl
      iterate 3 focus (intros;(conv=>lhs;simp only [Jh,Js,JO,Ju,JI,eq_self,reduceEqDiff,reduceIte,reduceSub,reduceAdd,JxA,JxB]);all_goals rfl)
      ·
       intro gh X K zq zc zq2 zc2 zb zv hK;refine JK (Jc rfl) rfl rfl rfl hb90 (Jj ?_);exact hK zq zc zq2 zc2 zb zv
      ·
       intro gh gh' h
       rfl
      apply Jm 8 rfl
      iterate 3 focus (intros;(conv=>lhs;simp only [Jh,Js,JO,Ju,JI,eq_self,reduceEqDiff,reduceIte,reduceSub,reduceAdd,JxA,JxB]);all_goals rfl)
      ·
       intro gh X K zq zc zq2 zc2 zb zv hK;refine JK (EU rfl rfl) rfl rfl rfl hb90 (Jj ?_);exact hK zq zc zq2 zc2 zb zv
      ·
       intro gh gh' h
       rfl
      apply Jm 9 rfl
      iterate 3 focus (intros;(conv=>lhs;simp only [Jh,Js,JO,Ju,JI,eq_self,reduceEqDiff,reduceIte,reduceSub,reduceAdd,JxA,JxB]);all_goals rfl)
      ·
       intro gh X K zq zc zq2 zc2 zb zv hK;refine Jg (JN rfl hb90 rfl) rfl (Jj ?_);exact hK zq zc zq2 zc2 zb zv
      ·
       intro gh gh' h
       rfl
      apply Es 10 rfl
      iterate 3 focus (intros;(conv=>lhs;simp only [Jh,Js,JO,Ju,JI,eq_self,reduceEqDiff,reduceIte,reduceSub,reduceAdd,JxA,JxB]);all_goals rfl)
      ·
       intro gh X K hK;refine Jk rfl rfl (by first | exact bytesC_one _ | exact intsC_one _ | exact Term.c_one _ | simp [Value.oneCell']) (by simpa [*] using sz27) (by simp [*]) At.z (Jj ?_);exact hK
      ·
       intro gh gh' h
       rfl
      apply Jm 11 rfl
      iterate 3 focus (intros;(conv=>lhs;simp only [Jh,Js,JO,Ju,JI,eq_self,reduceEqDiff,reduceIte,reduceSub,reduceAdd,JxA,JxB]);all_goals rfl)
      ·
       intro gh X K zq zc zq2 zc2 zb zv hK;refine Jg (Je rfl) rfl (Jj ?_);exact hK zq zc zq2 zc2 zb zv
      ·
       intro gh gh' h
       rfl
      apply Ec [0,1,2,3,4,5,6,7,8,9,10] [0,1,2,3,4,5,6,7,8,9,10,11,12,13,14] foll0 rfl rfl rfl (by rfl)
      iterate 2 focus (intros;(conv=>lhs;simp only [Jh,Js,JO,Ju,JI,eq_self,reduceEqDiff,reduceIte,reduceSub,reduceAdd,JxA,JxB]);all_goals rfl)
      intro gh;clear gh;refine Ja (hK32 (Jt (JV rfl (Res.agg rfl At.z (by simpa [*] using ag27)) (Res.tmp rfl) fun w hH=>?_)));replace hH:=hH.sublist (.cons _ (.cons_cons _ (.cons_cons _ (.cons _ (.cons _ (List.Sublist.refl _))))));rw [raI_4 h22 hI hDg hJ];exact ⟨_,_,_,_,_,(by rw [hb90];rfl),hH.front (.s .z)⟩
     ·
      refine Ed (Rs:=[_,_,_,_,_]) 11 [[], [], [1], [1,2], [1,2,3], [1,2,3,4], [1,2,3], [1,2,3,4,5,6], [1,2,3,4,5,6,7], [0,1,2,3,4,5], [0,1,2,3,4,5,6,7,8,9]] [[14], [14], [11,12], [], [], [], [], [], [], [], []] [[], [], [], [], [], [], [], [], [], [15], []] rfl rfl (by kernel_rfl) ?_;apply Jm 1 rfl
      iterate 3 focus (intros;(conv=>lhs;simp only [Jh,Js,JO,Ju,JI,eq_self,reduceEqDiff,reduceIte,reduceSub,reduceAdd,JxA,JxB]);all_goals rfl)
      ·
       intro gh X K zq zc zq2 zc2 zb zv hK;refine Jg (Jl rfl At.z (by simpa [*] using ag27)) rfl (Jj ?_);exact hK zq zc zq2 zc2 zb zv
      ·
       intro gh gh' h
       rfl
      apply Jm 2 rfl
      iterate 3 focus (intros;(conv=>lhs;simp only [Jh,Js,JO,Ju,JI,eq_self,reduceEqDiff,reduceIte,reduceSub,reduceAdd,JxA,JxB]);all_goals rfl)
      ·
       intro gh X K zq zc zq2 zc2 zb zv hK;refine Jg (Jl rfl At.z (by simpa [*] using ag27)) rfl (Jj ?_);exact hK zq zc zq2 zc2 zb zv
      ·
       intro gh gh' h
       rfl
      apply Jm 3 rfl
      iterate 3 focus (intros;(conv=>lhs;simp only [Jh,Js,JO,Ju,JI,eq_self,reduceEqDiff,reduceIte,reduceSub,reduceAdd,JxA,JxB]);all_goals rfl)
      ·
       intro gh X K zq zc zq2 zc2 zb zv hK;refine Jz fn21 rfl rfl fun w hH=>hH.lend (.s .z) fun Hl1 hle1 hA1 hB1 hH=>hH.lend .z fun Hl2 hle2 hA2 hB2 hH=>(IsAlgebra_c ((own_ints hA1).le hle2) (own_forms wfF hA2) (by omega) (by omega) (fun i _=>by have:=hF4 i;omega) hH).mono ?_;rintro _ w ⟨rfl,hH⟩;replace hH:=hB2 _ _ hH;replace hH:=hB1 _ _ hH;refine ⟨_,rfl,fun a hF=>JL hF hH ?_⟩;refine Ji .z (Ji (.s .z) (Jj ?_));exact hK zq zc zq2 zc2 zb zv
      ·
       intro gh gh' h
       rfl
      apply Jm 4 rfl
      iterate 3 focus (intros;(conv=>lhs;simp only [Jh,Js,JO,Ju,JI,eq_self,reduceEqDiff,reduceIte,reduceSub,reduceAdd,JxA,JxB]);all_goals rfl)
      ·
       intro gh X K zq zc zq2 zc2 zb zv hK;refine Jg (Jc rfl) rfl (Jj ?_);exact hK zq zc zq2 zc2 zb zv
      ·
       intro gh gh' h
       rfl
      apply Jm 5 rfl
      iterate 3 focus (intros;(conv=>lhs;simp only [Jh,Js,JO,Ju,JI,eq_self,reduceEqDiff,reduceIte,reduceSub,reduceAdd,JxA,JxB]);all_goals rfl)
      ·
       intro gh X K zq zc zq2 zc2 zb zv hK;refine JE rfl rfl rfl hb90 (Jj ?_);exact hK zq zc zq2 zc2 zb zv
      ·
       intro gh gh' h
       rfl
      apply Jm 6 rfl
      iterate 3 focus (intros;(conv=>lhs;simp only [Jh,Js,JO,Ju,JI,eq_self,reduceEqDiff,reduceIte,reduceSub,reduceAdd,JxA,JxB]);all_goals rfl)
      ·
       intro gh X K zq zc zq2 zc2 zb zv hK;refine JE rfl rfl rfl hb90 (Jj ?_);exact hK zq zc zq2 zc2 zb zv
      ·
       intro gh gh' h
       rfl
      apply Jm 7 rfl
      iterate 3 focus (intros;(conv=>lhs;simp only [Jh,Js,JO,Ju,JI,eq_self,reduceEqDiff,reduceIte,reduceSub,reduceAdd,JxA,JxB]);all_goals rfl)
      ·
       intro gh X K zq zc zq2 zc2 zb zv hK;refine JE rfl rfl rfl hb90 (Jj ?_);exact hK zq zc zq2 zc2 zb zv
      ·
       intro gh gh' h
       rfl
      apply Jm 8 rfl
      iterate 3 focus (intros;(conv=>lhs;simp only [Jh,Js,JO,Ju,JI,eq_self,reduceEqDiff,reduceIte,reduceSub,reduceAdd,JxA,JxB]);all_goals rfl)
      ·
       intro gh X K zq zc zq2 zc2 zb zv hK;refine JE rfl rfl rfl hb90 (Jj ?_);exact hK zq zc zq2 zc2 zb zv
      ·
       intro gh gh' h
       rfl
      apply Jm 9 rfl
      iterate 3 focus (intros;(conv=>lhs;simp only [Jh,Js,JO,Ju,JI,eq_self,reduceEqDiff,reduceIte,reduceSub,reduceAdd,JxA,JxB]);all_goals rfl)
      ·
       intro gh X K zq zc zq2 zc2 zb zv hK;refine Jg (JM rfl hb90 rfl) rfl (Jj ?_);exact hK zq zc zq2 zc2 zb zv
      ·
       intro gh gh' h
       rfl
      apply Es 10 rfl
      iterate 3 focus (intros;(conv=>lhs;simp only [Jh,Js,JO,Ju,JI,eq_self,reduceEqDiff,reduceIte,reduceSub,reduceAdd,JxA,JxB]);all_goals rfl)
      ·
       intro gh X K hK;refine Jk rfl rfl (by first | exact bytesC_one _ | exact intsC_one _ | exact Term.c_one _ | simp [Value.oneCell']) (by simpa [*] using sz27) (by simp [*]) At.z (Jj ?_);exact hK
      ·
       intro gh gh' h
       rfl
      apply Jm 11 rfl
      iterate 3 focus (intros;(conv=>lhs;simp only [Jh,Js,JO,Ju,JI,eq_self,reduceEqDiff,reduceIte,reduceSub,reduceAdd,JxA,JxB]);all_goals rfl)
      ·
       intro gh X K zq zc zq2 zc2 zb zv hK;refine Jg (Je rfl) rfl (Jj ?_);exact hK zq zc zq2 zc2 zb zv
      ·
       intro gh gh' h
       rfl
      apply Ec [0,1,2,3,4,5,6,7,8,9,10] [0,1,2,3,4,5,6,7,8,9,10,11,12,13,14] foll0 rfl rfl rfl (by rfl)
      iterate 2 focus (intros;(conv=>lhs;simp only [Jh,Js,JO,Ju,JI,eq_self,reduceEqDiff,reduceIte,reduceSub,reduceAdd,JxA,JxB]);all_goals rfl)
      intro gh;clear gh;refine Ja (hK32 (Jt (JV rfl (Res.agg rfl At.z (by simpa [*] using ag27)) (Res.tmp rfl) fun w hH=>?_)));replace hH:=hH.sublist (.cons _ (.cons_cons _ (.cons_cons _ (.cons _ (.cons _ (List.Sublist.refl _))))));rw [raI_4 h22 hI hDg hJ];exact ⟨_,_,_,_,_,(by rw [hb90];rfl),hH.front (.s .z)⟩
theorem sParseAlgebra_c {B:World} {H0 H:HP} {L:List SA} {w:World} {t:List UInt8} (hl:t.length≤4294967280) (hH:Hp B H0 H L w):Calls Tryz.prog 10 [sV t].toArray w fun e w'=>∃qd cd qf cf vs,e = .returned (.tuple #[.agg [.slice qd (paD t).length cd,.slice qf (paF t).length cf].toArray,.int .i64 (paC t)])∧Hp B H0 H (own 2 1 qd (paD t).length cd (intsC (paD t))::ownFs 42 89 qf cf vs (paF t)::L) w':=by
 refine JD Tryz.func10 rfl 15 rfl rfl [(0,sV t)] rfl hH ?_;clear hH;refine Jd fun _ hK1 _=>(Jb (JG ze27 rfl fun g2=>(Jg (Je rfl) rfl (Jf (Ja (hK1 (Jd fun _ hK2 _=>(Jb (Jg (Jc rfl) rfl (Jz fn33 rfl rfl fun w hH=>(l02Read_c hl hH).mono ?_))))))))));rintro _ w ⟨qdo8,cdo8,qfo8,cfo8,vso8,rfl,hH⟩;refine ⟨_,rfl,fun a hF=>JL hF hH ?_⟩;refine Jg (Jc rfl) rfl (Jg (JA rfl rfl) rfl (Jg (JA rfl rfl) rfl (JG ze27 rfl fun g4=>(Jk rfl rfl (by first | exact bytesC_one _ | exact intsC_one _ | exact Term.c_one _ | simp [Value.oneCell']) (by simpa [*] using sz27) (by simp [*]) At.z (Jg (Je rfl) rfl (Jf (Ja (hK2 (Jd fun _ hK3 _=>(Jd fun _ hK4 _=>(Jb (Jg (Jc rfl) rfl (Jg (Er rfl) rfl (Jf (Ja (hK4 ?_))))))))))))))));refine Ek rfl (fun h12=>?_) (fun h12=>?_)
 ·
  refine Jd fun _ hK5 _=>(Jb (Jg (JQ bz27) rfl (Jk rfl rfl (by first | exact bytesC_one _ | exact intsC_one _ | exact Term.c_one _ | simp [Value.oneCell']) (by simpa [*] using sz27) (by simp [*]) (.s (.s (.s .z))) (Jg (Je rfl) rfl (Jf (Ja (hK5 (Jt (Jn (JV rfl (Res.agg rfl (.s (.s (.s .z))) (by simpa [*] using ag27)) (Res.tmp rfl) fun w hH=>?_))))))))));replace hH:=hH.sublist (.cons _ (.cons _ (.cons _ (.cons _ (List.Sublist.refl _)))));obtain ⟨e1,e2,e3⟩:=pa_0 (not_f h12);rw [e1,e2,e3];exact ⟨none,0,none,0,nilVs,rfl,(hH.ownFsNil 42 89).own0 2 1⟩
 ·
  refine Jo (Ja (hK3 (Jd fun _ hK6 _=>(Jb (Jg (Jl rfl At.z (by simpa [*] using ag27)) rfl (Jk rfl rfl (by first | exact bytesC_one _ | exact intsC_one _ | exact Term.c_one _ | simp [Value.oneCell']) (by simpa [*] using sz27) (by simp [*]) (.s (.s (.s .z))) (Jg (Je rfl) rfl (Jf (Ja (hK6 (Jt (JV rfl (Res.agg rfl (.s (.s (.s .z))) (by simpa [*] using ag27)) (Res.tmp rfl) fun w hH=>?_))))))))))));replace hH:=hH.sublist (.cons _ (.cons_cons _ (.cons_cons _ (.cons _ (List.Sublist.refl _)))));obtain ⟨e1,e2,e3⟩:=pa_1 (not_t h12);rw [e1,e2,e3];exact ⟨_,_,_,_,_,rfl,hH⟩
theorem ParseAlgebra_c {B:World} {H0 H:HP} {L:List SA} {w:World} {t:List UInt8} (hl:t.length≤4294967280) (hB:LbOk H) (hT:TabOk Tryz.prog nmT H) (hH:Hp B H0 H L w):Calls Tryz.prog 9 [sV t].toArray w fun e w'=>∃qd cd qf cf vs,e = .returned (.tuple #[.agg [.slice qd (paD t).length cd,.slice qf (paF t).length cf].toArray,.int .i64 (paC t)])∧Hp B H0 H (own 2 1 qd (paD t).length cd (intsC (paD t))::ownFs 42 89 qf cf vs (paF t)::L) w':=by
 refine JD Tryz.func9 rfl 15 rfl rfl [(0,sV t)] rfl hH ?_;clear hH;obtain ⟨hs1,hs2⟩:=ra_same t;refine Jd fun _ hK1 _=>(Jb (JG ze27 rfl fun g2=>(Jg (Je rfl) rfl (Jf (Ja (hK1 (Jd fun _ hK2 _=>(Jb (Jg (Jc rfl) rfl (Jz fn32 rfl rfl fun w hH=>(readAlgebra_c hl hB hT hH).mono ?_))))))))));rintro _ w ⟨qdo8,cdo8,qfo8,cfo8,vso8,rfl,hH⟩;refine ⟨_,rfl,fun a hF=>JL hF hH ?_⟩;refine Jg (Jc rfl) rfl (Jg (JA rfl rfl) rfl (Jg (JA rfl rfl) rfl (JG ze27 rfl fun g4=>(Jk rfl rfl (by first | exact bytesC_one _ | exact intsC_one _ | exact Term.c_one _ | simp [Value.oneCell']) (by simpa [*] using sz27) (by simp [*]) At.z (Jg (Je rfl) rfl (Jf (Ja (hK2 (Jd fun _ hK3 _=>(Jd fun _ hK4 _=>(Jb (Jg (Jc rfl) rfl (Jg (Er rfl) rfl (Jf (Ja (hK4 ?_))))))))))))))));refine Ek rfl (fun h12=>?_) (fun h12=>?_)
 ·
  refine Jd fun _ hK5 _=>(Jb (Jg (JQ bz27) rfl (Jk rfl rfl (by first | exact bytesC_one _ | exact intsC_one _ | exact Term.c_one _ | simp [Value.oneCell']) (by simpa [*] using sz27) (by simp [*]) (.s (.s (.s .z))) (Jg (Je rfl) rfl (Jf (Ja (hK5 (Jt (Jn (JV rfl (Res.agg rfl (.s (.s (.s .z))) (by simpa [*] using ag27)) (Res.tmp rfl) fun w hH=>?_))))))))));replace hH:=hH.sublist (.cons _ (.cons _ (.cons _ (.cons _ (List.Sublist.refl _)))));obtain ⟨e1,e2,e3⟩:=pa_0 (hs1.symm.trans (not_f h12));rw [e1,e2,e3];exact ⟨none,0,none,0,nilVs,rfl,(hH.ownFsNil 42 89).own0 2 1⟩
 ·
  refine Jo (Ja (hK3 (Jd fun _ hK6 _=>(Jb (Jg (Jl rfl At.z (by simpa [*] using ag27)) rfl (Jk rfl rfl (by first | exact bytesC_one _ | exact intsC_one _ | exact Term.c_one _ | simp [Value.oneCell']) (by simpa [*] using sz27) (by simp [*]) (.s (.s (.s .z))) (Jg (Je rfl) rfl (Jf (Ja (hK6 (Jt (JV rfl (Res.agg rfl (.s (.s (.s .z))) (by simpa [*] using ag27)) (Res.tmp rfl) fun w hH=>?_))))))))))));replace hH:=hH.sublist (.cons _ (.cons_cons _ (.cons_cons _ (.cons _ (List.Sublist.refl _)))));have h9:=hs1.symm.trans (not_t h12);obtain ⟨e1,e2,e3⟩:=pa_1 h9;rw [hs2 h9] at hH;rw [e1,e2,e3];exact ⟨_,_,_,_,_,(by rw [hs2 h9]),hH⟩
theorem u92:Tryz.prog.underlying 92=some (TypeDesc.int .u64):=by kernel_rfl
theorem u94:Tryz.prog.underlying 94=some (TypeDesc.struct #[{name:="code",type:=22,offset:=0,embedded:=false,tag:="",pkgPath:="loop.example/g01219/spec",byteOffset:=0},{name:="at",type:=3,offset:=1,embedded:=false,tag:="",pkgPath:="loop.example/g01219/spec",byteOffset:=24},{name:="hash",type:=92,offset:=2,embedded:=false,tag:="",pkgPath:="loop.example/g01219/spec",byteOffset:=32}]):=by kernel_rfl
theorem sz22:Size Tryz.prog 22 1:=by unfold Size;kernel_rfl
theorem sz92:Size Tryz.prog 92 1:=by unfold Size;kernel_rfl
theorem pl22:Plain Tryz.prog 22:=⟨_,u22,rfl⟩
theorem pl92:Plain Tryz.prog 92:=⟨_,u92,rfl⟩
theorem fn30:Fn Tryz.prog 30:=⟨_,Tryz.func30,by kernel_rfl,rfl⟩
theorem fn62:Fn Tryz.prog 62:=⟨_,Tryz.func62,by kernel_rfl,rfl⟩
theorem bd94_0_2 : ∀(q0:Option Addr) (m0 c0:Nat) (n2:Int) w,(Instr.build 94 #[(0,.slice q0 m0 c0),(2,.int .u64 n2)]).run Tryz.prog w = .ok (.agg [.slice q0 m0 c0,.int .i64 0,.int .u64 n2].toArray) w:=fun q0 m0 c0 n2 _=>by kernel_rfl
abbrev srcO (qb:Option Addr) (cb:Nat) (code:List Int) (g:Nat) (s:Src):SA:=obj g (.cells [.slice qb code.length cb,.int .i64 (s.pos:Int),.int .u64 s.hash].toArray 94 (0,0))
section
variable (code : List Int)
def pkV (s:Src) (l:List Int):Int:=l.getD (nxV code s l.length).toNat 0
def pkS (s:Src) (l:List Int):Src:=nxS code s l.length
def ddL (s:Src):List Int:=[1,2,2,3,3,4,5,1+nxV code s 12]
def ddK (s:Src):Nat→List Int × Src
 | 0=>([],s)
 | k+1=>((ddK s k).1++[pkV code (nxS code (ddK s k).2 12) (ddL code (ddK s k).2)],pkS code (nxS code (ddK s k).2 12) (ddL code (ddK s k).2))
def ddV (s:Src) (most:Int):List Int:=(ddK code (nxS code s (most+1)) (nxV code s (most+1)).toNat).1
def ddS (s:Src) (most:Int):Src:=(ddK code (nxS code s (most+1)) (nxV code s (most+1)).toNat).2
def twos:List Int:=[2,2,2,2,2,2,2,2,2]
def bdyV (s:Src) (ds:List Int):List Int:=if nxV code s 40=0 then ds++[pkV code (nxS code s 40) [0,13, -1]] else if nxV code s 40=1 then twos else ds
def bdyS (s:Src) (_ds:List Int):Src:=if nxV code s 40=0 then pkS code (nxS code s 40) [0,13, -1] else nxS code s 40
def fcL (s:Src):List Int:=[1,1,2,10006,1+nxV code s 10006]
def fcV (s:Src):Int:=pkV code (nxS code s 10006) (fcL code s)
def fcS (s:Src):Src:=pkS code (nxS code s 10006) (fcL code s)
end
theorem getD_mem {l:List Int} {i:Nat} (h:i<l.length):l.getD i 0∈l:=by
 rw [List.getD_eq_getElem?_getD,List.getElem?_eq_getElem h];exact List.getElem_mem h
section
variable {code : List Int} (hb : BtOk code)
include hb
theorem nx_lt (s:Src) {n:Nat} (h:0<n):(nxV code s n).toNat<n:=by
 have:=nxV_bd hb s n
 omega
theorem pkV_mem (s:Src) {l:List Int} (h:0<l.length):pkV code s l∈l:=getD_mem (nx_lt hb s h)
theorem fcV_bd (s:Src):1≤fcV code s∧fcV code s≤10006:=by
 have h1:=pkV_mem hb (nxS code s 10006) (l:=fcL code s) (Nat.succ_pos _);have h2:=nxV_bd hb s 10006;unfold fcV;generalize pkV code (nxS code s 10006) (fcL code s)=v at h1;unfold fcL at h1;simp only [List.mem_cons,List.not_mem_nil,or_false] at h1
 omega
theorem ddK_bd (s:Src) : ∀k:Nat,(ddK code s k).1.length=k∧∀x∈(ddK code s k).1,1≤x∧x≤12
 | 0=>⟨rfl,fun x hx=>by cases hx⟩
 | k+1=>by
  have h0:=ddK_bd s k
  have h1:=pkV_mem hb (nxS code (ddK code s k).2 12) (l:=ddL code (ddK code s k).2) (Nat.succ_pos _)
  have h2:=nxV_bd hb (ddK code s k).2 12
  refine ⟨by simp [ddK,h0.1],fun x hx=>?_⟩
  simp only [ddK] at hx
  rcases List.mem_append.1 hx with hx | hx
  ·exact h0.2 x hx
  ·rw [List.mem_singleton.1 hx]
   generalize pkV code (nxS code (ddK code s k).2 12) (ddL code (ddK code s k).2)=v at h1
   unfold ddL at h1
   simp only [List.mem_cons,List.not_mem_nil,or_false] at h1
   omega
theorem ddV_bd (s:Src) {most:Int} (h:0≤most):((ddV code s most).length:Int)≤most∧∀x∈ddV code s most,1≤x∧x≤12:=by
 have h1:=ddK_bd hb (nxS code s (most+1)) (nxV code s (most+1)).toNat;have h2:=nxV_bd hb s (most+1);refine ⟨?_,h1.2⟩;unfold ddV;rw [h1.1]
 omega
end
theorem bdyV_len (code:List Int) (s:Src) (ds:List Int):(bdyV code s ds).length≤ds.length+9:=by
 unfold bdyV twos
 split
 ·simp
 ·split
  ·simp
  ·omega
section
variable {code : List Int} {s : Src} {n : Int}
theorem nx_lo (h:n<1):nxV code s n=0∧nxS code s n=s:=by unfold nxV nxS;rw [if_pos h,if_pos h];exact ⟨rfl,rfl⟩
theorem nx_in (h : ¬n<1) (h2:s.pos<code.length):nxV code s n=(hshV s.hash+code.getD s.pos 0).tmod n∧nxS code s n=⟨s.pos+1,hshN s.hash⟩:=by unfold nxV nxS nxX;rw [if_neg h,if_neg h,if_pos h2,if_pos h2];exact ⟨rfl,rfl⟩
theorem nx_out (h : ¬n<1) (h2 : ¬s.pos<code.length):nxV code s n=(hshV s.hash).tmod n∧nxS code s n=⟨s.pos,hshN s.hash⟩:=by unfold nxV nxS nxX;rw [if_neg h,if_neg h,if_neg h2,if_neg h2,Int.add_zero];exact ⟨rfl,rfl⟩
end
theorem l01Next_c {B:World} {H0 H:HP} {L:List SA} {w:World} {gs:Nat} {qb:Option Addr} {cb:Nat} {code:List Int} {s:Src} {n:Int} (hbt:Bts H qb code) (hbk:BtOk code) (hcl:code.length≤1048576) (hH:Hp B H0 H (srcO qb cb code gs s::L) w):Calls Tryz.prog 30 [.pointer (some ⟨gs,0,none⟩),.int .i64 n].toArray w fun e w'=>e = .returned (.int .i64 (nxV code s n))∧Hp B H0 H (srcO qb cb code gs (nxS code s n)::L) w':=by
 refine JD Tryz.func30 rfl 58 rfl rfl [(0,.pointer (some ⟨gs,0,none⟩)),(1,.int .i64 n)] rfl hH ?_;clear hH;have hbp:=hbk s.pos;have hv9:=hshV_bd s.hash;refine Jd fun _ hK1 _=>(Jb (Jg (Je rfl) rfl (Jf (Ja (hK1 (Jd fun _ hK2 _=>(Jd fun _ hK3 _=>(Jb (Jg (Jc rfl) rfl (Jg (JZ rfl rfl) rfl (Jf (Ja (hK3 (Jp rfl (fun h7=>?_) (fun h7=>?_)))))))))))))))
 ·
  refine Jd fun _ hK4 _=>(Jb (Jg (Je rfl) rfl (Jf (Ja (hK4 (Jt (Jn (Jy rfl (Res.tmp rfl) fun w hH=>?_))))))));replace hH:=hH.sublist (.cons_cons _ (List.Sublist.refl _));obtain ⟨e1,e2⟩:=nx_lo (code:=code) (s:=s) h7;rw [e1,e2];exact ⟨rfl,hH⟩
 ·
  refine Jo (Ja (hK2 (Jd fun _ hK5 _=>(Jb (Jg (Jc rfl) rfl (Jg (Jc rfl) rfl (Jg (Eh rfl) rfl (Jg (Jq u94 rfl sz92 rfl) rfl (Jg (Jv rfl At.z rfl pl92) rfl (Jg (EZ rfl rfl rfl) rfl (Jg (JF rfl rfl rfl) rfl (Jg (Eh rfl) rfl (Jg (Jq u94 rfl sz92 rfl) rfl (Ez rfl rfl rfl rfl sz92 (by simp [*]) At.z (Jf ?_)))))))))))))));refine Ja (hK5 (Jd fun _ hK6 _=>(Jb (Jg (Jc rfl) rfl (Jg (Eh rfl) rfl (Jg (Jq u94 rfl sz92 rfl) rfl (Jg (Jv rfl At.z rfl pl92) rfl (Jg (PR.shr rfl rfl (by decide) rfl) rfl (Jg (PR.andK rfl rfl rfl) rfl (Jg (EE u92 u2 rfl (show _=hshV s.hash from rfl)) rfl (Jg (Je rfl) rfl (Jf (Ja (hK6 (Jd fun _ hK7 _=>(Jd fun _ hK8 _=>?_))))))))))))))));refine ED foll0 (by kernel_rfl) (JH (Jc rfl) rfl (JH (Eh rfl) rfl (JH (Jq u94 rfl sz3 rfl) rfl (JH (Jv rfl At.z rfl pl3) rfl (JH (Jc rfl) rfl (JH (Eh rfl) rfl (JH (Jq u94 rfl sz22 rfl) rfl (JH (Jv rfl At.z rfl pl22) rfl (JH (Jr u22 rfl rfl) rfl (JH (JZ rfl rfl) rfl (Ej (Ja (hK8 (Jp rfl (fun h33=>?_) (fun h33=>?_)))))))))))))))
  ·
   refine Jd fun _ hK9 _=>(ED foll0 (by kernel_rfl) (JH (Jc rfl) rfl (JH (Jc rfl) rfl (JH (Eh rfl) rfl (JH (Jq u94 rfl sz22 rfl) rfl (JH (Jv rfl At.z rfl pl22) rfl (JH (Jc rfl) rfl (JH (Eh rfl) rfl (JH (Jq u94 rfl sz3 rfl) rfl (JH (Jv rfl At.z rfl pl3) rfl (JH (Eg (i':=s.pos) u22 sz5 rfl rfl rfl (by omega) hbt.sm) rfl (JH (JX rfl (hbt _ (by omega)) pl5) rfl (JH (EE u5 u2 rfl (by first | exact nw _ (by omega) | rfl)) rfl (JH (JF rfl rfl (nw _ (by omega))) rfl ?_))))))))))))));refine JH (Je rfl) rfl (Ej (Ja (hK9 (Jb (Jg (Jc rfl) rfl (Jg (Jc rfl) rfl (Jg (Eh rfl) rfl (Jg (Jq u94 rfl sz3 rfl) rfl (Jg (Jv rfl At.z rfl pl3) rfl (Jg (JF rfl rfl (nw _ (by omega))) rfl (Jg (Eh rfl) rfl (Jg (Jq u94 rfl sz3 rfl) rfl (Ez rfl rfl rfl rfl sz3 (by simp [*]) At.z (Jf (Ja (hK7 ?_))))))))))))))));refine Jd fun _ hK10 _=>(Jb (Jg (Jc rfl) rfl (Jg (Jc rfl) rfl (Jg (ER rfl rfl (by omega) rfl) rfl (Jg (Je rfl) rfl (Jf (Ja (hK10 (Jt (Jy rfl (Res.tmp rfl) fun w hH=>?_))))))))));replace hH:=hH.sublist (.cons_cons _ (List.Sublist.refl _));obtain ⟨e1,e2⟩:=nx_in (code:=code) (s:=s) h7 (by omega);rw [e1,e2];exact ⟨rfl,hH⟩
  ·
   refine Jo (Ja (hK7 (Jd fun _ hK11 _=>(Jb (Jg (Jc rfl) rfl (Jg (Jc rfl) rfl (Jg (ER rfl rfl (by omega) rfl) rfl (Jg (Je rfl) rfl (Jf (Ja (hK11 (Jt (Jy rfl (Res.tmp rfl) fun w hH=>?_)))))))))))));replace hH:=hH.sublist (.cons_cons _ (List.Sublist.refl _));obtain ⟨e1,e2⟩:=nx_out (code:=code) (s:=s) h7 (by omega);rw [e1,e2];exact ⟨rfl,hH⟩
theorem l01Pick_c {B:World} {H0 H:HP} {L:List SA} {w:World} {gs:Nat} {qb:Option Addr} {cb:Nat} {code:List Int} {s:Src} {ql:Option Addr} {cl:Nat} {l:List Int} (hbt:Bts H qb code) (hbk:BtOk code) (hl:Ints H ql l) (h0:0<l.length) (hll:l.length≤1048576) (hcl:code.length≤1048576) (hH:Hp B H0 H (srcO qb cb code gs s::L) w):Calls Tryz.prog 62 [.pointer (some ⟨gs,0,none⟩),.slice ql l.length cl].toArray w fun e w'=>e = .returned (.int .i64 (pkV code s l))∧Hp B H0 H (srcO qb cb code gs (pkS code s l)::L) w':=by
 refine JD Tryz.func62 rfl 12 rfl rfl [(0,.pointer (some ⟨gs,0,none⟩)),(1,.slice ql l.length cl)] rfl hH ?_;clear hH;have hnb:=nxV_bd hbk s (l.length:Int)
 have hnt:nxV code s (l.length:Int)=((nxV code s (l.length:Int)).toNat:Int):=by omega
 refine Jd fun _ hK1 _=>(Jb (Jg (Je rfl) rfl (Jf (Ja (hK1 (Jd fun _ hK2 _=>(Jb (Jg (Jc rfl) rfl (Jg (Jc rfl) rfl (Jg (Jc rfl) rfl (Jg (Jr u24 rfl rfl) rfl (Jz fn30 rfl rfl fun w hH=>(l01Next_c hbt hbk hcl (hH.front .z)).mono ?_))))))))))));rintro _ w ⟨rfl,hH⟩;refine ⟨_,rfl,fun a hF=>JL hF hH ?_⟩;refine Jg (Eg (i':=(nxV code s (l.length:Int)).toNat) u24 sz2 rfl rfl hnt (by omega) hl.sm) rfl (Jg (JX rfl (hl _ (by omega)) pl2) rfl (Jg (Je rfl) rfl (Jf (Ja (hK2 (Jt (Jy rfl (Res.tmp rfl) fun w hH=>?_)))))));replace hH:=hH.sublist (.cons_cons _ (List.Sublist.refl _));exact ⟨rfl,hH⟩
theorem l01Factor_c {B:World} {H0 H:HP} {L:List SA} {w:World} {gs:Nat} {qb:Option Addr} {cb:Nat} {code:List Int} {s:Src} (hbt:Bts H qb code) (hbk:BtOk code) (hcl:code.length≤1048576) (hH:Hp B H0 H (srcO qb cb code gs s::L) w):Calls Tryz.prog 105 [.pointer (some ⟨gs,0,none⟩)].toArray w fun e w'=>e = .returned (.int .i64 (fcV code s))∧Hp B H0 H (srcO qb cb code gs (fcS code s)::L) w':=by
 refine JD Tryz.func105 rfl 9 rfl rfl [(0,.pointer (some ⟨gs,0,none⟩))] rfl hH ?_;clear hH;have hnb:=nxV_bd hbk s 10006;refine Jd fun _ hK1 _=>(Jb (Jg (Je rfl) rfl (Jf (Ja (hK1 (Jd fun _ hK2 _=>(Jb (Jg (Jc rfl) rfl (Jg (Jc rfl) rfl (Jz fn30 rfl rfl fun w hH=>(l01Next_c hbt hbk hcl (hH.front .z)).mono ?_))))))))));rintro _ w ⟨rfl,hH⟩;refine ⟨_,rfl,fun a hF=>JL hF hH ?_⟩;refine Jg (JF rfl rfl (nw _ (by omega))) rfl (J.litN (intsC (fcL code s)) u24 ze2 sz2 rfl rfl rfl (by decide) (by decide) (fun v hv=>by obtain ⟨x,_,rfl⟩:=List.mem_map.1 hv;rfl) rfl fun g7=>(Jz fn62 rfl rfl fun w hH=>hH.lend .z fun Hl1 hle1 hA1 hB1 hH=>(l01Pick_c (hbt.le hle1) hbk (own_ints hA1) (Nat.le_of_ble_eq_true rfl) (Nat.le_of_ble_eq_true rfl) hcl (hH.front .z)).mono ?_));rintro _ w ⟨rfl,hH⟩;replace hH:=hB1 _ _ hH;refine ⟨_,rfl,fun a hF=>JL hF hH ?_⟩;refine Jg (Je rfl) rfl (Jf (Ja (hK2 (Jt (Jy rfl (Res.tmp rfl) fun w hH=>?_)))));replace hH:=hH.sublist (.cons _ (.cons_cons _ (List.Sublist.refl _)));exact ⟨rfl,hH⟩
theorem l01DrawDegrees_c {B:World} {H0 H:HP} {L:List SA} {w:World} {gs:Nat} {qb:Option Addr} {cb:Nat} {code:List Int} {s:Src} {most:Int} (hbt:Bts H qb code) (hbk:BtOk code) (hm:0≤most∧most≤1000) (hcl:code.length≤1048576) (hH:Hp B H0 H (srcO qb cb code gs s::L) w):Calls Tryz.prog 37 [.pointer (some ⟨gs,0,none⟩),.int .i64 most].toArray w fun e w'=>∃q c,e = .returned (.slice q (ddV code s most).length c)∧Hp B H0 H (own 2 1 q (ddV code s most).length c (intsC (ddV code s most))::srcO qb cb code gs (ddS code s most)::L) w':=by
 refine JD Tryz.func37 rfl 26 rfl rfl [(0,.pointer (some ⟨gs,0,none⟩)),(1,.int .i64 most)] rfl hH ?_;clear hH;have hnb:=nxV_bd hbk s (most+1);have hdb:=fun j=>(ddK_bd hbk (nxS code s (most+1)) j).1;refine Jd fun _ hK1 _=>(Jb (Jg (Je rfl) rfl (Jf (Ja (hK1 (Jd fun _ hK2 _=>(Jb (EX (MK.lit0I u24 sz2) rfl fun qo7 co7=>(Jg (Je rfl) rfl (Jf (Ja (hK2 (Jd fun _ hK3 _=>(Jd fun _ hK4 _=>(Jb (Jg (Jc rfl) rfl ?_))))))))))))))));refine Jg (Jc rfl) rfl (Jg (JF rfl rfl (nw _ (by omega))) rfl (Jz fn30 rfl rfl fun w hH=>(l01Next_c hbt hbk hcl (hH.front (.s .z))).mono ?_));rintro _ w ⟨rfl,hH⟩;refine ⟨_,rfl,fun a hF=>JL hF hH ?_⟩;refine Jg (Je rfl) rfl (Jf (Ja (hK4 (Jx (JP (σ:=Option Addr × Nat × Nat) (fun ⟨q,c,j⟩=>[(6,.int .i64 (nxV code s (most+1) - (j:Int))),(5,.slice q (ddK code (nxS code s (most+1)) j).1.length c)]) (fun ⟨q,c,j⟩=>H) (fun ⟨q,c,j⟩=>srcO qb cb code gs (ddK code (nxS code s (most+1)) j).2::own 2 1 q (ddK code (nxS code s (most+1)) j).1.length c (intsC (ddK code (nxS code s (most+1)) j).1)::L) (fun ⟨q,c,j⟩=>(j:Int)≤nxV code s (most+1)) (fun ⟨q,c,j⟩=>(nxV code s (most+1)).toNat - j) (qo7,co7,0) (by show (0:Int)≤_;omega) ⟨(congrArg (fun z=>some (Value.int .i64 z)) (by simp)),⟨rfl,trivial⟩⟩ rfl rfl ?_)))));rintro ⟨q,c,j⟩ hj _ hAg0;refine Jd fun _ hK5 _=>(Jd fun _ hK6 _=>(Jb (Jg (Jc rfl) rfl (Jg (Eq rfl rfl) rfl (Jf (Ja (hK6 (Jp rfl (fun h13=>?_) (fun h13=>?_)))))))))
 ·
  have hb12:=nxV_bd hbk (ddK code (nxS code s (most+1)) j).2 12;have hjl:=hdb j;refine Jo (Ja (hK5 (Jd fun _ hK7 _=>(Jx (Jb (Jg (Jc rfl) rfl (Jg (Jc rfl) rfl (Jg (Jc rfl) rfl (Jz fn30 rfl rfl fun w hH=>(l01Next_c hbt hbk hcl (hH.front .z)).mono ?_)))))))));rintro _ w ⟨rfl,hH⟩;refine ⟨_,rfl,fun a hF=>JL hF hH ?_⟩;refine Jg (JF rfl rfl (nw _ (by omega))) rfl (J.litN (intsC (ddL code (ddK code (nxS code s (most+1)) j).2)) u24 ze2 sz2 rfl rfl rfl (by decide) (by decide) (fun v hv=>by obtain ⟨x,_,rfl⟩:=List.mem_map.1 hv;rfl) rfl fun g21=>(Jz fn62 rfl rfl fun w hH=>hH.lend .z fun Hl1 hle1 hA1 hB1 hH=>(l01Pick_c (hbt.le hle1) hbk (own_ints hA1) (Nat.le_of_ble_eq_true rfl) (Nat.le_of_ble_eq_true rfl) hcl (hH.front .z)).mono ?_));rintro _ w ⟨rfl,hH⟩;replace hH:=hB1 _ _ hH;refine ⟨_,rfl,fun a hF=>JL hF hH ?_⟩;refine EX (MK.lit1I u24 ze2 sz2 rfl) rfl fun qo23 co23=>(Kb u24 ze2 sz2 by2 rfl rfl (by simp only [List.length_cons,List.length_nil];omega) .z (.s (.s .z)) (fun _ _=>(.s (.s .z))) rfl fun qo24 co24=>(Jg (Je rfl) rfl (Jf (JJ (Ja (hK7 (Jb (Jg (Jc rfl) rfl (Jg (ET rfl rfl (by first | exact nw _ (by omega) | rfl)) rfl (Jg (Je rfl) rfl (Jf (Ja (JC .z (JC .z ?_))))))))))))));exact hAg0 (qo24,co24,j+1) (by show ((j+1:Nat):Int)≤_;omega) (by show (nxV code s (most+1)).toNat - (j+1)<(nxV code s (most+1)).toNat - j;omega) 17 rfl rfl ⟨(congrArg (fun z=>some (Value.int .i64 z)) (by omega)),⟨rfl,trivial⟩⟩ rfl rfl
 ·
  refine JR (Jw (Jw (JY (Ja (hK3 (Jd fun _ hK8 _=>(Jb (Jg (Jc rfl) rfl (Jg (Je rfl) rfl (Jf (Ja (hK8 (Jt (Jy rfl (Res.tmp rfl) fun w hH=>?_))))))))))))));replace hH:=hH.sublist (.cons_cons _ (.cons_cons _ (List.Sublist.refl _)))
  have ej:j=(nxV code s (most+1)).toNat:=by omega
  subst ej;exact ⟨_,_,rfl,hH.front (.s .z)⟩
theorem l01Badly_c {B:World} {H0 H:HP} {L:List SA} {w:World} {gs:Nat} {qb:Option Addr} {cb:Nat} {code:List Int} {s:Src} {qds:Option Addr} {cds:Nat} {ds:List Int} (hbt:Bts H qb code) (hbk:BtOk code) (hn:ds.length≤1048576) (hcl:code.length≤1048576) (hH:Hp B H0 H (srcO qb cb code gs s::own 2 1 qds ds.length cds (intsC ds)::L) w):Calls Tryz.prog 36 [.pointer (some ⟨gs,0,none⟩),.slice qds ds.length cds].toArray w fun e w'=>∃q c,e = .returned (.slice q (bdyV code s ds).length c)∧Hp B H0 H (own 2 1 q (bdyV code s ds).length c (intsC (bdyV code s ds))::srcO qb cb code gs (bdyS code s ds)::L) w':=by
 refine JD Tryz.func36 rfl 19 rfl rfl [(0,.pointer (some ⟨gs,0,none⟩)),(1,.slice qds ds.length cds)] rfl hH ?_;clear hH;refine Jd fun _ hK1 _=>(Jb (Jg (Je rfl) rfl (Jf (Ja (hK1 (Jd fun _ hK2 _=>(Jd fun _ hK3 _=>(Jb (Jg (Jc rfl) rfl (Jz fn30 rfl rfl fun w hH=>(l01Next_c hbt hbk hcl (hH.front .z)).mono ?_))))))))));rintro _ w ⟨rfl,hH⟩;refine ⟨_,rfl,fun a hF=>JL hF hH ?_⟩;refine Jf (Ja (hK3 (Jx (Jd fun _ hK4 _=>(Jb (Jg (En rfl rfl) rfl (Jg (Je rfl) rfl (Jf (Ja (hK4 (Jp rfl (fun h7=>?_) (fun h7=>?_))))))))))))
 ·
  refine Jd fun _ hK5 _=>(Jb (Jg (Jc rfl) rfl (Jg (Jc rfl) rfl (J.litN (intsC ([0,13, -1]:List Int)) u24 ze2 sz2 rfl rfl rfl (by decide) (by decide) (fun v hv=>by obtain ⟨x,_,rfl⟩:=List.mem_map.1 hv;rfl) rfl fun g11=>(Jz fn62 rfl rfl fun w hH=>hH.lend .z fun Hl1 hle1 hA1 hB1 hH=>(l01Pick_c (hbt.le hle1) hbk (own_ints hA1) (Nat.le_of_ble_eq_true rfl) (Nat.le_of_ble_eq_true rfl) hcl (hH.front .z)).mono ?_)))));rintro _ w ⟨rfl,hH⟩;replace hH:=hB1 _ _ hH;refine ⟨_,rfl,fun a hF=>JL hF hH ?_⟩;refine EX (MK.lit1I u24 ze2 sz2 rfl) rfl fun qo13 co13=>(Kb u24 ze2 sz2 by2 rfl rfl (by simp only [List.length_cons,List.length_nil];omega) .z (.s (.s .z)) (fun _ _=>(.s (.s .z))) rfl fun qo14 co14=>(Jg (Je rfl) rfl (Jf (Ja (hK5 (Jt (JU (Jn (Jy rfl (Res.tmp rfl) fun w hH=>?_)))))))));replace hH:=hH.sublist (.cons _ (.cons _ (.cons_cons _ (.cons_cons _ (List.Sublist.refl _)))))
  have e1:bdyV code s ds=ds++[pkV code (nxS code s 40) [0,13, -1]]:=by unfold bdyV;rw [if_pos h7]
  have e2:bdyS code s ds=pkS code (nxS code s 40) [0,13, -1]:=by unfold bdyS;rw [if_pos h7]
  rw [e1,e2];exact ⟨_,_,rfl,hH.front (.s .z)⟩
 ·
  refine Jd fun _ hK6 _=>(Jb (Jg (En rfl rfl) rfl (Jg (Je rfl) rfl (Jf (Ja (hK6 (Jp rfl (fun h15=>?_) (fun h15=>?_))))))))
  ·
   refine Jd fun _ hK7 _=>(Jb (J.litN (intsC twos) u24 ze2 sz2 rfl rfl rfl (by decide) (by decide) (fun v hv=>by obtain ⟨x,_,rfl⟩:=List.mem_map.1 hv;rfl) rfl fun g17=>(Jg (Je rfl) rfl (Jf (Ja (hK7 (Jt (JU (Jn (Jy rfl (Res.tmp rfl) fun w hH=>?_))))))))));replace hH:=hH.sublist (.cons_cons _ (.cons_cons _ (.cons _ (List.Sublist.refl _))))
   have e1:bdyV code s ds=twos:=by unfold bdyV;rw [if_neg h7,if_pos h15]
   have e2:bdyS code s ds=nxS code s 40:=by unfold bdyS;rw [if_neg h7]
   rw [e1,e2];exact ⟨_,_,rfl,hH⟩
  ·
   refine Jo (JJ (Ja (hK2 (Jd fun _ hK8 _=>(Jb (Jg (Jc rfl) rfl (Jg (Je rfl) rfl (Jf (Ja (hK8 (Jt (Jy rfl (Res.tmp rfl) fun w hH=>?_))))))))))));replace hH:=hH.sublist (.cons_cons _ (.cons_cons _ (List.Sublist.refl _)))
   have e1:bdyV code s ds=ds:=by unfold bdyV;rw [if_neg h7,if_neg h15]
   have e2:bdyS code s ds=nxS code s 40:=by unfold bdyS;rw [if_neg h7]
   rw [e1,e2];exact ⟨_,_,rfl,hH.front (.s .z)⟩
theorem l01From_c {B:World} {H0 H:HP} {L:List SA} {w:World} {qb:Option Addr} {cb:Nat} {code:List Int} (hbt:Bts H qb code) (hbk:BtOk code) (hcl:code.length≤1048576) (hH:Hp B H0 H L w):Calls Tryz.prog 24 [.slice qb code.length cb].toArray w fun e w'=>∃g s,e = .returned (.pointer (some ⟨g,0,none⟩))∧Hp B H0 H (srcO qb cb code g s::L) w':=by
 refine JD Tryz.func24 rfl 38 rfl rfl [(0,.slice qb code.length cb)] rfl hH ?_;clear hH;refine Jd fun _ hK1 _=>(Jb (Jg (Je rfl) rfl (Jf (Ja (hK1 (Jd fun _ hK2 _=>(Jb (Jg (Jc rfl) rfl (Jg (Jc rfl) rfl (Jg (Jr u22 rfl rfl) rfl (Jg (EE u3 u92 rfl rfl) rfl (Jg (JF rfl rfl rfl) rfl (Jg (EO rfl rfl (fun w=>bd94_0_2 _ _ _ _ w)) rfl (Eo rfl rfl rfl fun g11=>(Jg (Je rfl) rfl ?_)))))))))))))));refine Jf (Ja (hK2 (Jd fun _ hK3 _=>(Jd fun _ hK4 _=>(Jb (Jg (Je rfl) rfl (Jf (Ja (hK4 (Jx (JP (σ:=Int × Nat) (fun ⟨h,k⟩=>[(4,.int .i64 (k:Int))]) (fun ⟨h,k⟩=>H) (fun ⟨h,k⟩=>srcO qb cb code g11 ⟨0,h⟩::L) (fun ⟨h,k⟩=>k≤code.length) (fun ⟨h,k⟩=>code.length - k) ((IntKind.u64.wrap (10193+IntKind.u64.wrap (code.length:Int))),0) (by show 0≤code.length;omega) ⟨rfl,trivial⟩ rfl rfl ?_)))))))))));rintro ⟨h,k⟩ hk _ hAg0;refine Jd fun _ hK5 _=>(Jd fun _ hK6 _=>(Jb (Jg (Jc rfl) rfl (Jg (Jc rfl) rfl (Jg (Jr u22 rfl rfl) rfl (Jg (JZ rfl rfl) rfl (Jg (Jc rfl) rfl (JW (jd:=16) rfl (fun hg16=>?_) (fun hg16=>?_)))))))))
 ·
  try have hg16p:=of_decide_eq_true hg16
  refine JK (Jc rfl) rfl rfl rfl hg16 (JK (JZ rfl rfl) rfl rfl rfl hg16 (Jg (JN rfl hg16 rfl) rfl (Jf (Ja (hK6 (Jp rfl (fun hc19=>?_) (fun hc19=>?_)))))))
  ·
   refine Jo (Ja (hK5 (Jd fun _ hK7 _=>(Jx (Ev [[], [], [1], [2], [3], [4], [], [], [6,7], [8], [9], [5,10], [11]] (by kernel_rfl) (JB (fun gh=>Jc rfl) (JB (fun gh=>Jc rfl) (JB (fun gh=>Eh rfl) (JB (fun gh=>Jq u94 rfl sz92 rfl) (JB (fun gh=>Jv rfl At.z rfl pl92) (JB (fun gh=>EZ rfl rfl rfl) (JB (fun gh=>Jc rfl) (JB (fun gh=>Jc rfl) (JB (fun gh=>Eg u22 sz5 rfl rfl rfl (by omega) hbt.sm) (JB (fun gh=>JX rfl (hbt _ (by omega)) pl5) ?_)))))))))))))));refine JB (fun gh=>EE u5 u92 rfl rfl) (JB (fun gh=>JF rfl rfl rfl) (JB (fun gh=>JF rfl rfl rfl) (Ee 13 3 foll0 (by kernel_rfl) rfl rfl fun gh=>(Eu (us':=(22,_)::(23,_)::(24,_)::(25,_)::(26,_)::(27,_)::(28,_)::(29,_)::(30,_)::(31,_)::(32,_)::(33,_)::(34,_)::_) (L':=_) rfl rfl (Jg (Eh rfl) rfl (Jg (Jq u94 rfl sz92 rfl) rfl (Ez rfl rfl rfl rfl sz92 (by simp [*]) At.z (Jf (Ef (Ej (JJ (Ja (hK7 (Jb (Jg (Jc rfl) rfl ?_)))))))))))))));refine Jg (JF rfl rfl (by first | exact nw _ (by omega) | rfl)) rfl (Jg (Je rfl) rfl (Jf (Ja ?_)));exact hAg0 (IntKind.u64.wrap (IntKind.u64.wrap (IntKind.u64.wrap (h * 1099511628211)+IntKind.u64.wrap (code.getD k 0))+37),k+1) (by show k+1≤code.length;omega) (by show code.length - (k+1)<code.length - k;omega) 27 rfl rfl ⟨rfl,trivial⟩ rfl rfl
  ·
   refine JR (Jw (Jw (JY (Ja (hK3 (Jd fun _ hK8 _=>(Jb (Jg (Jc rfl) rfl (Jg (Je rfl) rfl (Jf (Ja (hK8 (Jt (Jy rfl (Res.tmp rfl) fun w hH=>?_))))))))))))));replace hH:=hH.sublist (.cons_cons _ (List.Sublist.refl _));exact ⟨_,_,rfl,hH⟩
 ·
  try have hg16p:=of_decide_eq_false hg16
  refine JE rfl rfl rfl hg16 (JE rfl rfl rfl hg16 (Jg (JM rfl hg16 rfl) rfl (Jf (Ja (hK6 (Ey rfl (JR (Jw (Jw (JY (Ja (hK3 (Jd fun _ hK9 _=>(Jb (Jg (Jc rfl) rfl (Jg (Je rfl) rfl ?_))))))))))))))));refine Jf (Ja (hK9 (Jt (Jy rfl (Res.tmp rfl) fun w hH=>?_))));replace hH:=hH.sublist (.cons_cons _ (List.Sublist.refl _));exact ⟨_,_,rfl,hH⟩
section
variable (code : List Int) (ds : List Int)
def dmL (s:Src):List Int:=[0,0,1,2,nxV code s 5]
def dmStep (i:Nat) (x:List Int × Src):List Int × Src:=if (ds.getD i 0).tmod 2≠0 then (x.1.set i (nxV code x.2 2),nxS code x.2 2) else (x.1.set i (pkV code (nxS code x.2 5) (dmL code x.2)),pkS code (nxS code x.2 5) (dmL code x.2))
def dmK (s:Src):Nat→List Int × Src
 | 0=>(zP,s)
 | i+1=>dmStep code ds i (dmK s i)
def dmN:Nat:=min ds.length 8
def dmQ (s:Src):Bool:=decide (0<ds.length) && decide (nxV code (dmK code ds s (dmN ds)).2 24=0)
def dm1 (s:Src):Src:=nxS code (dmK code ds s (dmN ds)).2 24
def dmI (s:Src):Nat:=(nxV code (dm1 code ds s) (dmN ds:Nat)).toNat
def dm2 (s:Src):Src:=nxS code (dm1 code ds s) (dmN ds:Nat)
def bigL:List Int:=[11,20,21,2]
def dmV (s:Src):List Int:=if dmQ code ds s then (dmK code ds s (dmN ds)).1.set (dmI code ds s) (pkV code (dm2 code ds s) bigL) else (dmK code ds s (dmN ds)).1
def dmS (s:Src):Src:=if dmQ code ds s then pkS code (dm2 code ds s) bigL else if 0<ds.length then dm1 code ds s else (dmK code ds s (dmN ds)).2
def addT (out:List Term) (m:Pw) (x:Int):List Term:=ofS (acc (toS out) (scl (toS (ofS (addS [] m x))) 1))
def daStep (x:List Term × Src):List Term × Src:=if isMono ds (dmV code ds x.2) then (addT x.1 (dmV code ds x.2) (fcV code (dmS code ds x.2)),fcS code (dmS code ds x.2)) else (x.1,dmS code ds x.2)
def daK (s:Src):Nat→List Term × Src
 | 0=>([],s)
 | k+1=>daStep code ds (daK s k)
def daV (s:Src) (most:Int):List Term:=(daK code ds (nxS code s (most+1)) (nxV code s (most+1)).toNat).1
def daS (s:Src) (most:Int):Src:=(daK code ds (nxS code s (most+1)) (nxV code s (most+1)).toNat).2
variable (l : List Pw)
def dfM (s:Src):Pw:=l.getD (nxV code s l.length).toNat []
def dfStep (x:List Term × Src):List Term × Src:=(addT x.1 (dfM code l x.2) (fcV code (nxS code x.2 l.length)),fcS code (nxS code x.2 l.length))
def dfK (s:Src):Nat→List Term × Src
 | 0=>([],s)
 | k+1=>dfStep code l (dfK s k)
def dfN (s:Src) (most:Int):Nat:=if l.length=0 then 0 else (nxV code s (most+1)).toNat
end
def dfV (code ds:List Int) (n:Int) (s:Src) (most:Int):List Term:=(dfK code (monT ds n) (nxS code s (most+1)) (dfN code (monT ds n) s most)).1
def dfS (code ds:List Int) (n:Int) (s:Src) (most:Int):Src:=(dfK code (monT ds n) (nxS code s (most+1)) (dfN code (monT ds n) s most)).2
structure DrF (ds:List Int) (k:Nat) (f:List Term):Prop where
 sok:Sok 20 (toS f)
 kex:KEx ds (toS f)
 wf:Wfs f
 len:f.length≤k
theorem DrF.nil (ds:List Int):DrF ds 0 []:=⟨Sok.nil,KEx.nil,Wfs.nil,Nat.le_refl _⟩
theorem DrF.mono {ds:List Int} {k j:Nat} {f:List Term} (h:DrF ds k f) (hk:k≤j):DrF ds j f:=⟨h.sok,h.kex,h.wf,Nat.le_trans h.len hk⟩
theorem DrF.add {ds:List Int} {k:Nat} {f:List Term} {m:Pw} {x:Int} (h:DrF ds k f) (hm:Pok 20 m) (hx:Ex ds m):DrF ds (k+1) (addT f m x):=by
 have h1:Sok 20 (addS [] m x):=Sok.nil.add hm x
 have h2:KEx ds (addS [] m x):=fun z hz=>by
  have h3:=acc_kex (s:=[]) (l:=[(m,x)]) KEx.nil fun y hy=>by rw [List.mem_singleton.1 hy];exact hx
  exact h3 z (by simpa [acc] using hz)
 have e:toS (addT f m x)=acc (toS f) (scl (addS [] m x) 1):=by unfold addT;rw [toS_ofS,toS_ofS]
 have h4:Sok 20 (acc (toS f) (scl (addS [] m x) 1)):=h.sok.acc (scl_pok h1 1);refine ⟨by rw [e];exact h4,?_,?_,?_⟩
 ·rw [e];refine acc_kex h.kex fun z hz=>?_;unfold scl at hz;obtain ⟨y,hy,rfl⟩:=List.mem_map.1 hz;exact h2 y hy
 ·unfold addT;rw [toS_ofS];exact h4.wf (by decide)
 ·unfold addT;rw [ofS_len,toS_ofS];have h5:=acc_len (scl (addS [] m x) 1) (toS f);have h6:=addS_len [] m x;have h7:=h.len
  have h8:(scl (addS [] m x) 1).length=(addS [] m x).length:=by simp [scl]
  rw [toS_len,h8] at h5;simp only [List.length_nil] at h6
  omega
section
variable {code : List Int} (hb : BtOk code)
include hb
theorem dmK_mn (ds:List Int) (s:Src) : ∀k:Nat,Mono (dmK code ds s k).1∧∀j,(dmK code ds s k).1.getD j 0≤4
 | 0=>⟨Mono.zP,fun j=>by rw [show (dmK code ds s 0).1=List.replicate 8 0 from rfl,rep_get];omega⟩
 | k+1=>by
  obtain ⟨h1,h2⟩:=dmK_mn ds s k
  have key : ∀v:Int,0≤v∧v≤4→Mono ((dmK code ds s k).1.set k v)∧∀j,((dmK code ds s k).1.set k v).getD j 0≤4:=fun v hv=>⟨h1.set (by omega),fun j=>by
   rw [List.getD_eq_getElem?_getD,List.getElem?_set]
   split
   ·split
    ·simp;omega
    ·simp
   ·rw [← List.getD_eq_getElem?_getD];exact h2 j⟩
  show Mono (dmStep code ds k (dmK code ds s k)).1∧_
  simp only [dmK]
  unfold dmStep
  split
  ·have:=nxV_bd hb (dmK code ds s k).2 2
   exact key _ (by omega)
  ·have h3:=pkV_mem hb (nxS code (dmK code ds s k).2 5) (l:=dmL code (dmK code ds s k).2) (Nat.succ_pos _)
   have h4:=nxV_bd hb (dmK code ds s k).2 5
   refine key _ ?_
   generalize pkV code (nxS code (dmK code ds s k).2 5) (dmL code (dmK code ds s k).2)=v at h3
   unfold dmL at h3
   simp only [List.mem_cons,List.not_mem_nil,or_false] at h3
   omega
theorem dmV_mn (ds:List Int) (s:Src):Mono (dmV code ds s):=by
 have h1:=(dmK_mn hb ds s (dmN ds)).1;unfold dmV
 split
 ·have h3:=pkV_mem hb (dm2 code ds s) (l:=bigL) (Nat.succ_pos _);refine h1.set ?_;generalize pkV code (dm2 code ds s) bigL=v at h3;unfold bigL at h3;simp only [List.mem_cons,List.not_mem_nil,or_false] at h3
  omega
 ·exact h1
theorem daK_ok {ds:List Int} (hd : ∀j,0≤ds.getD j 0∧ds.getD j 0≤12) (hn:ds.length≤8) (s:Src) : ∀k:Nat,DrF ds k (daK code ds s k).1
 | 0=>DrF.nil ds
 | k+1=>by
  have h:=daK_ok hd hn s k
  show DrF ds (k+1) (daStep code ds (daK code ds s k)).1
  unfold daStep
  split
  ·rename_i hm
   have h1:=dmV_mn hb ds (daK code ds s k).2
   exact h.add (isMono_pok hm h1) (isMono_ex hd hn hm h1)
  ·exact h.mono (by omega)
theorem daV_ok {ds:List Int} (hd : ∀j,0≤ds.getD j 0∧ds.getD j 0≤12) (hn:ds.length≤8) (s:Src) {most:Int} (hm:0≤most):DrF ds most.toNat (daV code ds s most):=by
 have h:=daK_ok hb hd hn (nxS code s (most+1)) (nxV code s (most+1)).toNat;have h2:=nxV_bd hb s (most+1);exact h.mono (by omega)
theorem dfK_ok {ds:List Int} (h8:ds.length≤8) (hd : ∀j,j<ds.length→1≤ds.getD j 0∧ds.getD j 0≤12) (n:Int) (hl:0<(monT ds n).length) (s:Src) : ∀k:Nat,DrF ds k (dfK code (monT ds n) s k).1
 | 0=>DrF.nil ds
 | k+1=>by
  have h:=dfK_ok h8 hd n hl s k
  have h1:=nx_lt hb (dfK code (monT ds n) s k).2 hl
  have hm:dfM code (monT ds n) (dfK code (monT ds n) s k).2∈monS ds n:=by
   unfold dfM
   rw [List.getD_eq_getElem?_getD,List.getElem?_eq_getElem h1]
   exact List.mem_of_mem_take (List.getElem_mem h1)
  exact h.add (mon_pok h8 hm) (mon_ex h8 hm hd)
theorem dfV_ok {ds:List Int} (h8:ds.length≤8) (hd : ∀j,j<ds.length→1≤ds.getD j 0∧ds.getD j 0≤12) (n:Int) (s:Src) {most:Int} (hm:0≤most):DrF ds most.toNat (dfV code ds n s most):=by
 have h2:=nxV_bd hb s (most+1);unfold dfV dfN
 split
 ·exact (DrF.nil ds).mono (by omega)
 ·rename_i h0
  exact (dfK_ok hb h8 hd n (by omega) _ _).mono (by omega)
end
section
variable {code ds : List Int} {s : Src}
theorem dm_odd {i:Nat} (h:(ds.getD i 0).tmod 2≠0):dmK code ds s (i+1)=((dmK code ds s i).1.set i (nxV code (dmK code ds s i).2 2),nxS code (dmK code ds s i).2 2):=by
 show dmStep code ds i (dmK code ds s i)=_
 unfold dmStep;rw [if_pos h]
theorem dm_even {i:Nat} (h : ¬(ds.getD i 0).tmod 2≠0):dmK code ds s (i+1)=((dmK code ds s i).1.set i (pkV code (nxS code (dmK code ds s i).2 5) (dmL code (dmK code ds s i).2)),pkS code (nxS code (dmK code ds s i).2 5) (dmL code (dmK code ds s i).2)):=by
 show dmStep code ds i (dmK code ds s i)=_
 unfold dmStep;rw [if_neg h]
theorem dm_y (h1:decide ((0:Int)<(ds.length:Int))=true) (h2:nxV code (dmK code ds s (dmN ds)).2 24=0):dmV code ds s=(dmK code ds s (dmN ds)).1.set (dmI code ds s) (pkV code (dm2 code ds s) bigL)∧dmS code ds s=pkS code (dm2 code ds s) bigL:=by
 have h3:dmQ code ds s=true:=by
  unfold dmQ;rw [decide_eq_true h2,decide_eq_true (show 0<ds.length by have:=of_decide_eq_true h1;omega)]
  rfl
 unfold dmV dmS;rw [if_pos h3,if_pos h3];exact ⟨rfl,rfl⟩
theorem dm_n (h1:decide ((0:Int)<(ds.length:Int))=true) (h2 : ¬nxV code (dmK code ds s (dmN ds)).2 24=0):dmV code ds s=(dmK code ds s (dmN ds)).1∧dmS code ds s=nxS code (dmK code ds s (dmN ds)).2 24:=by
 have h3:dmQ code ds s=false:=by
  unfold dmQ;rw [decide_eq_false h2,Bool.and_false]
 unfold dmV dmS;rw [h3];exact ⟨rfl,by rw [if_neg (by decide),if_pos (show 0<ds.length by have:=of_decide_eq_true h1;omega)];rfl⟩
theorem dm_z (h1:decide ((0:Int)<(ds.length:Int))=false):dmV code ds s=(dmK code ds s (dmN ds)).1∧dmS code ds s=(dmK code ds s (dmN ds)).2:=by
 have h4 : ¬0<ds.length:=fun h=>by have:=of_decide_eq_false h1;omega
 have h3:dmQ code ds s=false:=by
  unfold dmQ;rw [decide_eq_false h4,Bool.false_and]
 unfold dmV dmS;rw [h3];exact ⟨rfl,by rw [if_neg (by decide),if_neg h4]⟩
end
theorem dm_pk {code:List Int} (hb:BtOk code) (t:Src):0≤pkV code (nxS code t 5) (dmL code t)∧pkV code (nxS code t 5) (dmL code t)≤4:=by
 have h3:=pkV_mem hb (nxS code t 5) (l:=dmL code t) (Nat.succ_pos _);have h4:=nxV_bd hb t 5;generalize pkV code (nxS code t 5) (dmL code t)=v at h3 ⊢;unfold dmL at h3;simp only [List.mem_cons,List.not_mem_nil,or_false] at h3
 omega
theorem big_pk {code:List Int} (hb:BtOk code) (t:Src):2≤pkV code t bigL∧pkV code t bigL≤21:=by
 have h3:=pkV_mem hb t (l:=bigL) (Nat.succ_pos _);generalize pkV code t bigL=v at h3 ⊢;unfold bigL at h3;simp only [List.mem_cons,List.not_mem_nil,or_false] at h3
 omega
theorem vu8_id {x:Int} (h:0≤x∧x≤255):IntKind.u8.wrap x=x:=by simp [IntKind.wrap,IntKind.signed,IntKind.bits];omega
theorem l01DrawMono_c {B:World} {H0 H:HP} {L:List SA} {w:World} {gs:Nat} {qb:Option Addr} {cb:Nat} {code:List Int} {s:Src} {qds:Option Addr} {cds:Nat} {ds:List Int} (hbt:Bts H qb code) (hbk:BtOk code) (hds:Ints H qds ds) (hn:ds.length≤1048576) (hcl:code.length≤1048576) (hH:Hp B H0 H (srcO qb cb code gs s::L) w):Calls Tryz.prog 103 [.pointer (some ⟨gs,0,none⟩),.slice qds ds.length cds].toArray w fun e w'=>e = .returned (.agg (bytesC (dmV code ds s)).toArray)∧Hp B H0 H (srcO qb cb code gs (dmS code ds s)::L) w':=by
 refine JD Tryz.func103 rfl 57 rfl rfl [(0,.pointer (some ⟨gs,0,none⟩)),(1,.slice qds ds.length cds)] rfl hH ?_;clear hH;have hz8:zP.length=8:=rfl;have hml:=fun k=>(dmK_mn hbk ds s k).1.len;refine Jd fun _ hK1 _=>(Jb (JG ze87 rfl fun g4=>(Jf (Ja (hK1 (Jd fun _ hK2 _=>(Jb (Jg (JQ bz87) rfl (JG ze87 rfl fun g5=>(Jk rfl rfl (by first | exact bytesC_one _ | exact intsC_one _ | exact Term.c_one _ | simp [Value.oneCell']) (by simpa [*] using sz87) (by simp [*]) At.z (Jf (Ja (hK2 (Jd fun _ hK3 _=>(Jd fun _ hK4 _=>(Jb ?_))))))))))))))));refine Jg (Je rfl) rfl (Jf (Ja (hK4 (Jx (JP (σ:=Nat) (fun (i:Nat)=>[(6,.int .i64 (i:Int))]) (fun (i:Nat)=>H) (fun (i:Nat)=>obj g5 (.cells (bytesC (dmK code ds s i).1).toArray 87 (0,0))::obj g4 (.cells (bytesC zP).toArray 87 (0,0))::srcO qb cb code gs (dmK code ds s i).2::L) (fun (i:Nat)=>i≤ds.length∧i≤8) (fun (i:Nat)=>8 - i) 0 ⟨by omega,by omega⟩ ⟨rfl,trivial⟩ rfl rfl ?_)))));rintro i ⟨hi,hi8⟩ _ hAg0;refine Jd fun _ hK5 _=>(Jd fun _ hK6 _=>(Jb (Jg (Jc rfl) rfl (Jg (Jc rfl) rfl (Jg (Jr u24 rfl rfl) rfl (Jg (JZ rfl rfl) rfl (Jg (Jc rfl) rfl (JW (jd:=12) rfl (fun hg12=>?_) (fun hg12=>?_)))))))))
 ·
  try have hg12p:=of_decide_eq_true hg12
  refine JK (Jc rfl) rfl rfl rfl hg12 (JK (JZ rfl rfl) rfl rfl rfl hg12 (Jg (JN rfl hg12 rfl) rfl (Jf (Ja (hK6 (Jp rfl (fun hc15=>?_) (fun hc15=>?_)))))))
  ·
   refine Jo (Ja (hK5 (Jd fun _ hK7 _=>(Jx (Jx (Jd fun _ hK8 _=>(Jb (Jg (Jc rfl) rfl (Jg (Jc rfl) rfl (Jg (Eg u24 sz2 rfl rfl rfl (by omega) hds.sm) rfl (Jg (JX rfl (hds _ (by omega)) pl2) rfl (Jg (ER rfl rfl (by decide) rfl) rfl (Jg (Ew rfl rfl) rfl (Jg (Je rfl) rfl (Jf ?_)))))))))))))));refine Ja (hK8 (Jp rfl (fun h26=>?_) (fun h26=>?_)))
   ·
    have hnb:=nxV_bd hbk (dmK code ds s i).2 2;refine Jb (Jg (Jc rfl) rfl (Jg (Jc rfl) rfl (Jz fn30 rfl rfl fun w hH=>(l01Next_c hbt hbk hcl (hH.front (.s (.s .z)))).mono ?_)));rintro _ w ⟨rfl,hH⟩;refine ⟨_,rfl,fun a hF=>JL hF hH ?_⟩;refine Jg (EE u2 u5 rfl (vu8_id (by omega))) rfl (Jg (Ea (i':=i) u87 sz5 rfl rfl rfl (by omega)) rfl (EV rfl rfl sz5 (by simp [*];omega) (.s .z) (Jf (JJ (JJ (Ja (hK7 (Jb (Jg (Jc rfl) rfl (Jg (JF rfl rfl (by first | exact nw _ (by omega) | rfl)) rfl (Jg (Je rfl) rfl (Jf (Ja (Ji .z (Ji (.s (.s .z)) ?_)))))))))))))));refine Ji (.s (.s .z)) ?_;exact hAg0 (i+1) ⟨by omega,by omega⟩ (by show 8 - (i+1)<8 - i;omega) 24 rfl rfl ⟨rfl,trivial⟩ rfl (by rw [dm_odd h26])
   ·
    have hnb:=nxV_bd hbk (dmK code ds s i).2 5;have hpb:=dm_pk hbk (dmK code ds s i).2;refine Jb (Jg (Jc rfl) rfl (Jg (Jc rfl) rfl (Jg (Jc rfl) rfl (Jz fn30 rfl rfl fun w hH=>(l01Next_c hbt hbk hcl (hH.front (.s (.s .z)))).mono ?_))));rintro _ w ⟨rfl,hH⟩;refine ⟨_,rfl,fun a hF=>JL hF hH ?_⟩;refine J.litN (intsC (dmL code (dmK code ds s i).2)) u24 ze2 sz2 rfl rfl rfl (by decide) (by decide) (fun v hv=>by obtain ⟨x,_,rfl⟩:=List.mem_map.1 hv;rfl) rfl fun g22=>(Jz fn62 rfl rfl fun w hH=>hH.lend .z fun Hl1 hle1 hA1 hB1 hH=>(l01Pick_c (hbt.le hle1) hbk (own_ints hA1) (Nat.le_of_ble_eq_true rfl) (Nat.le_of_ble_eq_true rfl) hcl (hH.front .z)).mono ?_);rintro _ w ⟨rfl,hH⟩;replace hH:=hB1 _ _ hH;refine ⟨_,rfl,fun a hF=>JL hF hH ?_⟩;refine Jg (EE u2 u5 rfl (vu8_id (by omega))) rfl (Jg (Ea (i':=i) u87 sz5 rfl rfl rfl (by omega)) rfl (EV rfl rfl sz5 (by simp [*];omega) (.s (.s .z)) (Jf (JJ (JJ (Ja (hK7 (Jb (Jg (Jc rfl) rfl (Jg (JF rfl rfl (by first | exact nw _ (by omega) | rfl)) rfl (Jg (Je rfl) rfl (Jf (Ja (JC .z (Ji .z ?_)))))))))))))));refine Ji (.s (.s .z)) (Ji (.s (.s .z)) ?_);exact hAg0 (i+1) ⟨by omega,by omega⟩ (by show 8 - (i+1)<8 - i;omega) 27 rfl rfl ⟨rfl,trivial⟩ rfl (by rw [dm_even h26])
  ·
   refine JR (Jw (Jw (JY (Ja (hK3 (Jd fun _ hK9 _=>(Jd fun _ hK10 _=>?_)))))))
   obtain rfl:i=dmN ds:=by unfold dmN;omega
   rcases Bool.eq_false_or_eq_true (decide ((0:Int)<(ds.length:Int))) with hb41 | hb41
   ·
    refine Jb (Jg (Jc rfl) rfl (Jg (Jr u24 rfl rfl) rfl (Jg (Eq rfl rfl) rfl (Jg (Jc rfl) rfl (JK (Jc rfl) rfl rfl rfl hb41 (Et fn30 rfl rfl hb41 rfl rfl fun w hH=>(l01Next_c hbt hbk hcl (hH.front (.s (.s .z)))).mono ?_))))));rintro _ w ⟨rfl,hH⟩;refine ⟨_,rfl,fun a hF=>JL hF hH ?_⟩;refine JK (En rfl rfl) rfl rfl rfl hb41 (Jg (JN rfl hb41 rfl) rfl (Jf (Ja (hK10 (Jp rfl (fun h45=>?_) (fun h45=>?_))))))
    ·
     have hnN:=nxV_bd hbk (dm1 code ds s) (dmN ds:Nat)
     have hN8:1≤dmN ds∧dmN ds≤8:=by first | (have:=of_decide_eq_true hb41;unfold dmN;omega) | (exfalso;simp at h45)
     have hri:nxV code (dm1 code ds s) (dmN ds:Nat)=((dmI code ds s:Nat):Int):=by unfold dmI;omega
     have hi8:dmI code ds s<8:=by unfold dmI;omega
     have hpk:=big_pk hbk (dm2 code ds s);refine Jb (Jg (Jc rfl) rfl (Jg (Jc rfl) rfl (Jg (Jr u24 rfl rfl) rfl (Jg (PR.eqv (v':=.int .i64 (dmN ds:Nat)) (by unfold dmN;congr 1;split <;> omega) (PR.min2 rfl rfl)) rfl (Jz fn30 rfl rfl fun w hH=>(l01Next_c hbt hbk hcl (hH.front .z)).mono ?_)))));rintro _ w ⟨rfl,hH⟩;refine ⟨_,rfl,fun a hF=>JL hF hH ?_⟩;refine Jg (Jc rfl) rfl (J.litN (intsC bigL) u24 ze2 sz2 rfl rfl rfl (by decide) (by decide) (fun v hv=>by obtain ⟨x,_,rfl⟩:=List.mem_map.1 hv;rfl) rfl fun g52=>(Jz fn62 rfl rfl fun w hH=>hH.lend .z fun Hl1 hle1 hA1 hB1 hH=>(l01Pick_c (hbt.le hle1) hbk (own_ints hA1) (Nat.le_of_ble_eq_true rfl) (Nat.le_of_ble_eq_true rfl) hcl (hH.front .z)).mono ?_));rintro _ w ⟨rfl,hH⟩;replace hH:=hB1 _ _ hH;refine ⟨_,rfl,fun a hF=>JL hF hH ?_⟩;refine Jg (EE u2 u5 rfl (vu8_id (show 0≤pkV code (dm2 code ds s) bigL∧pkV code (dm2 code ds s) bigL≤255 by omega))) rfl (Jg (Ea (i':=(dmI code ds s)) u87 sz5 rfl rfl hri (by omega)) rfl (EV rfl rfl sz5 (by simp [*]) (.s (.s .z)) (Jf (Ja (hK9 (Jd fun _ hK11 _=>(Jb (Jg (Jl rfl (.s (.s .z)) (by simpa [*] using ag87)) rfl (Jk rfl rfl (by first | exact bytesC_one _ | exact intsC_one _ | exact Term.c_one _ | simp [Value.oneCell']) (by simpa [*] using sz87) (by simp [*]) (.s (.s (.s .z))) (Jf (Ja (hK11 (Jt (Jy rfl (Res.agg rfl (.s (.s (.s .z))) (by simpa [*] using ag87)) fun w hH=>?_))))))))))))));replace hH:=hH.sublist (.cons _ (.cons_cons _ (.cons _ (.cons _ (List.Sublist.refl _)))));obtain ⟨e1,e2⟩:=dm_y hb41 h45;rw [e1,e2];exact ⟨rfl,hH⟩
    ·
     refine Jo (Ja (hK9 (Jd fun _ hK12 _=>(Jb (Jg (Jl rfl (.s .z) (by simpa [*] using ag87)) rfl (Jk rfl rfl (by first | exact bytesC_one _ | exact intsC_one _ | exact Term.c_one _ | simp [Value.oneCell']) (by simpa [*] using sz87) (by simp [*]) (.s (.s .z)) (Jf (Ja (hK12 (Jt (Jy rfl (Res.agg rfl (.s (.s .z)) (by simpa [*] using ag87)) fun w hH=>?_)))))))))));replace hH:=hH.sublist (.cons_cons _ (.cons _ (.cons _ (List.Sublist.refl _))));obtain ⟨e1,e2⟩:=dm_n hb41 h45;rw [e1,e2];exact ⟨rfl,hH⟩
   ·
    refine Jb (Jg (Jc rfl) rfl (Jg (Jr u24 rfl rfl) rfl (Jg (Eq rfl rfl) rfl (Jg (Jc rfl) rfl (JE rfl rfl rfl hb41 (JE rfl rfl rfl hb41 (JE rfl rfl rfl hb41 (Jg (JM rfl hb41 rfl) rfl (Jf (Ja (hK10 (Ey rfl (Jo (Ja (hK9 (Jd fun _ hK13 _=>?_))))))))))))))));refine Jb (Jg (Jl rfl At.z (by simpa [*] using ag87)) rfl (Jk rfl rfl (by first | exact bytesC_one _ | exact intsC_one _ | exact Term.c_one _ | simp [Value.oneCell']) (by simpa [*] using sz87) (by simp [*]) (.s .z) (Jf (Ja (hK13 (Jt (Jy rfl (Res.agg rfl (.s .z) (by simpa [*] using ag87)) fun w hH=>?_)))))));replace hH:=hH.sublist (.cons _ (.cons _ (.cons_cons _ (List.Sublist.refl _))));obtain ⟨e1,e2⟩:=dm_z hb41;rw [e1,e2];exact ⟨rfl,hH⟩
 ·
  try have hg12p:=of_decide_eq_false hg12
  refine JE rfl rfl rfl hg12 (JE rfl rfl rfl hg12 (Jg (JM rfl hg12 rfl) rfl (Jf (Ja (hK6 (Ey rfl (JR (Jw (Jw (JY (Ja (hK3 (Jd fun _ hK14 _=>(Jd fun _ hK15 _=>?_))))))))))))))
  obtain rfl:i=dmN ds:=by unfold dmN;omega
  rcases Bool.eq_false_or_eq_true (decide ((0:Int)<(ds.length:Int))) with hb41 | hb41
  ·
   refine Jb (Jg (Jc rfl) rfl (Jg (Jr u24 rfl rfl) rfl (Jg (Eq rfl rfl) rfl (Jg (Jc rfl) rfl (JK (Jc rfl) rfl rfl rfl hb41 (Et fn30 rfl rfl hb41 rfl rfl fun w hH=>(l01Next_c hbt hbk hcl (hH.front (.s (.s .z)))).mono ?_))))));rintro _ w ⟨rfl,hH⟩;refine ⟨_,rfl,fun a hF=>JL hF hH ?_⟩;refine JK (En rfl rfl) rfl rfl rfl hb41 (Jg (JN rfl hb41 rfl) rfl (Jf (Ja (hK15 (Jp rfl (fun h45=>?_) (fun h45=>?_))))))
   ·
    have hnN:=nxV_bd hbk (dm1 code ds s) (dmN ds:Nat)
    have hN8:1≤dmN ds∧dmN ds≤8:=by first | (have:=of_decide_eq_true hb41;unfold dmN;omega) | (exfalso;simp at h45)
    have hri:nxV code (dm1 code ds s) (dmN ds:Nat)=((dmI code ds s:Nat):Int):=by unfold dmI;omega
    have hi8:dmI code ds s<8:=by unfold dmI;omega
    have hpk:=big_pk hbk (dm2 code ds s);refine Jb (Jg (Jc rfl) rfl (Jg (Jc rfl) rfl (Jg (Jr u24 rfl rfl) rfl (Jg (PR.eqv (v':=.int .i64 (dmN ds:Nat)) (by unfold dmN;congr 1;split <;> omega) (PR.min2 rfl rfl)) rfl (Jz fn30 rfl rfl fun w hH=>(l01Next_c hbt hbk hcl (hH.front .z)).mono ?_)))));rintro _ w ⟨rfl,hH⟩;refine ⟨_,rfl,fun a hF=>JL hF hH ?_⟩;refine Jg (Jc rfl) rfl (J.litN (intsC bigL) u24 ze2 sz2 rfl rfl rfl (by decide) (by decide) (fun v hv=>by obtain ⟨x,_,rfl⟩:=List.mem_map.1 hv;rfl) rfl fun g52=>(Jz fn62 rfl rfl fun w hH=>hH.lend .z fun Hl1 hle1 hA1 hB1 hH=>(l01Pick_c (hbt.le hle1) hbk (own_ints hA1) (Nat.le_of_ble_eq_true rfl) (Nat.le_of_ble_eq_true rfl) hcl (hH.front .z)).mono ?_));rintro _ w ⟨rfl,hH⟩;replace hH:=hB1 _ _ hH;refine ⟨_,rfl,fun a hF=>JL hF hH ?_⟩;refine Jg (EE u2 u5 rfl (vu8_id (show 0≤pkV code (dm2 code ds s) bigL∧pkV code (dm2 code ds s) bigL≤255 by omega))) rfl (Jg (Ea (i':=(dmI code ds s)) u87 sz5 rfl rfl hri (by omega)) rfl (EV rfl rfl sz5 (by simp [*]) (.s (.s .z)) (Jf (Ja (hK14 (Jd fun _ hK16 _=>(Jb (Jg (Jl rfl (.s (.s .z)) (by simpa [*] using ag87)) rfl (Jk rfl rfl (by first | exact bytesC_one _ | exact intsC_one _ | exact Term.c_one _ | simp [Value.oneCell']) (by simpa [*] using sz87) (by simp [*]) (.s (.s (.s .z))) (Jf (Ja (hK16 (Jt (Jy rfl (Res.agg rfl (.s (.s (.s .z))) (by simpa [*] using ag87)) fun w hH=>?_))))))))))))));replace hH:=hH.sublist (.cons _ (.cons_cons _ (.cons _ (.cons _ (List.Sublist.refl _)))));obtain ⟨e1,e2⟩:=dm_y hb41 h45;rw [e1,e2];exact ⟨rfl,hH⟩
   ·
    refine Jo (Ja (hK14 (Jd fun _ hK17 _=>(Jb (Jg (Jl rfl (.s .z) (by simpa [*] using ag87)) rfl (Jk rfl rfl (by first | exact bytesC_one _ | exact intsC_one _ | exact Term.c_one _ | simp [Value.oneCell']) (by simpa [*] using sz87) (by simp [*]) (.s (.s .z)) (Jf (Ja (hK17 (Jt (Jy rfl (Res.agg rfl (.s (.s .z)) (by simpa [*] using ag87)) fun w hH=>?_)))))))))));replace hH:=hH.sublist (.cons_cons _ (.cons _ (.cons _ (List.Sublist.refl _))));obtain ⟨e1,e2⟩:=dm_n hb41 h45;rw [e1,e2];exact ⟨rfl,hH⟩
  ·
   refine Jb (Jg (Jc rfl) rfl (Jg (Jr u24 rfl rfl) rfl (Jg (Eq rfl rfl) rfl (Jg (Jc rfl) rfl (JE rfl rfl rfl hb41 (JE rfl rfl rfl hb41 (JE rfl rfl rfl hb41 (Jg (JM rfl hb41 rfl) rfl (Jf (Ja (hK15 (Ey rfl (Jo (Ja (hK14 (Jd fun _ hK18 _=>?_))))))))))))))));refine Jb (Jg (Jl rfl At.z (by simpa [*] using ag87)) rfl (Jk rfl rfl (by first | exact bytesC_one _ | exact intsC_one _ | exact Term.c_one _ | simp [Value.oneCell']) (by simpa [*] using sz87) (by simp [*]) (.s .z) (Jf (Ja (hK18 (Jt (Jy rfl (Res.agg rfl (.s .z) (by simpa [*] using ag87)) fun w hH=>?_)))))));replace hH:=hH.sublist (.cons _ (.cons _ (.cons_cons _ (List.Sublist.refl _))));obtain ⟨e1,e2⟩:=dm_z hb41;rw [e1,e2];exact ⟨rfl,hH⟩
theorem fn103:Fn Tryz.prog 103:=⟨_,Tryz.func103,by kernel_rfl,rfl⟩
theorem fn105:Fn Tryz.prog 105:=⟨_,Tryz.func105,by kernel_rfl,rfl⟩
theorem fn113:Fn Tryz.prog 113:=⟨_,Tryz.func113,by kernel_rfl,rfl⟩
theorem sg_g {m:Pw} {x:Int} (hm:Pok 20 m):Gok 20 (toS (ofS (addS [] m x))):=by
 rw [toS_ofS];exact (Sok.nil.add hm x).g
theorem sg_len (m:Pw) (x:Int):(ofS (addS [] m x)).length≤1:=by
 rw [ofS_len];have:=addS_len [] m x
 simpa using this
theorem sg_wf {m:Pw} {x:Int} (hm:Pok 20 m):Wfs (ofS (addS [] m x)):=(Sok.nil.add hm x).wf (by decide)
theorem dfM_ok {code:List Int} (hb:BtOk code) {ds:List Int} (h8:ds.length≤8) (hd : ∀j,j<ds.length→1≤ds.getD j 0∧ds.getD j 0≤12) (n:Int) (hl:0<(monT ds n).length) (s:Src):Mono (dfM code (monT ds n) s)∧Pok 20 (dfM code (monT ds n) s)∧Ex ds (dfM code (monT ds n) s):=by
 have h1:=nx_lt hb s hl
 have hm:dfM code (monT ds n) s∈monS ds n:=by
  unfold dfM;rw [List.getD_eq_getElem?_getD,List.getElem?_eq_getElem h1];exact List.mem_of_mem_take (List.getElem_mem h1)
 have h2:=mon_pok h8 hm;exact ⟨⟨h2.len,fun j=>by have:=h2.bd j;omega⟩,h2,mon_ex h8 hm hd⟩
theorem monT_len8 {ds:List Int} {n:Int} (h8:ds.length≤8) : ∀p∈monT ds n,p.length=8:=fun p hp=>(mon_pok h8 (List.mem_of_mem_take hp)).len
theorem EB {P:Program} {c0:Code} {Q:Exit→Act→World→Prop} {n:Nat} {B:World} {H0 H:HP} {us:List (Nat × Value)} {L L1:List SA} {A:SA} (hr:Rm L A L1) (h : ∀H',Le H H' →A.holds H' →CJ P c0 Q n B H0 us H' L1):CJ P c0 Q n B H0 us H L:=fun a w hF hH=>(EJ.fixA (R:=fun a w=>c0.wp P Q a w) hr fun H' h1 h2=>h H' h1 h2) a w hF hH
section
variable {code ds : List Int} {s : Src} {k : Nat}
theorem da_y (h:isMono ds (dmV code ds (daK code ds s k).2)=true):daK code ds s (k+1)=(addT (daK code ds s k).1 (dmV code ds (daK code ds s k).2) (fcV code (dmS code ds (daK code ds s k).2)),fcS code (dmS code ds (daK code ds s k).2)):=by
 show daStep code ds (daK code ds s k)=_
 unfold daStep;rw [if_pos h]
theorem df_s (l:List Pw):dfK code l s (k+1)=(addT (dfK code l s k).1 (dfM code l (dfK code l s k).2) (fcV code (nxS code (dfK code l s k).2 l.length)),fcS code (nxS code (dfK code l s k).2 l.length)):=rfl
theorem da_n (h:isMono ds (dmV code ds (daK code ds s k).2)=false):daK code ds s (k+1)=((daK code ds s k).1,dmS code ds (daK code ds s k).2):=by
 show daStep code ds (daK code ds s k)=_
 unfold daStep;rw [h]
 rfl
end
theorem l01DrawAny_c {B:World} {H0 H:HP} {L:List SA} {w:World} {gs:Nat} {qb:Option Addr} {cb:Nat} {code:List Int} {s:Src} {qds:Option Addr} {cds:Nat} {ds:List Int} {most:Int} (hbt:Bts H qb code) (hbk:BtOk code) (hds:Ints H qds ds) (hd : ∀j,0≤ds.getD j 0∧ds.getD j 0≤12) (hn:ds.length≤8) (hm:0≤most∧most≤400) (hcl:code.length≤1048576) (hH:Hp B H0 H (srcO qb cb code gs s::L) w):Calls Tryz.prog 61 [.pointer (some ⟨gs,0,none⟩),.slice qds ds.length cds,.int .i64 most].toArray w fun e w'=>∃q c,e = .returned (.agg [.slice q (daV code ds s most).length c].toArray)∧Hp B H0 H (own 89 9 q (daV code ds s most).length c (tsC (daV code ds s most))::srcO qb cb code gs (daS code ds s most)::L) w':=by
 refine JD Tryz.func61 rfl 32 rfl rfl [(0,.pointer (some ⟨gs,0,none⟩)),(1,.slice qds ds.length cds),(2,.int .i64 most)] rfl hH ?_;clear hH;have hnb:=nxV_bd hbk s (most+1);have hok:=fun k=>daK_ok hbk hd hn (nxS code s (most+1)) k;have hDk:=hok 0;refine Jd fun _ hK1 _=>(Jb (JG ze42 rfl fun g6=>(Jf (Ja (hK1 (Jd fun _ hK2 _=>(Jb (EG 89 9 (Jg (JQ bz42) rfl (JG ze42 rfl fun g7=>(Jk rfl rfl (by first | exact bytesC_one _ | exact intsC_one _ | exact Term.c_one _ | simp [Value.oneCell']) (by simpa [*] using sz42) (by simp [*]) At.z (Jf (Ja (hK2 (Jd fun _ hK3 _=>(Jd fun _ hK4 _=>?_))))))))))))))));refine Jb (Jg (Jc rfl) rfl (Jg (Jc rfl) rfl (Jg (JF rfl rfl (nw _ (by omega))) rfl (Jz fn30 rfl rfl fun w hH=>(l01Next_c hbt hbk hcl (hH.front (.s (.s (.s .z))))).mono ?_))));rintro _ w ⟨rfl,hH⟩;refine ⟨_,rfl,fun a hF=>JL hF hH ?_⟩;refine Jg (Je rfl) rfl (Jf (Ja (hK4 (Jx (JP (σ:=Option Addr × Nat × Nat) (fun ⟨q,c,j⟩=>[(8,.int .i64 (nxV code s (most+1) - (j:Int)))]) (fun ⟨q,c,j⟩=>H) (fun ⟨q,c,j⟩=>srcO qb cb code gs (daK code ds (nxS code s (most+1)) j).2::obj g7 (.cells [.slice q (daK code ds (nxS code s (most+1)) j).1.length c].toArray 42 (0,0))::own 89 9 q (daK code ds (nxS code s (most+1)) j).1.length c (tsC (daK code ds (nxS code s (most+1)) j).1)::obj g6 (.cells [.slice none 0 0].toArray 42 (0,0))::L) (fun ⟨q,c,j⟩=>(j:Int)≤nxV code s (most+1)) (fun ⟨q,c,j⟩=>(nxV code s (most+1)).toNat - j) (none,0,0) (by show (0:Int)≤_;omega) ⟨(congrArg (fun z=>some (Value.int .i64 z)) (by simp)),trivial⟩ rfl rfl ?_)))));rintro ⟨q,c,j⟩ hj _ hAg0;have hDk:=hok j;refine Jd fun _ hK5 _=>(Jd fun _ hK6 _=>(Jb (Jg (Jc rfl) rfl (Jg (Eq rfl rfl) rfl (Jf (Ja (hK6 (Jp rfl (fun h16=>?_) (fun h16=>?_)))))))))
 ·
  have hmm:=dmV_mn hbk ds (daK code ds (nxS code s (most+1)) j).2;have hm8:=hmm.len;have hlk:=hDk.len;refine Jo (Ja (hK5 (Jd fun _ hK7 _=>(Jx (Jd fun _ hK8 _=>(Jb (Jg (Jc rfl) rfl (Jg (Jc rfl) rfl (Jz fn103 rfl rfl fun w hH=>(l01DrawMono_c hbt hbk hds (by omega) hcl (hH.front .z)).mono ?_)))))))));rintro _ w ⟨rfl,hH⟩;refine ⟨_,rfl,fun a hF=>JL hF hH ?_⟩;refine JG ze87 rfl fun g9=>(Jk rfl rfl (by first | exact bytesC_one _ | exact intsC_one _ | exact Term.c_one _ | simp [Value.oneCell']) (by simpa [*] using sz87) (by simp [*]) At.z (Jf (Ja (hK8 (Jd fun _ hK9 _=>(Jb (Jg (Jc rfl) rfl (Jg (Jl rfl At.z (by simpa [*] using ag87)) rfl (Jz fn104 rfl rfl fun w hH=>(l01Mono_c hds hmm (by omega) (fun j _=>(hd j).1) hH).mono ?_)))))))));rintro _ w ⟨rfl,hH⟩;refine ⟨_,rfl,fun a hF=>JL hF hH ?_⟩;refine Jf (Ja (hK9 (Ek rfl (fun h24=>?_) (fun h24=>?_))))
  ·
   have hmp:=isMono_pok h24 hmm;have hme:=isMono_ex hd hn h24 hmm;have hfb:=fcV_bd hbk (dmS code ds (daK code ds (nxS code s (most+1)) j).2);refine Ed (Rs:=[_,_,_,_,_]) 7 [[], [], [], [2], [1,2,3], [0,1,2,3,4], [0,1,2,3,4,5]] [[9], [7], [], [], [], [4,10], []] [[], [], [], [8], [], [], [9]] rfl rfl (by kernel_rfl) ?_;apply Jm 1 rfl
   iterate 3 focus (intros;(conv=>lhs;simp only [Jh,Js,JO,Ju,JI,eq_self,reduceEqDiff,reduceIte,reduceSub,reduceAdd,JxA,JxB]);all_goals rfl)
   ·
    intro gh X K zq zc zq2 zc2 zb zv hK;refine Jg (Jl rfl At.z (by simpa [*] using ag42)) rfl (Jj ?_);exact hK zq zc zq2 zc2 zb zv
   ·
    intro gh gh' h
    rfl
   apply Jm 2 rfl
   iterate 3 focus (intros;(conv=>lhs;simp only [Jh,Js,JO,Ju,JI,eq_self,reduceEqDiff,reduceIte,reduceSub,reduceAdd,JxA,JxB]);all_goals rfl)
   ·
    intro gh X K zq zc zq2 zc2 zb zv hK;refine Jg (Jl rfl At.z (by simpa [*] using ag87)) rfl (Jj ?_);exact hK zq zc zq2 zc2 zb zv
   ·
    intro gh gh' h
    rfl
   apply Jm 3 rfl
   iterate 3 focus (intros;(conv=>lhs;simp only [Jh,Js,JO,Ju,JI,eq_self,reduceEqDiff,reduceIte,reduceSub,reduceAdd,JxA,JxB]);all_goals rfl)
   ·
    intro gh X K zq zc zq2 zc2 zb zv hK;refine Jg (Jc rfl) rfl (Jj ?_);exact hK zq zc zq2 zc2 zb zv
   ·
    intro gh gh' h
    rfl
   apply Eb 4 rfl
   iterate 3 focus (intros;(conv=>lhs;simp only [Jh,Js,JO,Ju,JI,eq_self,reduceEqDiff,reduceIte,reduceSub,reduceAdd,JxA,JxB]);all_goals rfl)
   ·
    intro gh X K zq zc zq2 zc2 zb zv hK;refine Jz fn105 rfl rfl fun w hH=>(l01Factor_c hbt hbk hcl (hH.front .z)).mono ?_;rintro _ w ⟨rfl,hH⟩;refine ⟨_,rfl,fun a hF=>JL hF hH ?_⟩;refine Jj ?_;exact hK zq zc zq2 zc2 zb zv
   ·
    intro gh gh' h;refine ⟨?_,?_⟩ <;> rfl
   apply Eb 5 rfl
   iterate 3 focus (intros;(conv=>lhs;simp only [Jh,Js,JO,Ju,JI,eq_self,reduceEqDiff,reduceIte,reduceSub,reduceAdd,JxA,JxB]);all_goals rfl)
   ·
    intro gh X K zq zc zq2 zc2 zb zv hK;refine Jz fn91 rfl rfl fun w hH=>(l01Single_c hmm (by omega) hH).mono ?_;rintro _ w ⟨qo29,co29,rfl,hH⟩;refine ⟨_,rfl,fun a hF=>JL hF hH ?_⟩;refine Jj ?_;exact hK qo29 co29 zq2 zc2 zb zv
   ·
    intro gh gh' h;refine ⟨?_,?_⟩ <;> rfl
   apply Eb 6 rfl
   iterate 3 focus (intros;(conv=>lhs;simp only [Jh,Js,JO,Ju,JI,eq_self,reduceEqDiff,reduceIte,reduceSub,reduceAdd,JxA,JxB]);all_goals rfl)
   ·
    intro gh X K zq zc zq2 zc2 zb zv hK;refine Jz fn92 rfl rfl fun w hH=>hH.lend (.s .z) fun Hl1 hle1 hA1 hB1 hH=>hH.lend .z fun Hl2 hle2 hA2 hB2 hH=>(l01Add_c ((own_terms hDk.wf hA1).le hle2) (own_terms (sg_wf hmp) hA2) hDk.sok (sg_g hmp) (by omega) (by omega) (by have:=sg_len (dmV code ds (daK code ds (nxS code s (most+1)) j).2) (fcV code (dmS code ds (daK code ds (nxS code s (most+1)) j).2));omega) hH).mono ?_;rintro _ w ⟨qo30,co30,rfl,hH⟩;replace hH:=hB2 _ _ hH;replace hH:=hB1 _ _ hH;refine ⟨_,rfl,fun a hF=>JL hF hH ?_⟩;refine Ji .z (Ji (.s .z) (Ji (.s (.s .z)) (Jj ?_)));exact hK qo30 co30 zq2 zc2 zb zv
   ·
    intro gh gh' h;refine ⟨?_,?_⟩ <;> (first | simp only [h 4 rfl] | rfl)
   apply Es 7 rfl
   iterate 3 focus (intros;(conv=>lhs;simp only [Jh,Js,JO,Ju,JI,eq_self,reduceEqDiff,reduceIte,reduceSub,reduceAdd,JxA,JxB]);all_goals rfl)
   ·
    intro gh X K hK;refine Jk rfl rfl (by first | exact bytesC_one _ | exact intsC_one _ | exact Term.c_one _ | simp [Value.oneCell']) (by simpa [*] using sz42) (by simp [*]) At.z (Jj ?_);exact hK
   ·
    intro gh gh' h
    first | simp only [h 4 rfl,h 5 rfl] | rfl
   apply Ec [0,1,2,3,4,5,6] [0,1,2,3,4,5,6,7,10,11] foll0 rfl rfl rfl (by rfl)
   iterate 2 focus (intros;(conv=>lhs;simp only [Jh,Js,JO,Ju,JI,eq_self,reduceEqDiff,reduceIte,reduceSub,reduceAdd,JxA,JxB]);all_goals rfl)
   intro gh;generalize (gh 4).c=co29;generalize (gh 4).q=qo29;generalize (gh 5).c=co30;generalize (gh 5).q=qo30;clear gh;refine JJ (Ja (hK7 (Jb (Jg (Jc rfl) rfl (Jg (ET rfl rfl (by first | exact nw _ (by omega) | rfl)) rfl (Jg (Je rfl) rfl (Jf (Ja (JC (.s (.s (.s (.s (.s .z))))) (JC (.s .z) (JC (.s (.s (.s .z))) (Ji (.s (.s (.s .z))) (Ji (.s (.s .z)) (Ji (.s (.s (.s .z))) (Ji (.s (.s (.s .z))) ?_)))))))))))))));exact hAg0 (qo30,co30,j+1) (by show ((j+1:Nat):Int)≤_;omega) (by show (nxV code s (most+1)).toNat - (j+1)<(nxV code s (most+1)).toNat - j;omega) 19 rfl rfl ⟨(congrArg (fun z=>some (Value.int .i64 z)) (by omega)),trivial⟩ rfl (by dsimp only;rw [da_y h24];rfl)
  ·
   refine Jo (JJ (Ja (hK7 (Jb (Jg (Jc rfl) rfl (Jg (ET rfl rfl (by first | exact nw _ (by omega) | rfl)) rfl (Jg (Je rfl) rfl (Jf (Ja (JC .z ?_))))))))));exact hAg0 (q,c,j+1) (by show ((j+1:Nat):Int)≤_;omega) (by show (nxV code s (most+1)).toNat - (j+1)<(nxV code s (most+1)).toNat - j;omega) 13 rfl rfl ⟨(congrArg (fun z=>some (Value.int .i64 z)) (by omega)),trivial⟩ rfl (by dsimp only;rw [da_n h24])
 ·
  refine JR (Jw (Jw (JY (Ja (hK3 (Jd fun _ hK10 _=>(Jb (Jg (Jl rfl (.s .z) (by simpa [*] using ag42)) rfl (Jk rfl rfl (by first | exact bytesC_one _ | exact intsC_one _ | exact Term.c_one _ | simp [Value.oneCell']) (by simpa [*] using sz42) (by simp [*]) (.s (.s (.s .z))) (Jf (Ja (hK10 (Jt (Jy rfl (Res.agg rfl (.s (.s (.s .z))) (by simpa [*] using ag42)) fun w hH=>?_))))))))))))));replace hH:=hH.sublist (.cons_cons _ (.cons _ (.cons_cons _ (.cons _ (List.Sublist.refl _)))))
  have ej:j=(nxV code s (most+1)).toNat:=by omega
  subst ej;exact ⟨_,_,rfl,hH.front (.s .z)⟩
theorem l01DrawForm_c {B:World} {H0 H:HP} {L:List SA} {w:World} {gs:Nat} {qb:Option Addr} {cb:Nat} {code:List Int} {s:Src} {qds:Option Addr} {cds:Nat} {ds:List Int} {n:Int} {most:Int} (hbt:Bts H qb code) (hbk:BtOk code) (hds:Ints H qds ds) (hd : ∀j,j<ds.length→1≤ds.getD j 0∧ds.getD j 0≤12) (h8:ds.length≤8) (hnn : -1000000≤n∧n≤1000000) (hm:0≤most∧most≤400) (hcl:code.length≤1048576) (hH:Hp B H0 H (srcO qb cb code gs s::L) w):Calls Tryz.prog 71 [.pointer (some ⟨gs,0,none⟩),.slice qds ds.length cds,.int .i64 n,.int .i64 most].toArray w fun e w'=>∃q c,e = .returned (.agg [.slice q (dfV code ds n s most).length c].toArray)∧Hp B H0 H (own 89 9 q (dfV code ds n s most).length c (tsC (dfV code ds n s most))::srcO qb cb code gs (dfS code ds n s most)::L) w':=by
 refine JD Tryz.func71 rfl 42 rfl rfl [(0,.pointer (some ⟨gs,0,none⟩)),(1,.slice qds ds.length cds),(2,.int .i64 n),(3,.int .i64 most)] rfl hH ?_;have hw0:=hH.old;have hw1:=hH.le;clear hH;have hnb:=nxV_bd hbk s (most+1);have hml:=monT_len ds n;have hDk:=DrF.nil ds;refine Jd fun _ hK1 _=>(Jb (JG ze42 rfl fun g8=>(Jf (Ja (hK1 (Jd fun _ hK2 _=>(Jb (Jg (Jc rfl) rfl (Jg (Jc rfl) rfl (Jz fn113 rfl rfl fun w hH=>(l01Monomials_c hds hd h8 hnn hH).mono ?_))))))))));rintro _ w ⟨qo14,co14,rfl,hH⟩;refine ⟨_,rfl,fun a hF=>JL hF hH ?_⟩;refine EG 89 9 (Jg (JQ bz42) rfl (JG ze42 rfl fun g10=>(Jg (Je rfl) rfl (Jk rfl rfl (by first | exact bytesC_one _ | exact intsC_one _ | exact Term.c_one _ | simp [Value.oneCell']) (by simpa [*] using sz42) (by simp [*]) At.z (Jf (Ja (hK2 (Jd fun _ hK3 _=>(Jd fun _ hK4 _=>(EB (.s (.s .z)) fun Ho14 hleo14 hAo14=>?_))))))))));replace hbt:=hbt.le hleo14;replace hds:=hds.le hleo14;have hxo14:=own_monos (monT_len8 h8) hAo14;have hco14:=own_le hAo14;refine Jb (Jg (Jc rfl) rfl (Jg (Jc rfl) rfl (Jg (JF rfl rfl (nw _ (by omega))) rfl (Jz fn30 rfl rfl fun w hH=>(l01Next_c hbt hbk hcl (hH.front (.s (.s (.s .z))))).mono ?_))));rintro _ w ⟨rfl,hH⟩;refine ⟨_,rfl,fun a hF=>JL hF hH ?_⟩;refine Jg (Je rfl) rfl (Jf (Ja (hK4 (Jx (JP (σ:=Option Addr × Nat × Nat) (fun ⟨q,c,j⟩=>[(11,.int .i64 (nxV code s (most+1) - (j:Int)))]) (fun ⟨q,c,j⟩=>Ho14) (fun ⟨q,c,j⟩=>srcO qb cb code gs (dfK code (monT ds n) (nxS code s (most+1)) j).2::obj g10 (.cells [.slice q (dfK code (monT ds n) (nxS code s (most+1)) j).1.length c].toArray 42 (0,0))::own 89 9 q (dfK code (monT ds n) (nxS code s (most+1)) j).1.length c (tsC (dfK code (monT ds n) (nxS code s (most+1)) j).1)::obj g8 (.cells [.slice none 0 0].toArray 42 (0,0))::L) (fun ⟨q,c,j⟩=>(j:Int)≤nxV code s (most+1)∧((monT ds n).length=0→j=0)) (fun ⟨q,c,j⟩=>(nxV code s (most+1)).toNat - j) (none,0,0) ⟨by show (0:Int)≤_;omega,fun _=>rfl⟩ ⟨(congrArg (fun z=>some (Value.int .i64 z)) (by simp)),trivial⟩ rfl rfl ?_)))));rintro ⟨q,c,j⟩ ⟨hj,hj0⟩ _ hAg0;refine Jd fun _ hK5 _=>(Jd fun _ hK6 _=>(Jb (Jg (Jc rfl) rfl (Jg (Eq rfl rfl) rfl (Jg (Jc rfl) rfl (JW (jd:=22) rfl (fun hg22=>?_) (fun hg22=>?_)))))))
 ·
  try have hg22p:=of_decide_eq_true hg22
  refine JK (Jc rfl) rfl rfl rfl hg22 (JK (Jr u147 rfl rfl) rfl rfl rfl hg22 (JK (Eq rfl rfl) rfl rfl rfl hg22 (Jg (JN rfl hg22 rfl) rfl (Jf (Ja (hK6 (Jp rfl (fun h26=>?_) (fun h26=>?_))))))))
  ·
   have hln:0<(monT ds n).length:=by omega
   have hDk:=dfK_ok hbk h8 hd n hln (nxS code s (most+1)) j;have hlk:=hDk.len;have hix:=nx_lt hbk (dfK code (monT ds n) (nxS code s (most+1)) j).2 hln;have hnn2:=nxV_bd hbk (dfK code (monT ds n) (nxS code s (most+1)) j).2 ((monT ds n).length:Nat)
   have hri:nxV code (dfK code (monT ds n) (nxS code s (most+1)) j).2 ((monT ds n).length:Nat)=(((nxV code (dfK code (monT ds n) (nxS code s (most+1)) j).2 ((monT ds n).length:Nat)).toNat:Nat):Int):=by omega
   obtain ⟨hmm,hmp,hme⟩:=dfM_ok hbk h8 hd n hln (dfK code (monT ds n) (nxS code s (most+1)) j).2;have hm8:=hmm.len;have hfb:=fcV_bd hbk (nxS code (dfK code (monT ds n) (nxS code s (most+1)) j).2 ((monT ds n).length:Nat));refine Jo (Ja (hK5 (Jd fun _ hK7 _=>(Jx (Ed (Rs:=[_,_,_,_]) 13 [[], [], [], [], [3], [2,3,4], [1,2,3,4,5], [1,2,3,4,5,6], [], [2,3,4,5,8], [1,2,3,4,5,6,7,8,9], [0,1,2,3,4,5,6,7,8,9,10], [0,1,2,3,4,5,6,7,8,9,10,11]] [[14], [], [], [], [], [], [], [], [], [], [], [10,15], []] [[], [], [], [], [], [13], [], [], [], [5], [], [], [14]] rfl rfl (by kernel_rfl) ?_)))));apply Jm 1 rfl
   iterate 3 focus (intros;(conv=>lhs;simp only [Jh,Js,JO,Ju,JI,eq_self,reduceEqDiff,reduceIte,reduceSub,reduceAdd,JxA,JxB]);all_goals rfl)
   ·
    intro gh X K zq zc zq2 zc2 zb zv hK;refine Jg (Jl rfl At.z (by simpa [*] using ag42)) rfl (Jj ?_);exact hK zq zc zq2 zc2 zb zv
   ·
    intro gh gh' h
    rfl
   apply Jm 2 rfl
   iterate 3 focus (intros;(conv=>lhs;simp only [Jh,Js,JO,Ju,JI,eq_self,reduceEqDiff,reduceIte,reduceSub,reduceAdd,JxA,JxB]);all_goals rfl)
   ·
    intro gh X K zq zc zq2 zc2 zb zv hK;refine Jg (Jc rfl) rfl (Jj ?_);exact hK zq zc zq2 zc2 zb zv
   ·
    intro gh gh' h
    rfl
   apply Jm 3 rfl
   iterate 3 focus (intros;(conv=>lhs;simp only [Jh,Js,JO,Ju,JI,eq_self,reduceEqDiff,reduceIte,reduceSub,reduceAdd,JxA,JxB]);all_goals rfl)
   ·
    intro gh X K zq zc zq2 zc2 zb zv hK;refine Jg (Jc rfl) rfl (Jj ?_);exact hK zq zc zq2 zc2 zb zv
   ·
    intro gh gh' h
    rfl
   apply Jm 4 rfl
   iterate 3 focus (intros;(conv=>lhs;simp only [Jh,Js,JO,Ju,JI,eq_self,reduceEqDiff,reduceIte,reduceSub,reduceAdd,JxA,JxB]);all_goals rfl)
   ·
    intro gh X K zq zc zq2 zc2 zb zv hK;refine Jg (Jc rfl) rfl (Jj ?_);exact hK zq zc zq2 zc2 zb zv
   ·
    intro gh gh' h
    rfl
   apply Jm 5 rfl
   iterate 3 focus (intros;(conv=>lhs;simp only [Jh,Js,JO,Ju,JI,eq_self,reduceEqDiff,reduceIte,reduceSub,reduceAdd,JxA,JxB]);all_goals rfl)
   ·
    intro gh X K zq zc zq2 zc2 zb zv hK;refine Jg (Jr u147 rfl rfl) rfl (Jj ?_);exact hK zq zc zq2 zc2 zb zv
   ·
    intro gh gh' h
    rfl
   apply Eb 6 rfl
   iterate 3 focus (intros;(conv=>lhs;simp only [Jh,Js,JO,Ju,JI,eq_self,reduceEqDiff,reduceIte,reduceSub,reduceAdd,JxA,JxB]);all_goals rfl)
   ·
    intro gh X K zq zc zq2 zc2 zb zv hK;refine Jz fn30 rfl rfl fun w hH=>(l01Next_c hbt hbk hcl (hH.front .z)).mono ?_;rintro _ w ⟨rfl,hH⟩;refine ⟨_,rfl,fun a hF=>JL hF hH ?_⟩;refine Jj ?_;exact hK zq zc zq2 zc2 zb zv
   ·
    intro gh gh' h;refine ⟨?_,?_⟩ <;> rfl
   apply Jm 7 rfl
   iterate 3 focus (intros;(conv=>lhs;simp only [Jh,Js,JO,Ju,JI,eq_self,reduceEqDiff,reduceIte,reduceSub,reduceAdd,JxA,JxB]);all_goals rfl)
   ·
    intro gh X K zq zc zq2 zc2 zb zv hK;refine Jg (EA (i':=(nxV code (dfK code (monT ds n) (nxS code s (most+1)) j).2 ((monT ds n).length:Nat)).toNat) u147 sz87 rfl rfl hri (by omega) hxo14.sm) rfl (Jj ?_);exact hK zq zc zq2 zc2 zb zv
   ·
    intro gh gh' h
    rfl
   apply Jm 8 rfl
   iterate 3 focus (intros;(conv=>lhs;simp only [Jh,Js,JO,Ju,JI,eq_self,reduceEqDiff,reduceIte,reduceSub,reduceAdd,JxA,JxB]);all_goals rfl)
   ·
    intro gh X K zq zc zq2 zc2 zb zv hK;refine Jg (JT rfl (hxo14.cell _ (by omega)) (hxo14.sm (i:=(nxV code (dfK code (monT ds n) (nxS code s (most+1)) j).2 ((monT ds n).length:Nat)).toNat) (by omega)) (by rw [bytesC_length,hxo14.len _ (by omega)];exact ag87)) rfl (Jj ?_);exact hK zq zc zq2 zc2 zb zv
   ·
    intro gh gh' h
    rfl
   apply Jm 9 rfl
   iterate 3 focus (intros;(conv=>lhs;simp only [Jh,Js,JO,Ju,JI,eq_self,reduceEqDiff,reduceIte,reduceSub,reduceAdd,JxA,JxB]);all_goals rfl)
   ·
    intro gh X K zq zc zq2 zc2 zb zv hK;refine Jg (Jc rfl) rfl (Jj ?_);exact hK zq zc zq2 zc2 zb zv
   ·
    intro gh gh' h
    rfl
   apply Eb 10 rfl
   iterate 3 focus (intros;(conv=>lhs;simp only [Jh,Js,JO,Ju,JI,eq_self,reduceEqDiff,reduceIte,reduceSub,reduceAdd,JxA,JxB]);all_goals rfl)
   ·
    intro gh X K zq zc zq2 zc2 zb zv hK;refine Jz fn105 rfl rfl fun w hH=>(l01Factor_c hbt hbk hcl (hH.front .z)).mono ?_;rintro _ w ⟨rfl,hH⟩;refine ⟨_,rfl,fun a hF=>JL hF hH ?_⟩;refine Jj ?_;exact hK zq zc zq2 zc2 zb zv
   ·
    intro gh gh' h;refine ⟨?_,?_⟩ <;> rfl
   apply Eb 11 rfl
   iterate 3 focus (intros;(conv=>lhs;simp only [Jh,Js,JO,Ju,JI,eq_self,reduceEqDiff,reduceIte,reduceSub,reduceAdd,JxA,JxB]);all_goals rfl)
   ·
    intro gh X K zq zc zq2 zc2 zb zv hK;refine Jz fn91 rfl rfl fun w hH=>(l01Single_c hmm (by omega) hH).mono ?_;rintro _ w ⟨qo39,co39,rfl,hH⟩;refine ⟨_,rfl,fun a hF=>JL hF hH ?_⟩;refine Jj ?_;exact hK qo39 co39 zq2 zc2 zb zv
   ·
    intro gh gh' h;refine ⟨?_,?_⟩ <;> rfl
   apply Eb 12 rfl
   iterate 3 focus (intros;(conv=>lhs;simp only [Jh,Js,JO,Ju,JI,eq_self,reduceEqDiff,reduceIte,reduceSub,reduceAdd,JxA,JxB]);all_goals rfl)
   ·
    intro gh X K zq zc zq2 zc2 zb zv hK;refine Jz fn92 rfl rfl fun w hH=>hH.lend (.s .z) fun Hl1 hle1 hA1 hB1 hH=>hH.lend .z fun Hl2 hle2 hA2 hB2 hH=>(l01Add_c ((own_terms hDk.wf hA1).le hle2) (own_terms (sg_wf hmp) hA2) hDk.sok (sg_g hmp) (by omega) (by omega) (by have:=sg_len (dfM code (monT ds n) (dfK code (monT ds n) (nxS code s (most+1)) j).2) (fcV code (nxS code (dfK code (monT ds n) (nxS code s (most+1)) j).2 ((monT ds n).length:Nat)));omega) hH).mono ?_;rintro _ w ⟨qo40,co40,rfl,hH⟩;replace hH:=hB2 _ _ hH;replace hH:=hB1 _ _ hH;refine ⟨_,rfl,fun a hF=>JL hF hH ?_⟩;refine Ji .z (Ji (.s .z) (Ji (.s (.s .z)) (Jj ?_)));exact hK qo40 co40 zq2 zc2 zb zv
   ·
    intro gh gh' h;refine ⟨?_,?_⟩ <;> (first | simp only [h 10 rfl] | rfl)
   apply Es 13 rfl
   iterate 3 focus (intros;(conv=>lhs;simp only [Jh,Js,JO,Ju,JI,eq_self,reduceEqDiff,reduceIte,reduceSub,reduceAdd,JxA,JxB]);all_goals rfl)
   ·
    intro gh X K hK;refine Jk rfl rfl (by first | exact bytesC_one _ | exact intsC_one _ | exact Term.c_one _ | simp [Value.oneCell']) (by simpa [*] using sz42) (by simp [*]) At.z (Jj ?_);exact hK
   ·
    intro gh gh' h
    first | simp only [h 10 rfl,h 11 rfl] | rfl
   apply Ec [0,1,2,3,4,5,6,7,8,9,10,11,12] [0,1,2,3,4,6,7,8,9,10,11,12,15,16] foll0 rfl rfl rfl (by rfl)
   iterate 2 focus (intros;(conv=>lhs;simp only [Jh,Js,JO,Ju,JI,eq_self,reduceEqDiff,reduceIte,reduceSub,reduceAdd,JxA,JxB]);all_goals rfl)
   intro gh;generalize (gh 10).c=co39;generalize (gh 10).q=qo39;generalize (gh 11).c=co40;generalize (gh 11).q=qo40;clear gh;refine JJ (Ja (hK7 (Jb (Jg (Jc rfl) rfl (Jg (ET rfl rfl (by first | exact nw _ (by omega) | rfl)) rfl (Jg (Je rfl) rfl (Jf (Ja (JC (.s (.s (.s (.s .z)))) (JC (.s .z) (Ji (.s (.s (.s .z))) (Ji (.s (.s .z)) (Ji (.s (.s (.s .z))) (Ji (.s (.s (.s .z))) ?_))))))))))))));exact hAg0 (qo40,co40,j+1) ⟨by show ((j+1:Nat):Int)≤_;omega,fun h=>by omega⟩ (by show (nxV code s (most+1)).toNat - (j+1)<(nxV code s (most+1)).toNat - j;omega) 23 rfl rfl ⟨(congrArg (fun z=>some (Value.int .i64 z)) (by omega)),trivial⟩ rfl (by dsimp only;rw [df_s];rfl)
  ·
   refine JR (Jw (Jw (JY (Ja (hK3 (Jd fun _ hK8 _=>(Jb (Jg (Jl rfl (.s .z) (by simpa [*] using ag42)) rfl (Jk rfl rfl (by first | exact bytesC_one _ | exact intsC_one _ | exact Term.c_one _ | simp [Value.oneCell']) (by simpa [*] using sz42) (by simp [*]) (.s (.s (.s .z))) (Jf (Ja (hK8 (Jt (Jy rfl (Res.agg rfl (.s (.s (.s .z))) (by simpa [*] using ag42)) fun w hH=>?_))))))))))))));replace hH:=hH.sublist (.cons_cons _ (.cons _ (.cons_cons _ (.cons _ (List.Sublist.refl _)))))
   have ej:j=dfN code (monT ds n) s most:=by unfold dfN;split <;> omega
   subst ej;exact ⟨_,_,rfl,(hH.front (.s .z)).weaken hleo14 hw0 hw1⟩
 ·
  try have hg22p:=of_decide_eq_false hg22
  refine JE rfl rfl rfl hg22 (JE rfl rfl rfl hg22 (JE rfl rfl rfl hg22 (Jg (JM rfl hg22 rfl) rfl (Jf (Ja (hK6 (Ey rfl (JR (Jw (Jw (JY (Ja (hK3 (Jd fun _ hK9 _=>(Jb (Jg (Jl rfl (.s .z) (by simpa [*] using ag42)) rfl ?_))))))))))))))));refine Jk rfl rfl (by first | exact bytesC_one _ | exact intsC_one _ | exact Term.c_one _ | simp [Value.oneCell']) (by simpa [*] using sz42) (by simp [*]) (.s (.s (.s .z))) (Jf (Ja (hK9 (Jt (Jy rfl (Res.agg rfl (.s (.s (.s .z))) (by simpa [*] using ag42)) fun w hH=>?_)))));replace hH:=hH.sublist (.cons_cons _ (.cons _ (.cons_cons _ (.cons _ (List.Sublist.refl _)))))
  have ej:j=dfN code (monT ds n) s most:=by unfold dfN;split <;> omega
  subst ej;exact ⟨_,_,rfl,(hH.front (.s .z)).weaken hleo14 hw0 hw1⟩
theorem bm87_0_1_2_3_4_5_6_7_0_0_0_0_0_0_0_1 : ∀w,(Instr.build 87 #[(0,.int .u8 0),(1,.int .u8 0),(2,.int .u8 0),(3,.int .u8 0),(4,.int .u8 0),(5,.int .u8 0),(6,.int .u8 0),(7,.int .u8 1)]).run Tryz.prog w = .ok (.agg (bytesC [0,0,0,0,0,0,0,1]).toArray) w:=fun _=>by kernel_rfl
theorem bm87_0_1_0_0_0_0_0_0_0 : ∀w,(Instr.build 87 #[(0,.int .u8 1)]).run Tryz.prog w = .ok (.agg (bytesC [1,0,0,0,0,0,0,0]).toArray) w:=fun _=>by kernel_rfl
def wrT (x:Int):Term:=⟨[1,0,0,0,0,0,0,0],x⟩
def wrH:Term:=⟨[0,0,0,0,0,0,0,1],1⟩
def wrL:List Int:=[0,1,10007, -1]
def wrV (code:List Int) (s:Src) (f:List Term):List Term:=if nxV code s 40=0 then f++[wrT (pkV code (nxS code s 40) wrL)] else if nxV code s 40=1 then [wrH]++f else f
def wrS (code:List Int) (s:Src) (_f:List Term):Src:=if nxV code s 40=0 then pkS code (nxS code s 40) wrL else nxS code s 40
theorem mono_10:Mono [1,0,0,0,0,0,0,0]:=by
 refine ⟨rfl,fun j=>?_⟩
 match j with
 | 0 | 1 | 2 | 3 | 4 | 5 | 6 | 7=>decide
 | j+8=>simp
theorem mono_01:Mono [0,0,0,0,0,0,0,1]:=by
 refine ⟨rfl,fun j=>?_⟩
 match j with
 | 0 | 1 | 2 | 3 | 4 | 5 | 6 | 7=>decide
 | j+8=>simp
theorem wr_pk {code:List Int} (hb:BtOk code) (t:Src) : -1≤pkV code t wrL∧pkV code t wrL≤10007:=by
 have h3:=pkV_mem hb t (l:=wrL) (Nat.succ_pos _);generalize pkV code t wrL=v at h3 ⊢;unfold wrL at h3;simp only [List.mem_cons,List.not_mem_nil,or_false] at h3
 omega
theorem wrV_wf {code:List Int} (hb:BtOk code) {s:Src} {f:List Term} (h:Wfs f):Wfs (wrV code s f):=by
 have h1:=wr_pk hb (nxS code s 40);unfold wrV
 split
 ·exact h.app (Wfs.one (Term.wf.of mono_10 (by omega)))
 ·split
  ·exact (Wfs.one (Term.wf.of mono_01 (by decide))).app h
  ·exact h
theorem wrV_len (code:List Int) (s:Src) (f:List Term):(wrV code s f).length≤f.length+1:=by
 unfold wrV
 split
 ·simp
 ·split
  ·simp
  ·omega
theorem l01Wrong_c {B:World} {H0 H:HP} {L:List SA} {w:World} {gs:Nat} {qb:Option Addr} {cb:Nat} {code:List Int} {s:Src} {qf:Option Addr} {cf:Nat} {f:List Term} (hbt:Bts H qb code) (hbk:BtOk code) (hf:Wfs f) (hn:f.length≤1000) (hcl:code.length≤1048576) (hH:Hp B H0 H (srcO qb cb code gs s::own 89 9 qf f.length cf (tsC f)::L) w):Calls Tryz.prog 87 [.pointer (some ⟨gs,0,none⟩),.agg [.slice qf f.length cf].toArray].toArray w fun e w'=>∃q c,e = .returned (.agg [.slice q (wrV code s f).length c].toArray)∧Hp B H0 H (own 89 9 q (wrV code s f).length c (tsC (wrV code s f))::srcO qb cb code gs (wrS code s f)::L) w':=by
 refine JD Tryz.func87 rfl 31 rfl rfl [(0,.pointer (some ⟨gs,0,none⟩)),(1,.agg [.slice qf f.length cf].toArray)] rfl hH ?_;clear hH;refine Jd fun _ hK1 _=>(Jb (Eo rfl rfl rfl fun g3=>(JG ze42 rfl fun g4=>(Jf (Ja (hK1 (Jd fun _ hK2 _=>(Jd fun _ hK3 _=>(Jb (Jg (Jc rfl) rfl (Jz fn30 rfl rfl fun w hH=>(l01Next_c hbt hbk hcl (hH.front (.s (.s .z)))).mono ?_)))))))))));rintro _ w ⟨rfl,hH⟩;refine ⟨_,rfl,fun a hF=>JL hF hH ?_⟩;refine Jf (Ja (hK3 (Jx (Jd fun _ hK4 _=>(Jb (Jg (En rfl rfl) rfl (Jg (Je rfl) rfl (Jf (Ja (hK4 (Jp rfl (fun h7=>?_) (fun h7=>?_))))))))))))
 ·
  refine Jb (EX (MK.lit0T u40 sz89) rfl fun qo9 co9=>(Jg (Jq u42 rfl sz40 rfl) rfl (Jg (Jv rfl (.s (.s (.s .z))) rfl pl40) rfl (EQ u40 ze89 sz89 by89 rfl rfl (by simp only [List.length_nil];omega) (.s (.s (.s (.s .z)))) At.z (fun _ _=>At.z) rfl fun qo12 co12=>(Jg (PR.buildC rfl bm87_0_1_0_0_0_0_0_0_0) rfl (Jg (Jc rfl) rfl (J.litN (intsC wrL) u24 ze2 sz2 rfl rfl rfl (by decide) (by decide) (fun v hv=>by obtain ⟨x,_,rfl⟩:=List.mem_map.1 hv;rfl) rfl fun g15=>(Jz fn62 rfl rfl fun w hH=>hH.lend .z fun Hl1 hle1 hA1 hB1 hH=>(l01Pick_c (hbt.le hle1) hbk (own_ints hA1) (Nat.le_of_ble_eq_true rfl) (Nat.le_of_ble_eq_true rfl) hcl (hH.front (.s (.s .z)))).mono ?_))))))));rintro _ w ⟨rfl,hH⟩;replace hH:=hB1 _ _ hH;refine ⟨_,rfl,fun a hF=>JL hF hH ?_⟩;refine Jg (EO rfl rfl (fun w=>bt89 _ _ mono_10.len w)) rfl (EX (Ka u40 ze89 sz89 (Term.wf.of mono_10 (by have:=wr_pk hbk (nxS code s 40);omega)) rfl) rfl fun qo18 co18=>(EQ u40 ze89 sz89 by89 rfl rfl (by simp only [List.length_append,List.length_nil,List.length_cons];omega) .z (.s (.s (.s .z))) (fun _ _=>(.s (.s (.s .z)))) rfl fun qo19 co19=>(Jg (Jq u42 rfl sz40 rfl) rfl (Ez rfl rfl rfl rfl sz40 (by simp [*]) (.s (.s (.s (.s (.s (.s .z)))))) (Jf (JJ (Ja (hK2 (Jd fun _ hK5 _=>(Jb (Jg (Jl rfl (.s (.s (.s (.s (.s (.s .z)))))) (by simpa [*] using ag42)) rfl (Jk rfl rfl (by first | exact bytesC_one _ | exact intsC_one _ | exact Term.c_one _ | simp [Value.oneCell']) (by simpa [*] using sz42) (by simp [*]) (.s (.s (.s (.s (.s .z))))) (Jf (Ja (hK5 (Jt ?_))))))))))))))));refine Jy rfl (Res.agg rfl (.s (.s (.s (.s (.s .z))))) (by simpa [*] using ag42)) fun w hH=>?_;replace hH:=hH.sublist (.cons _ (.cons _ (.cons_cons _ (.cons _ (.cons_cons _ (.cons _ (.cons _ (List.Sublist.refl _))))))))
  have e1:wrV code s f=f++[wrT (pkV code (nxS code s 40) wrL)]:=by unfold wrV;rw [if_pos h7]
  have e2:wrS code s f=pkS code (nxS code s 40) wrL:=by unfold wrS;rw [if_pos h7]
  rw [e1,e2];exact ⟨_,_,rfl,hH.front (.s .z)⟩
 ·
  refine Jd fun _ hK6 _=>(Jb (Jg (En rfl rfl) rfl (Jg (Je rfl) rfl (Jf (Ja (hK6 (Jp rfl (fun h21=>?_) (fun h21=>?_))))))))
  ·
   refine Jb (Jg (PR.buildC rfl bm87_0_1_2_3_4_5_6_7_0_0_0_0_0_0_0_1) rfl (Jg (EO rfl rfl (fun w=>bt89 _ _ mono_01.len w)) rfl (EX (Ka u40 ze89 sz89 (Term.wf.of mono_01 (by decide)) rfl) rfl fun qo25 co25=>(Jg (Jq u42 rfl sz40 rfl) rfl (Jg (Jv rfl (.s (.s (.s .z))) rfl pl40) rfl (EQ u40 ze89 sz89 by89 rfl rfl (by simp only [List.length_cons,List.length_nil];omega) (.s (.s (.s (.s .z)))) At.z (fun _ _=>At.z) rfl fun qo28 co28=>(Jg (Jq u42 rfl sz40 rfl) rfl (Ez rfl rfl rfl rfl sz40 (by simp [*]) (.s (.s (.s (.s .z)))) (Jf (JJ (Ja (hK2 (Jd fun _ hK7 _=>(Jb (Jg (Jl rfl (.s (.s (.s (.s .z)))) (by simpa [*] using ag42)) rfl ?_)))))))))))))));refine Jk rfl rfl (by first | exact bytesC_one _ | exact intsC_one _ | exact Term.c_one _ | simp [Value.oneCell']) (by simpa [*] using sz42) (by simp [*]) (.s (.s (.s .z))) (Jf (Ja (hK7 (Jt (Jy rfl (Res.agg rfl (.s (.s (.s .z))) (by simpa [*] using ag42)) fun w hH=>?_)))));replace hH:=hH.sublist (.cons _ (.cons_cons _ (.cons_cons _ (.cons _ (.cons _ (List.Sublist.refl _))))))
   have e1:wrV code s f=[wrH]++f:=by unfold wrV;rw [if_neg h7,if_pos h21]
   have e2:wrS code s f=nxS code s 40:=by unfold wrS;rw [if_neg h7]
   rw [e1,e2];exact ⟨_,_,rfl,hH⟩
  ·
   refine Jo (JJ (Ja (hK2 (Jd fun _ hK8 _=>(Jb (Jg (Jl rfl (.s (.s .z)) (by simpa [*] using ag42)) rfl (Jk rfl rfl (by first | exact bytesC_one _ | exact intsC_one _ | exact Term.c_one _ | simp [Value.oneCell']) (by simpa [*] using sz42) (by simp [*]) (.s .z) (Jf (Ja (hK8 (Jt (Jy rfl (Res.agg rfl (.s .z) (by simpa [*] using ag42)) fun w hH=>?_))))))))))));replace hH:=hH.sublist (.cons_cons _ (.cons _ (.cons _ (.cons_cons _ (List.Sublist.refl _)))))
   have e1:wrV code s f=f:=by unfold wrV;rw [if_neg h7,if_neg h21]
   have e2:wrS code s f=nxS code s 40:=by unfold wrS;rw [if_neg h7]
   rw [e1,e2];exact ⟨_,_,rfl,hH.front (.s .z)⟩
def knT:List (List UInt8):=[[50,58,48,59,51,58,49,42,97,50], [51,58,48], [50,58,48,59,53,58,49,42,97,51], [52,58,48,59,55,58,49,42,97,50], [50,58,48,59,50,58,48,59,51,58,49,42,97,50,59,51,58,49,42,98,50], [51,58,48,59,51,58,48,59,53,58,49,42,97,98], [49,58,48,59,49,58,48,59,49,58,49,42,97,98], [50,58,48,59,51,58,48,59,52,58,49,42,97,98], [49,58,48,59,49,58,48,59,49,58,48], [50,58,48,59,51,58,49,42,97,50,59,52,58,48,59,55,58,49,42,99,50], [50,58,48,59,49,58,49,42,97], [50,58,48,59,50,58,48,59,51,58,49,42,97,98,59,51,58,49,42,97,50,43,49,48,48,48,54,42,98,50], [49,58,48,59,49,58,48,59,49,58,49,42,97,98,59,49,58,49,42,97,99], [51,58,48,59,52,58,48,59,54,58,49,42,97,98,59,55,58,49,42,98,50]]
theorem knT_len (i:Nat):(knT.getD i []).length≤1048576:=by
 rcases Nat.lt_or_ge i knT.length with h | h
 ·rw [List.getD_eq_getElem?_getD,List.getElem?_eq_getElem h]
  have h1 : ∀x∈knT,x.length≤1048576:=by decide
  exact h1 _ (List.getElem_mem h)
 ·rw [List.getD_eq_getElem?_getD,List.getElem?_eq_none h]
  simp
structure DrA (ds:List Int) (fs:List (List Term)):Prop where
 hn:ds.length≤8
 hl:fs.length=ds.length
 hd : ∀j,j<ds.length→1≤ds.getD j 0∧ds.getD j 0≤12
 sok:Fok 20 fs
 kex : ∀i,i<fs.length→KEx ds (toS (fm fs i))
 len : ∀i,i<fs.length→(fm fs i).length≤400
 wf:Wfss fs
theorem DrA.hd0 {ds:List Int} {fs:List (List Term)} (h:DrA ds fs) : ∀j,0≤ds.getD j 0∧ds.getD j 0≤12:=fun j=>by
 rcases Nat.lt_or_ge j ds.length with hj | hj
 ·have:=h.hd j hj;omega
 ·rw [getD_ge hj];omega
theorem DrA.nil:DrA [] []:=⟨by simp,rfl,fun j hj=>by simp at hj,fun i hi=>by simp at hi,fun i hi=>by simp at hi,fun i hi=>by simp at hi,fun f hf=>by simp at hf⟩
theorem isDeg_1 {ds:List Int} (h:isDeg ds=true) : ∀j,j<ds.length→1≤ds.getD j 0∧ds.getD j 0≤12:=fun j hj=>by
 unfold isDeg at h
 have h1:=List.all_eq_true.1 (Bool.and_eq_true_iff.1 h).2 (ds.getD j 0) (by rw [List.getD_eq_getElem?_getD,List.getElem?_eq_getElem hj];exact List.getElem_mem hj)
 simpa using h1
theorem raQ_dr (ds:List Int) (ws:List (List UInt8)) (hl:ds.length=ws.length):DrA (raQ ds ws).1 (raQ ds ws).2.1:=by
 unfold raQ
 split
 ·rename_i hD
  split
  ·exact DrA.nil
  ·rename_i fs h
   have h1:=allO_len h;have h2:=isDeg_len hD;have h3:=isDeg_bd hD
   have key : ∀i,i<fs.length→isForm ds (fm fs i)=true∧Wfs (fm fs i):=fun i hi=>by
    obtain ⟨x,h4,h5⟩:=allO_list (g:=id) h i (by omega);rw [List.map_id] at h5;rw [fm_some (f:=x) h5];exact ⟨(rdO_ok h4).1,(rdO_ok h4).2.1⟩
   show DrA ds fs
   exact ⟨h2,by omega,isDeg_1 hD,fun i hi=>⟨isForm_sok (key i hi).2 (key i hi).1,by have:=isForm_len4 (key i hi).1;omega⟩,fun i hi=>isForm_kex h3 h2 (key i hi).2 (key i hi).1,fun i hi=>isForm_len4 (key i hi).1,allO_wfss h⟩
 ·exact DrA.nil
theorem raS_dr (t:List UInt8):DrA (raS t).1 (raS t).2.1:=by
 unfold raS
 split
 ·exact DrA.nil
 ·split
  ·exact DrA.nil
  ·rename_i hs _
   exact raQ_dr _ _ (by rw [List.length_map,List.length_map])
theorem l02Known_c {B:World} {H0 H:HP} {L:List SA} {w:World} {gs:Nat} {qb:Option Addr} {cb:Nat} {code:List Int} {s:Src} (hbt:Bts H qb code) (hbk:BtOk code) (hcl:code.length≤1048576) (hH:Hp B H0 H (srcO qb cb code gs s::L) w):Calls Tryz.prog 70 [.pointer (some ⟨gs,0,none⟩)].toArray w fun e w'=>∃ad af s1 qd cd qf cf vs,DrA ad af∧e = .returned (.agg [.slice qd ad.length cd,.slice qf af.length cf].toArray)∧Hp B H0 H (own 2 1 qd ad.length cd (intsC ad)::ownFs 42 89 qf cf vs af::srcO qb cb code gs s1::L) w':=by
 refine JD Tryz.func70 rfl 19 rfl rfl [(0,.pointer (some ⟨gs,0,none⟩))] rfl hH ?_;clear hH;have hnb:=nxV_bd hbk s (14:Nat)
 have hnt:nxV code s (14:Nat)=((nxV code s (14:Nat)).toNat:Int):=by omega
 have hkl:=knT_len (nxV code s (14:Nat)).toNat
 have hk14:(nxV code s (14:Nat)).toNat<knT.length:=by show _<14;omega
 refine Jd fun _ hK1 _=>(Jb (JG ze27 rfl fun g2=>(Jf (Ja (hK1 (Jd fun _ hK2 _=>(Jb (J.litN (knT.map sV) u95 ze9 sz9 rfl rfl rfl (by decide) (by decide) (fun v hv=>by obtain ⟨x,_,rfl⟩:=List.mem_map.1 hv;rfl) rfl fun g6=>(Jg (Je rfl) rfl (Jf (Ja (hK2 (Jd fun _ hK3 _=>(Jb (Jg (Jc rfl) rfl (Jg (Jc rfl) rfl ?_))))))))))))))));refine Jg (Jc rfl) rfl (Jg (Jr u95 rfl rfl) rfl (Jz fn30 rfl rfl fun w hH=>(l01Next_c hbt hbk hcl (hH.front (.s (.s .z)))).mono ?_));rintro _ w ⟨rfl,hH⟩;refine ⟨_,rfl,fun a hF=>JL hF hH ?_⟩;refine Jg (EM (i':=(nxV code s (14:Nat)).toNat) u95 sz9 rfl rfl hnt (by omega) (.s .z)) rfl (Jg (EH rfl (.s .z) (strsC_get hk14) pl9) rfl (Jz fn33 rfl rfl fun w hH=>(l02Read_c (by omega) hH).mono ?_));rintro _ w ⟨qdo15,cdo15,qfo15,cfo15,vso15,rfl,hH⟩;refine ⟨_,rfl,fun a hF=>JL hF hH ?_⟩;refine Jg (Jc rfl) rfl (Jg (JA rfl rfl) rfl (Jg (JA rfl rfl) rfl (JG ze27 rfl fun g4=>(Jk rfl rfl (by first | exact bytesC_one _ | exact intsC_one _ | exact Term.c_one _ | simp [Value.oneCell']) (by simpa [*] using sz27) (by simp [*]) At.z (Jg (Je rfl) rfl (Jf (Ja (hK3 (Jd fun _ hK4 _=>(Jb (Jg (Jl rfl At.z (by simpa [*] using ag27)) rfl (Jk rfl rfl (by first | exact bytesC_one _ | exact intsC_one _ | exact Term.c_one _ | simp [Value.oneCell']) (by simpa [*] using sz27) (by simp [*]) (.s (.s (.s (.s (.s .z))))) (Jf (Ja (hK4 (Jt ?_))))))))))))))));refine Jy rfl (Res.agg rfl (.s (.s (.s (.s (.s .z))))) (by simpa [*] using ag27)) fun w hH=>?_;replace hH:=hH.sublist (.cons _ (.cons_cons _ (.cons_cons _ (.cons_cons _ (.cons _ (.cons _ (List.Sublist.refl _)))))));exact ⟨_,_,_,_,_,_,_,_,raS_dr _,rfl,hH⟩
theorem fn37:Fn Tryz.prog 37:=⟨_,Tryz.func37,by kernel_rfl,rfl⟩
theorem fn70:Fn Tryz.prog 70:=⟨_,Tryz.func70,by kernel_rfl,rfl⟩
theorem fn71:Fn Tryz.prog 71:=⟨_,Tryz.func71,by kernel_rfl,rfl⟩
section
variable {P : Program} {Q : Exit → Act → World → Prop} {n : Nat} {B : World} {H0 H : HP} {us : List (Nat × Value)} {L L1 : List SA}
theorem CJ.ownLen {c0:Code} {E:TypeId} {sz m c:Nat} {q:Option Addr} {cells:List Value} (hr:Rm L (own E sz q m c cells) L1) (h:m≤9223372036854775807→CJ P c0 Q n B H0 us H L):CJ P c0 Q n B H0 us H L:=fun a w hF hH=>by
 refine h ?_ a w hF hH
 have h1:=((hH.front hr).objs _ List.mem_cons_self).1
 rcases h1.2 with ⟨_,h2,_⟩ | ⟨g,cur,_,_,h2,h3,_⟩
 ·omega
 ·unfold maxLen at h3
  omega
theorem J.ofs0 {ops:Array Oper} {rest:List Oper} (E T:TypeId) (k:J P ops Q n B H0 rest us H (ownFs E T none 0 nilVs []::L)):J P ops Q n B H0 rest us H L:=fun a w hF hH=>k a w hF (hH.ownFsNil E T)
end
theorem Ex.ext {ds p:List Int} {n:Int} (h:Ex ds p):Ex (ds++[n]) p:=by
 refine ⟨fun i hi=>h.out i (by rw [List.length_append] at hi;omega),fun i hi ho=>?_⟩
 rcases Nat.lt_or_ge i ds.length with h1 | h1
 ·have e:(ds++[n]).getD i 0=ds.getD i 0:=by rw [List.getD_eq_getElem?_getD,List.getElem?_append_left h1,← List.getD_eq_getElem?_getD]
  rw [e] at ho;exact h.odd i h1 ho
 ·rw [h.out i h1]
  omega
theorem KEx.ext {ds:List Int} {s:Sm} {n:Int} (h:KEx ds s):KEx (ds++[n]) s:=fun x hx=>(h x hx).ext
theorem fm_left {fs:List (List Term)} {f:List Term} {i:Nat} (h:i<fs.length):fm (fs++[f]) i=fm fs i:=by unfold fm;rw [List.getD_eq_getElem?_getD,List.getElem?_append_left h,← List.getD_eq_getElem?_getD]
theorem fm_right {fs:List (List Term)} {f:List Term}:fm (fs++[f]) fs.length=f:=by unfold fm;rw [List.getD_eq_getElem?_getD,List.getElem?_append_right (Nat.le_refl _)];simp
theorem DrA.snoc {ds:List Int} {fs:List (List Term)} {n:Int} {f:List Term} (h:DrA ds fs) (h8:ds.length<8) (hn:1≤n∧n≤12) (hf:DrF ds 400 f):DrA (ds++[n]) (fs++[f]):=by
 have key : ∀i,i<(fs++[f]).length→i<fs.length∧fm (fs++[f]) i=fm fs i∨fm (fs++[f]) i=f:=fun i hi=>by
  rcases Nat.lt_or_ge i fs.length with h1 | h1
  ·exact .inl ⟨h1,fm_left h1⟩
  ·obtain rfl:i=fs.length:=by simp at hi;omega
   exact .inr fm_right
 refine ⟨by simp;omega,by simp [h.hl],fun j hj=>?_,fun i hi=>?_,fun i hi=>?_,fun i hi=>?_,fun g hg=>(List.mem_append.1 hg).elim (h.wf g) fun h9=>by rw [List.mem_singleton.1 h9];exact hf.wf⟩
 ·rcases Nat.lt_or_ge j ds.length with h1 | h1
  ·rw [List.getD_eq_getElem?_getD,List.getElem?_append_left h1,← List.getD_eq_getElem?_getD];exact h.hd j h1
  ·obtain rfl:j=ds.length:=by simp at hj;omega
   rw [List.getD_eq_getElem?_getD,List.getElem?_append_right (Nat.le_refl _)]
   simpa using hn
 ·rcases key i hi with ⟨h1,e⟩ | e
  ·rw [e];exact h.sok i h1
  ·rw [e];exact ⟨hf.sok,by have:=hf.len;omega⟩
 ·rcases key i hi with ⟨h1,e⟩ | e
  ·rw [e];exact (h.kex i h1).ext
  ·rw [e];exact hf.kex.ext
 ·rcases key i hi with ⟨h1,e⟩ | e
  ·rw [e];exact h.len i h1
  ·rw [e];exact hf.len
theorem degF_bd {ds:List Int} {ts:List Term} (hn:ds.length≤8) (hd : ∀j,0≤ds.getD j 0∧ds.getD j 0≤12) (hw:Wfs ts) : -1≤degF ds ts∧degF ds ts≤24480:=by
 unfold degF
 split
 ·unfold outAt
  split
  ·omega
  ·rename_i h0
   have h2:0<ts.length:=by omega
   have h3:Mono (tm ts 0).mono:=(hw _ (by rw [← tm_eq h2];exact List.getElem_mem h2)).mono;have h1:=wd_bd (ds:=ds) (ts:=ts) (i:=0) hn hd h3
   omega
 ·omega
theorem l02Draw_c {B:World} {H0 H:HP} {L:List SA} {w:World} {gs:Nat} {qb:Option Addr} {cb:Nat} {code:List Int} {s:Src} {most:Int} (hbt:Bts H qb code) (hbk:BtOk code) (hm:0≤most∧most≤8) (hcl:code.length≤1048576) (hH:Hp B H0 H (srcO qb cb code gs s::L) w):Calls Tryz.prog 29 [.pointer (some ⟨gs,0,none⟩),.int .i64 most].toArray w fun e w'=>∃ad af s1 qd cd qf cf vs,DrA ad af∧(ad.length:Int)≤most∧e = .returned (.agg [.slice qd ad.length cd,.slice qf af.length cf].toArray)∧Hp B H0 H (own 2 1 qd ad.length cd (intsC ad)::ownFs 42 89 qf cf vs af::srcO qb cb code gs s1::L) w':=by
 refine JD Tryz.func29 rfl 147 rfl rfl [(0,.pointer (some ⟨gs,0,none⟩)),(1,.int .i64 most)] rfl hH ?_;clear hH;refine Jd fun _ hK1 _=>(Jb (JG ze27 rfl fun g4=>(Jf (Ja (hK1 (EL (σ:=Src) (fun (s5:Src)=>[]) (fun (s5:Src)=>H) (fun (s5:Src)=>srcO qb cb code gs s5::obj g4 (.cells [.slice none 0 0,.slice none 0 0].toArray 27 (0,0))::L) (fun (s5:Src)=>True) ?_ ?_))))))
 ·
  intro _ hMt1;refine Jd fun _ hK2 _=>(Jb (Jg (Jc rfl) rfl (Jz fn30 rfl rfl fun w hH=>(l01Next_c hbt hbk hcl (hH.front (.s .z))).mono ?_)));rintro _ w ⟨rfl,hH⟩;refine ⟨_,rfl,fun a hF=>JL hF hH ?_⟩;refine Jg (En rfl rfl) rfl (Jf (Ja (hK2 (Jp rfl (fun h17=>?_) (fun h17=>?_)))))
  ·
   refine Jd fun _ hK3 _=>(Jb (Jg (Jc rfl) rfl (Jz fn70 rfl rfl fun w hH=>(l02Known_c hbt hbk hcl (hH.front .z)).mono ?_)));rintro _ w ⟨ka19,kf19,ks19,qd19,cd19,qf19,cf19,vs19,hk19,rfl,hH⟩;refine ⟨_,rfl,fun a hF=>JL hF hH ?_⟩;refine JG ze27 rfl fun g5=>(Jk rfl rfl (by first | exact bytesC_one _ | exact intsC_one _ | exact Term.c_one _ | simp [Value.oneCell']) (by simpa [*] using sz27) (by simp [*]) At.z (Jf (Ja (hK3 (Jd fun _ hK4 _=>(Jb (Jg (Jq u27 rfl sz24 rfl) rfl (Jg (Jv rfl At.z rfl pl24) rfl (Jg (Jr u24 rfl rfl) rfl (Jg (Jc rfl) rfl (Jg (PR.leq rfl rfl) rfl (Jf (Ja (hK4 (Jp rfl (fun h24=>?_) (fun h24=>?_))))))))))))))))
   ·
    refine Jd fun _ hK5 _=>(Jb (Jg (Jl rfl At.z (by simpa [*] using ag27)) rfl (Jk rfl rfl (by first | exact bytesC_one _ | exact intsC_one _ | exact Term.c_one _ | simp [Value.oneCell']) (by simpa [*] using sz27) (by simp [*]) (.s (.s (.s (.s .z)))) (Jf (Ja (hK5 (Jt (Jn (Jy rfl (Res.agg rfl (.s (.s (.s (.s .z)))) (by simpa [*] using ag27)) fun w hH=>?_)))))))));replace hH:=hH.sublist (.cons _ (.cons_cons _ (.cons_cons _ (.cons_cons _ (.cons _ (List.Sublist.refl _))))));exact ⟨_,_,_,_,_,_,_,_,hk19,(by omega),rfl,hH⟩
   ·
    refine Jo (Ja (JC .z (JC .z (JC .z ?_))));exact hMt1 ks19 trivial 11 rfl rfl trivial rfl rfl
  ·
   refine Jo (Ja ?_);exact hMt1 (nxS code s 3) trivial 3 rfl rfl trivial rfl rfl
 ·
  rintro s5 _;have hDA:=DrA.nil;have hdl:=ddV_bd hbk s5 (most:=most) (by omega);refine Jd fun _ hK6 _=>(Jb (Jg (Jc rfl) rfl (Jg (Jc rfl) rfl (Jz fn37 rfl rfl fun w hH=>(l01DrawDegrees_c hbt hbk (by omega) hcl (hH.front .z)).mono ?_))));rintro _ w ⟨qo28,co28,rfl,hH⟩;refine ⟨_,rfl,fun a hF=>JL hF hH ?_⟩;refine Jg (Je rfl) rfl (Jf (Ja (hK6 (Jd fun _ hK7 _=>(Jb (J.ofs0 42 89 (EG 2 1 (Jg (JQ bz27) rfl (JG ze27 rfl fun g7=>(Jk rfl rfl (by first | exact bytesC_one _ | exact intsC_one _ | exact Term.c_one _ | simp [Value.oneCell']) (by simpa [*] using sz27) (by simp [*]) At.z (Jf (Ja (hK7 (Jd fun _ hK8 _=>(Jd fun _ hK9 _=>(Jb ?_))))))))))))))));refine Jg (Je rfl) rfl (Jf (Ja (hK9 (Jx (JP (σ:=Option Addr × Nat × List Int × Option Addr × Nat × Vs × List (List Term) × Src × Nat) (fun ⟨qd,cd,ad,qf,cf,vs,af,s8,i⟩=>[(8,.int .i64 (i:Int))]) (fun ⟨qd,cd,ad,qf,cf,vs,af,s8,i⟩=>H) (fun ⟨qd,cd,ad,qf,cf,vs,af,s8,i⟩=>obj g7 (.cells [.slice qd ad.length cd,.slice qf af.length cf].toArray 27 (0,0))::own 2 1 qd ad.length cd (intsC ad)::ownFs 42 89 qf cf vs af::own 2 1 qo28 (ddV code s5 most).length co28 (intsC (ddV code s5 most))::srcO qb cb code gs s8::obj g4 (.cells [.slice none 0 0,.slice none 0 0].toArray 27 (0,0))::L) (fun ⟨qd,cd,ad,qf,cf,vs,af,s8,i⟩=>i≤(ddV code s5 most).length∧ad.length=i∧DrA ad af) (fun ⟨qd,cd,ad,qf,cf,vs,af,s8,i⟩=>(ddV code s5 most).length - i) (none,0, [],none,0,nilVs, [],(ddS code s5 most),0) ⟨by omega,rfl,hDA⟩ ⟨rfl,trivial⟩ rfl rfl ?_)))));rintro ⟨qd,cd,ad,qf,cf,vs,af,s8,i⟩ ⟨hi,hai,hDA⟩ _ hAg0;refine Jd fun _ hK10 _=>(Jd fun _ hK11 _=>(Jb (Jg (Jc rfl) rfl (Jg (Jc rfl) rfl (Jg (Jr u24 rfl rfl) rfl (Jg (JZ rfl rfl) rfl (Jf (Ja (hK11 (Jp rfl (fun h33=>?_) (fun h33=>?_)))))))))))
  ·
   have hil:i<(ddV code s5 most).length:=by omega
   have hdi:=hdl.2 ((ddV code s5 most).getD i 0) (getD_mem hil);have hfw:Wfs []:=Wfs.nil;refine Jo (Ja (hK10 (Jd fun _ hK12 _=>(Jx (Jd fun _ hK13 _=>(Jb (EG 89 9 (Jg (JQ bz42) rfl (JG ze42 rfl fun g9=>(Jk rfl rfl (by first | exact bytesC_one _ | exact intsC_one _ | exact Term.c_one _ | simp [Value.oneCell']) (by simpa [*] using sz42) (by simp [*]) At.z (Jf (Ja (hK13 (EL (σ:=List Term × Option Addr × Nat × Src) (fun ⟨f9,q9,c9,s9⟩=>[]) (fun ⟨f9,q9,c9,s9⟩=>H) (fun ⟨f9,q9,c9,s9⟩=>obj g9 (.cells [.slice q9 f9.length c9].toArray 42 (0,0))::own 89 9 q9 f9.length c9 (tsC f9)::srcO qb cb code gs s9::obj g7 (.cells [.slice qd ad.length cd,.slice qf af.length cf].toArray 27 (0,0))::own 2 1 qd ad.length cd (intsC ad)::ownFs 42 89 qf cf vs af::own 2 1 qo28 (ddV code s5 most).length co28 (intsC (ddV code s5 most))::obj g4 (.cells [.slice none 0 0,.slice none 0 0].toArray 27 (0,0))::L) (fun ⟨f9,q9,c9,s9⟩=>Wfs f9) ?_ ?_))))))))))))))
   ·
    intro _ hMt2;refine Jd fun _ hK14 _=>(Jb (Jg (Jc rfl) rfl (Jz fn30 rfl rfl fun w hH=>(l01Next_c hbt hbk hcl (hH.front (.s (.s (.s (.s (.s (.s .z)))))))).mono ?_)));rintro _ w ⟨rfl,hH⟩;refine ⟨_,rfl,fun a hF=>JL hF hH ?_⟩;refine Jf (Ja (hK14 (Jx (Jd fun _ hK15 _=>(Jb (Jg (En rfl rfl) rfl (Jg (Je rfl) rfl (Jf (Ja (hK15 (Jp rfl (fun hc39=>?_) (fun hc39=>?_))))))))))))
    ·
     refine Ed (Rs:=[_,_,_,_,_,_,_,_]) 10 [[], [], [1], [], [], [3,4], [3,4,5], [3,4,5,6], [0,1,2,3,4,5,6,7], [0,1,2,3,4,5,6,7,8]] [[], [], [13], [], [], [16], [16], [], [14], []] [[], [], [], [], [], [], [], [], [10], [11]] rfl rfl (by kernel_rfl) ?_;apply Jm 1 rfl
     iterate 3 focus (intros;(conv=>lhs;simp only [Jh,Js,JO,Ju,JI,eq_self,reduceEqDiff,reduceIte,reduceSub,reduceAdd,JxA,JxB]);all_goals rfl)
     ·
      intro gh X K zq zc zq2 zc2 zb zv hK;refine Jg (Jc rfl) rfl (Jj ?_);exact hK zq zc zq2 zc2 zb zv
     ·
      intro gh gh' h
      rfl
     apply Jm 2 rfl
     iterate 3 focus (intros;(conv=>lhs;simp only [Jh,Js,JO,Ju,JI,eq_self,reduceEqDiff,reduceIte,reduceSub,reduceAdd,JxA,JxB]);all_goals rfl)
     ·
      intro gh X K zq zc zq2 zc2 zb zv hK;refine Jg (Jq u27 rfl sz24 rfl) rfl (Jj ?_);exact hK zq zc zq2 zc2 zb zv
     ·
      intro gh gh' h
      rfl
     apply Jm 3 rfl
     iterate 3 focus (intros;(conv=>lhs;simp only [Jh,Js,JO,Ju,JI,eq_self,reduceEqDiff,reduceIte,reduceSub,reduceAdd,JxA,JxB]);all_goals rfl)
     ·
      intro gh X K zq zc zq2 zc2 zb zv hK;refine Jg (Jv rfl At.z rfl pl24) rfl (Jj ?_);exact hK zq zc zq2 zc2 zb zv
     ·
      intro gh gh' h
      rfl
     apply Jm 4 rfl
     iterate 3 focus (intros;(conv=>lhs;simp only [Jh,Js,JO,Ju,JI,eq_self,reduceEqDiff,reduceIte,reduceSub,reduceAdd,JxA,JxB]);all_goals rfl)
     ·
      intro gh X K zq zc zq2 zc2 zb zv hK;refine Jg (Jc rfl) rfl (Jj ?_);exact hK zq zc zq2 zc2 zb zv
     ·
      intro gh gh' h
      rfl
     apply Jm 5 rfl
     iterate 3 focus (intros;(conv=>lhs;simp only [Jh,Js,JO,Ju,JI,eq_self,reduceEqDiff,reduceIte,reduceSub,reduceAdd,JxA,JxB]);all_goals rfl)
     ·
      intro gh X K zq zc zq2 zc2 zb zv hK;refine Jg (Jc rfl) rfl (Jj ?_);exact hK zq zc zq2 zc2 zb zv
     ·
      intro gh gh' h
      rfl
     apply Jm 6 rfl
     iterate 3 focus (intros;(conv=>lhs;simp only [Jh,Js,JO,Ju,JI,eq_self,reduceEqDiff,reduceIte,reduceSub,reduceAdd,JxA,JxB]);all_goals rfl)
     ·
      intro gh X K zq zc zq2 zc2 zb zv hK;refine Jg (EM u24 sz2 rfl rfl rfl (by omega) At.z) rfl (Jj ?_);exact hK zq zc zq2 zc2 zb zv
     ·
      intro gh gh' h
      rfl
     apply Jm 7 rfl
     iterate 3 focus (intros;(conv=>lhs;simp only [Jh,Js,JO,Ju,JI,eq_self,reduceEqDiff,reduceIte,reduceSub,reduceAdd,JxA,JxB]);all_goals rfl)
     ·
      intro gh X K zq zc zq2 zc2 zb zv hK;refine Jg (EH rfl At.z (intsC_get (by first | omega | (simp;omega))) pl2) rfl (Jj ?_);exact hK zq zc zq2 zc2 zb zv
     ·
      intro gh gh' h
      rfl
     apply Jm 8 rfl
     iterate 3 focus (intros;(conv=>lhs;simp only [Jh,Js,JO,Ju,JI,eq_self,reduceEqDiff,reduceIte,reduceSub,reduceAdd,JxA,JxB]);all_goals rfl)
     ·
      intro gh X K zq zc zq2 zc2 zb zv hK;refine Jg (JF rfl rfl (nw _ (by omega))) rfl (Jj ?_);exact hK zq zc zq2 zc2 zb zv
     ·
      intro gh gh' h
      rfl
     apply GJ.st2 9 rfl
     iterate 3 focus (intros;(conv=>lhs;simp only [Jh,Js,JO,Ju,JI,eq_self,reduceEqDiff,reduceIte,reduceSub,reduceAdd,JxA,JxB]);all_goals rfl)
     ·
      intro gh X K zq zc zq2 zc2 zb zv hK;refine Jz fn71 rfl rfl fun w hH=>hH.lend (.s .z) fun Hl1 hle1 hA1 hB1 hH=>(l01DrawForm_c (hbt.le hle1) hbk (own_ints hA1) hDA.hd hDA.hn (by omega) (by omega) hcl (hH.front .z)).mono ?_;rintro _ w ⟨qo49,co49,rfl,hH⟩;replace hH:=hB1 _ _ hH;refine ⟨_,rfl,fun a hF=>JL hF hH ?_⟩;refine Ji .z (Ji (.s (.s .z)) (Ji (.s (.s .z)) (Jj ?_)));exact hK qo49 co49 zq2 zc2 zb zv
     ·
      intro gh gh' h;refine ⟨?_,?_,?_⟩ <;> rfl
     apply Es 10 rfl
     iterate 3 focus (intros;(conv=>lhs;simp only [Jh,Js,JO,Ju,JI,eq_self,reduceEqDiff,reduceIte,reduceSub,reduceAdd,JxA,JxB]);all_goals rfl)
     ·
      intro gh X K hK;refine Jk rfl rfl (by first | exact bytesC_one _ | exact intsC_one _ | exact Term.c_one _ | simp [Value.oneCell']) (by simpa [*] using sz42) (by simp [*]) At.z (Jj ?_);exact hK
     ·
      intro gh gh' h
      first | simp only [h 8 rfl] | rfl
     apply Ec [0,1,2,3,4,5,6,7,8,9] [0,1,2,3,4,5,6,7,8,9,12,13,14,15,16,17] foll0 rfl rfl rfl (by rfl)
     iterate 2 focus (intros;(conv=>lhs;simp only [Jh,Js,JO,Ju,JI,eq_self,reduceEqDiff,reduceIte,reduceSub,reduceAdd,JxA,JxB]);all_goals rfl)
     intro gh;generalize (gh 8).c=co49;generalize (gh 8).q=qo49;clear gh;refine JJ (Ja (JC (.s (.s (.s .z))) (Ji (.s (.s (.s (.s (.s (.s (.s .z))))))) (Ji (.s (.s (.s (.s (.s (.s (.s .z))))))) (Ji (.s (.s (.s (.s (.s (.s (.s .z))))))) (Ji (.s (.s (.s (.s (.s (.s (.s .z))))))) (Ji (.s (.s (.s (.s (.s (.s (.s .z))))))) (Ji (.s (.s (.s (.s (.s (.s .z)))))) (Ji (.s (.s (.s (.s (.s (.s .z)))))) (Ji (.s (.s (.s (.s (.s (.s (.s .z))))))) ?_))))))))));exact hMt2 (_,qo49,co49,_) (dfV_ok hbk hDA.hn hDA.hd _ _ (most:=3) (by omega)).wf 13 rfl rfl trivial rfl rfl
    ·
     refine Jd fun _ hK16 _=>(Jb (Jg (En rfl rfl) rfl (Jg (Je rfl) rfl (Jf (Ja (hK16 (Jp rfl (fun hc50=>?_) (fun hc50=>?_))))))))
     ·
      refine Ed (Rs:=[_,_,_,_,_,_,_,_]) 11 [[], [], [], [2], [], [], [4,5], [4,5,6], [1,2,3,4,5,6,7], [0,1,2,3,4,5,6,7,8], [0,1,2,3,4,5,6,7,8,9]] [[14], [], [], [14], [], [], [17], [17], [15], [8,15,16], []] [[], [], [], [], [], [], [], [], [11], [], [12]] rfl rfl (by kernel_rfl) ?_;apply Jm 1 rfl
      iterate 3 focus (intros;(conv=>lhs;simp only [Jh,Js,JO,Ju,JI,eq_self,reduceEqDiff,reduceIte,reduceSub,reduceAdd,JxA,JxB]);all_goals rfl)
      ·
       intro gh X K zq zc zq2 zc2 zb zv hK;refine Jg (Jl rfl At.z (by simpa [*] using ag27)) rfl (Jj ?_);exact hK zq zc zq2 zc2 zb zv
      ·
       intro gh gh' h
       rfl
      apply Jm 2 rfl
      iterate 3 focus (intros;(conv=>lhs;simp only [Jh,Js,JO,Ju,JI,eq_self,reduceEqDiff,reduceIte,reduceSub,reduceAdd,JxA,JxB]);all_goals rfl)
      ·
       intro gh X K zq zc zq2 zc2 zb zv hK;refine Jg (Jc rfl) rfl (Jj ?_);exact hK zq zc zq2 zc2 zb zv
      ·
       intro gh gh' h
       rfl
      apply Jm 3 rfl
      iterate 3 focus (intros;(conv=>lhs;simp only [Jh,Js,JO,Ju,JI,eq_self,reduceEqDiff,reduceIte,reduceSub,reduceAdd,JxA,JxB]);all_goals rfl)
      ·
       intro gh X K zq zc zq2 zc2 zb zv hK;refine Jg (Jq u27 rfl sz24 rfl) rfl (Jj ?_);exact hK zq zc zq2 zc2 zb zv
      ·
       intro gh gh' h
       rfl
      apply Jm 4 rfl
      iterate 3 focus (intros;(conv=>lhs;simp only [Jh,Js,JO,Ju,JI,eq_self,reduceEqDiff,reduceIte,reduceSub,reduceAdd,JxA,JxB]);all_goals rfl)
      ·
       intro gh X K zq zc zq2 zc2 zb zv hK;refine Jg (Jv rfl At.z rfl pl24) rfl (Jj ?_);exact hK zq zc zq2 zc2 zb zv
      ·
       intro gh gh' h
       rfl
      apply Jm 5 rfl
      iterate 3 focus (intros;(conv=>lhs;simp only [Jh,Js,JO,Ju,JI,eq_self,reduceEqDiff,reduceIte,reduceSub,reduceAdd,JxA,JxB]);all_goals rfl)
      ·
       intro gh X K zq zc zq2 zc2 zb zv hK;refine Jg (Jc rfl) rfl (Jj ?_);exact hK zq zc zq2 zc2 zb zv
      ·
       intro gh gh' h
       rfl
      apply Jm 6 rfl
      iterate 3 focus (intros;(conv=>lhs;simp only [Jh,Js,JO,Ju,JI,eq_self,reduceEqDiff,reduceIte,reduceSub,reduceAdd,JxA,JxB]);all_goals rfl)
      ·
       intro gh X K zq zc zq2 zc2 zb zv hK;refine Jg (Jc rfl) rfl (Jj ?_);exact hK zq zc zq2 zc2 zb zv
      ·
       intro gh gh' h
       rfl
      apply Jm 7 rfl
      iterate 3 focus (intros;(conv=>lhs;simp only [Jh,Js,JO,Ju,JI,eq_self,reduceEqDiff,reduceIte,reduceSub,reduceAdd,JxA,JxB]);all_goals rfl)
      ·
       intro gh X K zq zc zq2 zc2 zb zv hK;refine Jg (EM u24 sz2 rfl rfl rfl (by omega) At.z) rfl (Jj ?_);exact hK zq zc zq2 zc2 zb zv
      ·
       intro gh gh' h
       rfl
      apply Jm 8 rfl
      iterate 3 focus (intros;(conv=>lhs;simp only [Jh,Js,JO,Ju,JI,eq_self,reduceEqDiff,reduceIte,reduceSub,reduceAdd,JxA,JxB]);all_goals rfl)
      ·
       intro gh X K zq zc zq2 zc2 zb zv hK;refine Jg (EH rfl At.z (intsC_get (by first | omega | (simp;omega))) pl2) rfl (Jj ?_);exact hK zq zc zq2 zc2 zb zv
      ·
       intro gh gh' h
       rfl
      apply GJ.st2 9 rfl
      iterate 3 focus (intros;(conv=>lhs;simp only [Jh,Js,JO,Ju,JI,eq_self,reduceEqDiff,reduceIte,reduceSub,reduceAdd,JxA,JxB]);all_goals rfl)
      ·
       intro gh X K zq zc zq2 zc2 zb zv hK;refine Jz fn71 rfl rfl fun w hH=>hH.lend (.s .z) fun Hl1 hle1 hA1 hB1 hH=>(l01DrawForm_c (hbt.le hle1) hbk (own_ints hA1) hDA.hd hDA.hn (by omega) (by omega) hcl (hH.front .z)).mono ?_;rintro _ w ⟨qo60,co60,rfl,hH⟩;replace hH:=hB1 _ _ hH;refine ⟨_,rfl,fun a hF=>JL hF hH ?_⟩;refine Ji .z (Ji (.s (.s .z)) (Ji (.s (.s .z)) (Jj ?_)));exact hK qo60 co60 zq2 zc2 zb zv
      ·
       intro gh gh' h;refine ⟨?_,?_,?_⟩ <;> rfl
      apply Eb 10 rfl
      iterate 3 focus (intros;(conv=>lhs;simp only [Jh,Js,JO,Ju,JI,eq_self,reduceEqDiff,reduceIte,reduceSub,reduceAdd,JxA,JxB]);all_goals rfl)
      ·
       intro gh X K zq zc zq2 zc2 zb zv hK;refine Jz fn54 rfl rfl fun w hH=>hH.lend (.s (.s .z)) fun Hl1 hle1 hA1 hB1 hH=>hH.lend (.s (.s .z)) fun Hl2 hle2 hA2 hB2 hH=>hH.lend .z fun Hl3 hle3 hA3 hB3 hH=>(l02D_c (((own_ints hA1).le hle2).le hle3) ((own_forms hDA.wf hA2).le hle3) (own_terms (dfV_ok hbk hDA.hn hDA.hd ((ddV code s5 most).getD i 0) (nxS code s8 4) (most:=2) (by omega)).wf hA3) hDA.hn hDA.hd0 hDA.sok hDA.hl hDA.kex (dfV_ok hbk hDA.hn hDA.hd ((ddV code s5 most).getD i 0) (nxS code s8 4) (most:=2) (by omega)).sok (dfV_ok hbk hDA.hn hDA.hd ((ddV code s5 most).getD i 0) (nxS code s8 4) (most:=2) (by omega)).kex (by omega) (fun i hi=>by have:=hDA.len i hi;omega) (by have:=(dfV_ok hbk hDA.hn hDA.hd ((ddV code s5 most).getD i 0) (nxS code s8 4) (most:=2) (by omega)).len;omega) hH).mono ?_;rintro _ w ⟨qo61,co61,rfl,hH⟩;replace hH:=hB3 _ _ hH;replace hH:=hB2 _ _ hH;replace hH:=hB1 _ _ hH;refine ⟨_,rfl,fun a hF=>JL hF hH ?_⟩;refine Ji (.s .z) (Ji (.s .z) (Ji (.s (.s (.s (.s .z)))) (Ji (.s (.s (.s .z))) (Ji (.s (.s (.s (.s .z)))) (Jj ?_)))));exact hK qo61 co61 zq2 zc2 zb zv
      ·
       intro gh gh' h;refine ⟨?_,?_⟩ <;> (first | simp only [h 8 rfl] | rfl)
      apply Es 11 rfl
      iterate 3 focus (intros;(conv=>lhs;simp only [Jh,Js,JO,Ju,JI,eq_self,reduceEqDiff,reduceIte,reduceSub,reduceAdd,JxA,JxB]);all_goals rfl)
      ·
       intro gh X K hK;refine Jk rfl rfl (by first | exact bytesC_one _ | exact intsC_one _ | exact Term.c_one _ | simp [Value.oneCell']) (by simpa [*] using sz42) (by simp [*]) At.z (Jj ?_);exact hK
      ·
       intro gh gh' h
       first | simp only [h 8 rfl,h 9 rfl] | rfl
      apply Ec [0,1,2,3,4,5,6,7,8,9,10] [0,1,2,3,4,5,6,7,8,9,10,13,14,15,16,17,18] foll0 rfl rfl rfl (by rfl)
      iterate 2 focus (intros;(conv=>lhs;simp only [Jh,Js,JO,Ju,JI,eq_self,reduceEqDiff,reduceIte,reduceSub,reduceAdd,JxA,JxB]);all_goals rfl)
      intro gh;generalize (gh 8).c=co60;generalize (gh 8).q=qo60;generalize (gh 9).c=co61;generalize (gh 9).q=qo61;clear gh;refine JJ (Ja (JC .z (JC (.s (.s (.s .z))) (Ji (.s (.s (.s (.s (.s (.s (.s .z))))))) (Ji (.s (.s (.s (.s (.s (.s (.s .z))))))) (Ji (.s (.s (.s (.s (.s (.s (.s .z))))))) (Ji (.s (.s (.s (.s (.s (.s (.s .z))))))) (Ji (.s (.s (.s (.s (.s (.s (.s .z))))))) (Ji (.s (.s (.s (.s (.s .z))))) (Ji (.s (.s (.s (.s (.s (.s .z)))))) (Ji (.s (.s (.s (.s (.s (.s (.s .z))))))) ?_)))))))))));exact hMt2 (_,qo61,co61,_) ((dS_sok (dfV_ok hbk hDA.hn hDA.hd ((ddV code s5 most).getD i 0) (nxS code s8 4) (most:=2) (by omega)).sok hDA.sok (Ex.occ (dfV_ok hbk hDA.hn hDA.hd ((ddV code s5 most).getD i 0) (nxS code s8 4) (most:=2) (by omega)).kex hDA.hl)).wf (by omega)) 16 rfl rfl trivial rfl rfl
     ·
      refine Jd fun _ hK17 _=>(Jb (Jg (En rfl rfl) rfl (Jg (Je rfl) rfl (Jf (Ja (hK17 (Jp rfl (fun hc62=>?_) (fun hc62=>?_))))))))
      ·
       refine Jd fun _ hK18 _=>?_;have hG1:=(dfV_ok hbk hDA.hn hDA.hd (1+nxV code (nxS code s8 4) (((ddV code s5 most).getD i 0)+1)) (nxS code (nxS code s8 4) (((ddV code s5 most).getD i 0)+1)) (most:=1) (by omega));refine Ed (Rs:=[_,_,_,_,_,_,_,_]) 14 [[], [], [1], [], [], [], [4,5], [4,5,6], [4,5,6,7], [3,4,5,6,7,8], [3,4,5,6,7,8,9], [0,1,2,3,4,5,6,7,8,9,10], [], [0,1,2,3,4,5,6,7,8,9,10,11,12]] [[], [], [17], [], [], [], [20], [20], [], [], [], [18], [], []] [[], [], [], [], [], [], [], [], [], [14], [], [9], [], [12]] rfl rfl (by kernel_rfl) ?_;apply Jm 1 rfl
       iterate 3 focus (intros;(conv=>lhs;simp only [Jh,Js,JO,Ju,JI,eq_self,reduceEqDiff,reduceIte,reduceSub,reduceAdd,JxA,JxB]);all_goals rfl)
       ·
        intro gh X K zq zc zq2 zc2 zb zv hK;refine Jg (Jc rfl) rfl (Jj ?_);exact hK zq zc zq2 zc2 zb zv
       ·
        intro gh gh' h
        rfl
       apply Jm 2 rfl
       iterate 3 focus (intros;(conv=>lhs;simp only [Jh,Js,JO,Ju,JI,eq_self,reduceEqDiff,reduceIte,reduceSub,reduceAdd,JxA,JxB]);all_goals rfl)
       ·
        intro gh X K zq zc zq2 zc2 zb zv hK;refine Jg (Jq u27 rfl sz24 rfl) rfl (Jj ?_);exact hK zq zc zq2 zc2 zb zv
       ·
        intro gh gh' h
        rfl
       apply Jm 3 rfl
       iterate 3 focus (intros;(conv=>lhs;simp only [Jh,Js,JO,Ju,JI,eq_self,reduceEqDiff,reduceIte,reduceSub,reduceAdd,JxA,JxB]);all_goals rfl)
       ·
        intro gh X K zq zc zq2 zc2 zb zv hK;refine Jg (Jv rfl At.z rfl pl24) rfl (Jj ?_);exact hK zq zc zq2 zc2 zb zv
       ·
        intro gh gh' h
        rfl
       apply Jm 4 rfl
       iterate 3 focus (intros;(conv=>lhs;simp only [Jh,Js,JO,Ju,JI,eq_self,reduceEqDiff,reduceIte,reduceSub,reduceAdd,JxA,JxB]);all_goals rfl)
       ·
        intro gh X K zq zc zq2 zc2 zb zv hK;refine Jg (Jc rfl) rfl (Jj ?_);exact hK zq zc zq2 zc2 zb zv
       ·
        intro gh gh' h
        rfl
       apply Jm 5 rfl
       iterate 3 focus (intros;(conv=>lhs;simp only [Jh,Js,JO,Ju,JI,eq_self,reduceEqDiff,reduceIte,reduceSub,reduceAdd,JxA,JxB]);all_goals rfl)
       ·
        intro gh X K zq zc zq2 zc2 zb zv hK;refine Jg (Jc rfl) rfl (Jj ?_);exact hK zq zc zq2 zc2 zb zv
       ·
        intro gh gh' h
        rfl
       apply Jm 6 rfl
       iterate 3 focus (intros;(conv=>lhs;simp only [Jh,Js,JO,Ju,JI,eq_self,reduceEqDiff,reduceIte,reduceSub,reduceAdd,JxA,JxB]);all_goals rfl)
       ·
        intro gh X K zq zc zq2 zc2 zb zv hK;refine Jg (Jc rfl) rfl (Jj ?_);exact hK zq zc zq2 zc2 zb zv
       ·
        intro gh gh' h
        rfl
       apply Jm 7 rfl
       iterate 3 focus (intros;(conv=>lhs;simp only [Jh,Js,JO,Ju,JI,eq_self,reduceEqDiff,reduceIte,reduceSub,reduceAdd,JxA,JxB]);all_goals rfl)
       ·
        intro gh X K zq zc zq2 zc2 zb zv hK;refine Jg (EM u24 sz2 rfl rfl rfl (by omega) At.z) rfl (Jj ?_);exact hK zq zc zq2 zc2 zb zv
       ·
        intro gh gh' h
        rfl
       apply Jm 8 rfl
       iterate 3 focus (intros;(conv=>lhs;simp only [Jh,Js,JO,Ju,JI,eq_self,reduceEqDiff,reduceIte,reduceSub,reduceAdd,JxA,JxB]);all_goals rfl)
       ·
        intro gh X K zq zc zq2 zc2 zb zv hK;refine Jg (EH rfl At.z (intsC_get (by first | omega | (simp;omega))) pl2) rfl (Jj ?_);exact hK zq zc zq2 zc2 zb zv
       ·
        intro gh gh' h
        rfl
       apply Jm 9 rfl
       iterate 3 focus (intros;(conv=>lhs;simp only [Jh,Js,JO,Ju,JI,eq_self,reduceEqDiff,reduceIte,reduceSub,reduceAdd,JxA,JxB]);all_goals rfl)
       ·
        intro gh X K zq zc zq2 zc2 zb zv hK;refine Jg (JF rfl rfl (nw _ (by omega))) rfl (Jj ?_);exact hK zq zc zq2 zc2 zb zv
       ·
        intro gh gh' h
        rfl
       apply Eb 10 rfl
       iterate 3 focus (intros;(conv=>lhs;simp only [Jh,Js,JO,Ju,JI,eq_self,reduceEqDiff,reduceIte,reduceSub,reduceAdd,JxA,JxB]);all_goals rfl)
       ·
        intro gh X K zq zc zq2 zc2 zb zv hK;refine Jz fn30 rfl rfl fun w hH=>(l01Next_c hbt hbk hcl (hH.front .z)).mono ?_;rintro _ w ⟨rfl,hH⟩;refine ⟨_,rfl,fun a hF=>JL hF hH ?_⟩;refine Jj ?_;exact hK zq zc zq2 zc2 zb zv
       ·
        intro gh gh' h;refine ⟨?_,?_⟩ <;> rfl
       apply Jm 11 rfl
       iterate 3 focus (intros;(conv=>lhs;simp only [Jh,Js,JO,Ju,JI,eq_self,reduceEqDiff,reduceIte,reduceSub,reduceAdd,JxA,JxB]);all_goals rfl)
       ·
        intro gh X K zq zc zq2 zc2 zb zv hK;refine Jg (JF rfl rfl (nw _ (by have:=nxV_bd hbk (nxS code s8 4) (((ddV code s5 most).getD i 0)+1);omega))) rfl (Jj ?_);exact hK zq zc zq2 zc2 zb zv
       ·
        intro gh gh' h
        rfl
       apply GJ.st2 12 rfl
       iterate 3 focus (intros;(conv=>lhs;simp only [Jh,Js,JO,Ju,JI,eq_self,reduceEqDiff,reduceIte,reduceSub,reduceAdd,JxA,JxB]);all_goals rfl)
       ·
        intro gh X K zq zc zq2 zc2 zb zv hK;refine Jz fn71 rfl rfl fun w hH=>hH.lend (.s .z) fun Hl1 hle1 hA1 hB1 hH=>(l01DrawForm_c (hbt.le hle1) hbk (own_ints hA1) hDA.hd hDA.hn (by have:=nxV_bd hbk (nxS code s8 4) (((ddV code s5 most).getD i 0)+1);omega) (by omega) hcl (hH.front .z)).mono ?_;rintro _ w ⟨qo75,co75,rfl,hH⟩;replace hH:=hB1 _ _ hH;refine ⟨_,rfl,fun a hF=>JL hF hH ?_⟩;refine Ji .z (Ji (.s (.s .z)) (Ji (.s (.s .z)) (Jj ?_)));exact hK qo75 co75 zq2 zc2 zb zv
       ·
        intro gh gh' h;refine ⟨?_,?_,?_⟩ <;> rfl
       apply Eb 13 rfl
       iterate 3 focus (intros;(conv=>lhs;simp only [Jh,Js,JO,Ju,JI,eq_self,reduceEqDiff,reduceIte,reduceSub,reduceAdd,JxA,JxB]);all_goals rfl)
       ·
        intro gh X K zq zc zq2 zc2 zb zv hK;refine JG ze42 rfl fun g10=>(Jj ?_);exact hK zq zc zq2 zc2 g10 zv
       ·
        intro gh gh' h;refine ⟨?_,?_⟩ <;> rfl
       apply Es 14 rfl
       iterate 3 focus (intros;(conv=>lhs;simp only [Jh,Js,JO,Ju,JI,eq_self,reduceEqDiff,reduceIte,reduceSub,reduceAdd,JxA,JxB]);all_goals rfl)
       ·
        intro gh X K hK;refine Jk rfl rfl (by first | exact bytesC_one _ | exact intsC_one _ | exact Term.c_one _ | simp [Value.oneCell']) (by simpa [*] using sz42) (by simp [*]) At.z (Jj ?_);exact hK
       ·
        intro gh gh' h
        first | simp only [h 11 rfl,h 12 rfl] | rfl
       apply Ec [0,1,2,3,4,5,6,7,8,9,10,11,12,13] [0,1,2,3,4,5,6,7,8,10,11,13,15,16,17,18,19,20,21] foll0 rfl rfl rfl (by rfl)
       iterate 2 focus (intros;(conv=>lhs;simp only [Jh,Js,JO,Ju,JI,eq_self,reduceEqDiff,reduceIte,reduceSub,reduceAdd,JxA,JxB]);all_goals rfl)
       intro gh;generalize (gh 11).c=co75;generalize (gh 11).q=qo75;generalize (gh 12).b=g10;clear gh;refine Ja (hK18 (Jd fun _ hK19 _=>?_));have hgd:=degF_bd (ds:=ad) (ts:=dfV code ad (1+nxV code (nxS code s8 4) (((ddV code s5 most).getD i 0)+1)) (nxS code (nxS code s8 4) (((ddV code s5 most).getD i 0)+1)) 1) hDA.hn hDA.hd0 hG1.wf;refine Jb (Jg (Jq u27 rfl sz24 rfl) rfl (Jg (Jv rfl (.s (.s (.s (.s (.s .z))))) rfl pl24) rfl (Jg (Jl rfl (.s (.s .z)) (by simpa [*] using ag42)) rfl (Jz fn46 rfl rfl fun w hH=>hH.lend (.s (.s (.s (.s (.s (.s .z)))))) fun Hl1 hle1 hA1 hB1 hH=>hH.lend .z fun Hl2 hle2 hA2 hB2 hH=>(l01Degree_c ((own_ints hA1).le hle2) (own_terms hG1.wf hA2) hDA.hn hDA.hd0 (by have:=hG1.len;omega) hH).mono ?_))));rintro _ w ⟨rfl,hH⟩;replace hH:=hB2 _ _ hH;replace hH:=hB1 _ _ hH;refine ⟨_,rfl,fun a hF=>JL hF hH ?_⟩;refine Jg (Jc rfl) rfl (Jg (JA rfl rfl) rfl (Jg (JA rfl rfl) rfl (Jg (Je rfl) rfl (Jg (Je rfl) rfl (Jf (Ja (hK19 ?_)))))));have hH1:=(dfV_ok hbk hDA.hn hDA.hd (((ddV code s5 most).getD i 0)+1 - max (degF ad (dfV code ad (1+nxV code (nxS code s8 4) (((ddV code s5 most).getD i 0)+1)) (nxS code (nxS code s8 4) (((ddV code s5 most).getD i 0)+1)) 1)) 0) (dfS code ad (1+nxV code (nxS code s8 4) (((ddV code s5 most).getD i 0)+1)) (nxS code (nxS code s8 4) (((ddV code s5 most).getD i 0)+1)) 1) (most:=1) (by omega));refine Ed (Rs:=[_,_,_,_,_,_,_,_,_,_]) 17 [[], [0], [], [], [], [4], [], [], [6,7], [6,7,8], [6,7,8,9], [], [11], [6,7,8,9,10,11,12], [3,4,5,6,7,8,9,10,11,12,13], [0,1,2,3,4,5,6,7,8,9,10,11,12,13,14], [0,1,2,3,4,5,6,7,8,9,10,11,12,13,14,15]] [[], [23], [20], [], [], [23], [], [], [25], [25], [], [], [], [], [17], [14,17,18], []] [[], [], [], [], [], [], [], [], [], [], [], [], [], [], [19], [], [21]] rfl rfl (by kernel_rfl) ?_;apply Jm 1 rfl
       iterate 3 focus (intros;(conv=>lhs;simp only [Jh,Js,JO,Ju,JI,eq_self,reduceEqDiff,reduceIte,reduceSub,reduceAdd,JxA,JxB]);all_goals rfl)
       ·
        intro gh X K zq zc zq2 zc2 zb zv hK;refine Jg (Jq u27 rfl sz24 rfl) rfl (Jj ?_);exact hK zq zc zq2 zc2 zb zv
       ·
        intro gh gh' h
        rfl
       apply Jm 2 rfl
       iterate 3 focus (intros;(conv=>lhs;simp only [Jh,Js,JO,Ju,JI,eq_self,reduceEqDiff,reduceIte,reduceSub,reduceAdd,JxA,JxB]);all_goals rfl)
       ·
        intro gh X K zq zc zq2 zc2 zb zv hK;refine Jg (Jv rfl At.z rfl pl24) rfl (Jj ?_);exact hK zq zc zq2 zc2 zb zv
       ·
        intro gh gh' h
        rfl
       apply Jm 3 rfl
       iterate 3 focus (intros;(conv=>lhs;simp only [Jh,Js,JO,Ju,JI,eq_self,reduceEqDiff,reduceIte,reduceSub,reduceAdd,JxA,JxB]);all_goals rfl)
       ·
        intro gh X K zq zc zq2 zc2 zb zv hK;refine Jg (Jl rfl At.z (by simpa [*] using ag42)) rfl (Jj ?_);exact hK zq zc zq2 zc2 zb zv
       ·
        intro gh gh' h
        rfl
       apply Jm 4 rfl
       iterate 3 focus (intros;(conv=>lhs;simp only [Jh,Js,JO,Ju,JI,eq_self,reduceEqDiff,reduceIte,reduceSub,reduceAdd,JxA,JxB]);all_goals rfl)
       ·
        intro gh X K zq zc zq2 zc2 zb zv hK;refine Jg (Jc rfl) rfl (Jj ?_);exact hK zq zc zq2 zc2 zb zv
       ·
        intro gh gh' h
        rfl
       apply Jm 5 rfl
       iterate 3 focus (intros;(conv=>lhs;simp only [Jh,Js,JO,Ju,JI,eq_self,reduceEqDiff,reduceIte,reduceSub,reduceAdd,JxA,JxB]);all_goals rfl)
       ·
        intro gh X K zq zc zq2 zc2 zb zv hK;refine Jg (Jq u27 rfl sz24 rfl) rfl (Jj ?_);exact hK zq zc zq2 zc2 zb zv
       ·
        intro gh gh' h
        rfl
       apply Jm 6 rfl
       iterate 3 focus (intros;(conv=>lhs;simp only [Jh,Js,JO,Ju,JI,eq_self,reduceEqDiff,reduceIte,reduceSub,reduceAdd,JxA,JxB]);all_goals rfl)
       ·
        intro gh X K zq zc zq2 zc2 zb zv hK;refine Jg (Jv rfl At.z rfl pl24) rfl (Jj ?_);exact hK zq zc zq2 zc2 zb zv
       ·
        intro gh gh' h
        rfl
       apply Jm 7 rfl
       iterate 3 focus (intros;(conv=>lhs;simp only [Jh,Js,JO,Ju,JI,eq_self,reduceEqDiff,reduceIte,reduceSub,reduceAdd,JxA,JxB]);all_goals rfl)
       ·
        intro gh X K zq zc zq2 zc2 zb zv hK;refine Jg (Jc rfl) rfl (Jj ?_);exact hK zq zc zq2 zc2 zb zv
       ·
        intro gh gh' h
        rfl
       apply Jm 8 rfl
       iterate 3 focus (intros;(conv=>lhs;simp only [Jh,Js,JO,Ju,JI,eq_self,reduceEqDiff,reduceIte,reduceSub,reduceAdd,JxA,JxB]);all_goals rfl)
       ·
        intro gh X K zq zc zq2 zc2 zb zv hK;refine Jg (Jc rfl) rfl (Jj ?_);exact hK zq zc zq2 zc2 zb zv
       ·
        intro gh gh' h
        rfl
       apply Jm 9 rfl
       iterate 3 focus (intros;(conv=>lhs;simp only [Jh,Js,JO,Ju,JI,eq_self,reduceEqDiff,reduceIte,reduceSub,reduceAdd,JxA,JxB]);all_goals rfl)
       ·
        intro gh X K zq zc zq2 zc2 zb zv hK;refine Jg (EM u24 sz2 rfl rfl rfl (by omega) At.z) rfl (Jj ?_);exact hK zq zc zq2 zc2 zb zv
       ·
        intro gh gh' h
        rfl
       apply Jm 10 rfl
       iterate 3 focus (intros;(conv=>lhs;simp only [Jh,Js,JO,Ju,JI,eq_self,reduceEqDiff,reduceIte,reduceSub,reduceAdd,JxA,JxB]);all_goals rfl)
       ·
        intro gh X K zq zc zq2 zc2 zb zv hK;refine Jg (EH rfl At.z (intsC_get (by first | omega | (simp;omega))) pl2) rfl (Jj ?_);exact hK zq zc zq2 zc2 zb zv
       ·
        intro gh gh' h
        rfl
       apply Jm 11 rfl
       iterate 3 focus (intros;(conv=>lhs;simp only [Jh,Js,JO,Ju,JI,eq_self,reduceEqDiff,reduceIte,reduceSub,reduceAdd,JxA,JxB]);all_goals rfl)
       ·
        intro gh X K zq zc zq2 zc2 zb zv hK;refine Jg (JF rfl rfl (nw _ (by omega))) rfl (Jj ?_);exact hK zq zc zq2 zc2 zb zv
       ·
        intro gh gh' h
        rfl
       apply Jm 12 rfl
       iterate 3 focus (intros;(conv=>lhs;simp only [Jh,Js,JO,Ju,JI,eq_self,reduceEqDiff,reduceIte,reduceSub,reduceAdd,JxA,JxB]);all_goals rfl)
       ·
        intro gh X K zq zc zq2 zc2 zb zv hK;refine Jg (Jc rfl) rfl (Jj ?_);exact hK zq zc zq2 zc2 zb zv
       ·
        intro gh gh' h
        rfl
       apply Jm 13 rfl
       iterate 3 focus (intros;(conv=>lhs;simp only [Jh,Js,JO,Ju,JI,eq_self,reduceEqDiff,reduceIte,reduceSub,reduceAdd,JxA,JxB]);all_goals rfl)
       ·
        intro gh X K zq zc zq2 zc2 zb zv hK;refine Jg (PR.eqv (v':=.int .i64 (max (degF ad (dfV code ad (1+nxV code (nxS code s8 4) (((ddV code s5 most).getD i 0)+1)) (nxS code (nxS code s8 4) (((ddV code s5 most).getD i 0)+1)) 1)) 0)) (by congr 1;omega) (PR.max2 rfl rfl)) rfl (Jj ?_);exact hK zq zc zq2 zc2 zb zv
       ·
        intro gh gh' h
        rfl
       apply Jm 14 rfl
       iterate 3 focus (intros;(conv=>lhs;simp only [Jh,Js,JO,Ju,JI,eq_self,reduceEqDiff,reduceIte,reduceSub,reduceAdd,JxA,JxB]);all_goals rfl)
       ·
        intro gh X K zq zc zq2 zc2 zb zv hK;refine Jg (ET rfl rfl (nw _ (by omega))) rfl (Jj ?_);exact hK zq zc zq2 zc2 zb zv
       ·
        intro gh gh' h
        rfl
       apply GJ.st2 15 rfl
       iterate 3 focus (intros;(conv=>lhs;simp only [Jh,Js,JO,Ju,JI,eq_self,reduceEqDiff,reduceIte,reduceSub,reduceAdd,JxA,JxB]);all_goals rfl)
       ·
        intro gh X K zq zc zq2 zc2 zb zv hK;refine Jz fn71 rfl rfl fun w hH=>hH.lend (.s .z) fun Hl1 hle1 hA1 hB1 hH=>(l01DrawForm_c (hbt.le hle1) hbk (own_ints hA1) hDA.hd hDA.hn (by omega) (by omega) hcl (hH.front .z)).mono ?_;rintro _ w ⟨qo97,co97,rfl,hH⟩;replace hH:=hB1 _ _ hH;refine ⟨_,rfl,fun a hF=>JL hF hH ?_⟩;refine Ji .z (Ji (.s (.s .z)) (Ji (.s (.s .z)) (Jj ?_)));exact hK qo97 co97 zq2 zc2 zb zv
       ·
        intro gh gh' h;refine ⟨?_,?_,?_⟩ <;> rfl
       apply Eb 16 rfl
       iterate 3 focus (intros;(conv=>lhs;simp only [Jh,Js,JO,Ju,JI,eq_self,reduceEqDiff,reduceIte,reduceSub,reduceAdd,JxA,JxB]);all_goals rfl)
       ·
        intro gh X K zq zc zq2 zc2 zb zv hK;refine Jz fn72 rfl rfl fun w hH=>hH.lend (.s (.s .z)) fun Hl1 hle1 hA1 hB1 hH=>hH.lend (.s (.s .z)) fun Hl2 hle2 hA2 hB2 hH=>hH.lend .z fun Hl3 hle3 hA3 hB3 hH=>(l01Times_c (((own_ints hA1).le hle2).le hle3) ((own_terms hG1.wf hA2).le hle3) (own_terms hH1.wf hA3) hDA.hn hDA.hd0 hG1.kex hH1.kex hG1.sok.g hH1.sok.g (by omega) (Nat.le_trans (Nat.mul_le_mul hG1.len hH1.len) (by decide)) (by have:=hG1.len;omega) hH).mono ?_;rintro _ w ⟨qo98,co98,rfl,hH⟩;replace hH:=hB3 _ _ hH;replace hH:=hB2 _ _ hH;replace hH:=hB1 _ _ hH;refine ⟨_,rfl,fun a hF=>JL hF hH ?_⟩;refine Ji (.s .z) (Ji (.s .z) (Ji (.s (.s (.s (.s .z)))) (Ji (.s (.s (.s .z))) (Ji (.s (.s (.s (.s .z)))) (Jj ?_)))));exact hK qo98 co98 zq2 zc2 zb zv
       ·
        intro gh gh' h;refine ⟨?_,?_⟩ <;> (first | simp only [h 14 rfl] | rfl)
       apply Es 17 rfl
       iterate 3 focus (intros;(conv=>lhs;simp only [Jh,Js,JO,Ju,JI,eq_self,reduceEqDiff,reduceIte,reduceSub,reduceAdd,JxA,JxB]);all_goals rfl)
       ·
        intro gh X K hK;refine Jk rfl rfl (by first | exact bytesC_one _ | exact intsC_one _ | exact Term.c_one _ | simp [Value.oneCell']) (by simpa [*] using sz42) (by simp [*]) At.z (Jj ?_);exact hK
       ·
        intro gh gh' h
        first | simp only [h 14 rfl,h 15 rfl] | rfl
       apply Ec [0,1,2,3,4,5,6,7,8,9,10,11,12,13,14,15,16] [0,1,2,3,4,5,6,7,8,9,10,11,12,13,14,15,16,17,18,20,22,23,24,25,26] foll0 rfl rfl rfl (by rfl)
       iterate 2 focus (intros;(conv=>lhs;simp only [Jh,Js,JO,Ju,JI,eq_self,reduceEqDiff,reduceIte,reduceSub,reduceAdd,JxA,JxB]);all_goals rfl)
       intro gh;generalize (gh 14).c=co97;generalize (gh 14).q=qo97;generalize (gh 15).c=co98;generalize (gh 15).q=qo98;clear gh;refine JJ (Ja (JC .z (JC (.s (.s (.s (.s .z)))) (JC (.s (.s (.s (.s .z)))) (JC (.s (.s (.s (.s .z)))) (Ji (.s (.s (.s (.s (.s (.s (.s .z))))))) (Ji (.s (.s (.s (.s (.s (.s (.s .z))))))) (Ji (.s (.s (.s (.s (.s (.s (.s .z))))))) (Ji (.s (.s (.s (.s (.s (.s .z)))))) (Ji (.s (.s (.s (.s (.s (.s (.s .z))))))) (Ji (.s (.s (.s (.s (.s .z))))) (Ji (.s (.s (.s (.s (.s (.s .z)))))) (Ji (.s (.s (.s (.s (.s (.s (.s .z))))))) ?_)))))))))))));exact hMt2 (_,qo98,co98,_) ((gtimes hG1.sok.g hH1.sok.g).wf (by omega)) 46 rfl rfl trivial rfl rfl
      ·
       refine Jo (JJ (Ja (Ji (.s (.s (.s (.s (.s (.s (.s .z))))))) (Ji (.s (.s (.s (.s (.s (.s (.s .z))))))) (Ji (.s (.s (.s (.s (.s (.s (.s .z))))))) (Ji (.s (.s (.s (.s (.s (.s (.s .z))))))) (Ji (.s (.s (.s (.s (.s (.s (.s .z))))))) (Ji (.s (.s (.s (.s (.s .z))))) (Ji (.s (.s (.s (.s (.s (.s (.s .z))))))) (Ji (.s (.s (.s (.s (.s (.s (.s .z))))))) ?_))))))))));exact hMt2 ([],none,0,(nxS code s8 4)) Wfs.nil 8 rfl rfl trivial rfl rfl
   ·
    rintro ⟨f9,q9,c9,s9⟩ hfw;refine EL (σ:=List Term × Option Addr × Nat) (fun ⟨f7,q7,c7⟩=>[]) (fun ⟨f7,q7,c7⟩=>H) (fun ⟨f7,q7,c7⟩=>obj g9 (.cells [.slice q7 f7.length c7].toArray 42 (0,0))::own 89 9 q7 f7.length c7 (tsC f7)::srcO qb cb code gs s9::obj g7 (.cells [.slice qd ad.length cd,.slice qf af.length cf].toArray 27 (0,0))::own 2 1 qd ad.length cd (intsC ad)::ownFs 42 89 qf cf vs af::own 2 1 qo28 (ddV code s5 most).length co28 (intsC (ddV code s5 most))::obj g4 (.cells [.slice none 0 0,.slice none 0 0].toArray 27 (0,0))::L) (fun ⟨f7,q7,c7⟩=>DrF ad 400 f7) ?_ ?_
    ·
     intro _ hMt3;refine Jd fun _ hK20 _=>(CJ.ownLen (.s .z) fun hfl=>(Jb (Jg (Jq u27 rfl sz24 rfl) rfl (Jg (Jv rfl (.s (.s (.s .z))) rfl pl24) rfl (Jg (Jl rfl At.z (by simpa [*] using ag42)) rfl (Jz fn46 rfl rfl fun w hH=>hH.lend (.s (.s (.s (.s .z)))) fun Hl1 hle1 hA1 hB1 hH=>hH.lend (.s .z) fun Hl2 hle2 hA2 hB2 hH=>(l01Degree_c ((own_ints hA1).le hle2) (own_terms hfw hA2) hDA.hn hDA.hd0 hfl hH).mono ?_))))));rintro _ w ⟨rfl,hH⟩;replace hH:=hB2 _ _ hH;replace hH:=hB1 _ _ hH;refine ⟨_,rfl,fun a hF=>JL hF hH ?_⟩;refine Jg (Jc rfl) rfl (Jg (JA rfl rfl) rfl (Jg (JA rfl rfl) rfl (Jg (Je rfl) rfl (Jg (Je rfl) rfl (Jf (Ja (hK20 (Jd fun _ hK21 _=>(Jb (Jg (Jc rfl) rfl (Jg (Er rfl) rfl (Jg (Jc rfl) rfl (JW (jd:=108) rfl (fun hg108=>?_) (fun hg108=>?_))))))))))))))
     ·
      try have hg108p:=of_decide_eq_true hg108
      refine JE rfl rfl rfl hg108 (JE rfl rfl rfl hg108 (JE rfl rfl rfl hg108 (JE rfl rfl rfl hg108 (JE rfl rfl rfl hg108 (EN rfl rfl rfl (EN rfl rfl rfl (EN rfl rfl rfl (EN rfl rfl rfl (EN rfl rfl rfl (EN rfl rfl rfl (EN rfl rfl rfl (JE rfl rfl rfl hg108 (Jg (JN rfl hg108 rfl) rfl (Jg (Jc rfl) rfl ?_))))))))))))));refine JE rfl rfl rfl rfl (JE rfl rfl rfl rfl (JE rfl rfl rfl rfl (JE rfl rfl rfl rfl (JE rfl rfl rfl rfl (Jg (JN rfl rfl rfl) rfl (Jg (Jc rfl) rfl (JE rfl rfl rfl rfl (JE rfl rfl rfl rfl (JE rfl rfl rfl rfl (JE rfl rfl rfl rfl (JE rfl rfl rfl rfl (JE rfl rfl rfl rfl (Jg (JN rfl rfl rfl) rfl (Jf ?_))))))))))))));refine Ja (hK21 (Ep rfl (Jb (EG 89 9 (Jg (JQ bz42) rfl (Jk rfl rfl (by first | exact bytesC_one _ | exact intsC_one _ | exact Term.c_one _ | simp [Value.oneCell']) (by simpa [*] using sz42) (by simp [*]) (.s (.s (.s .z))) (Jf (Ja (JC (.s (.s .z)) (Ji (.s (.s (.s (.s (.s (.s (.s .z))))))) (Ji (.s (.s (.s (.s (.s (.s (.s .z))))))) (Ji (.s (.s (.s (.s (.s (.s (.s .z))))))) (Ji (.s (.s (.s (.s .z)))) (Ji (.s (.s (.s (.s (.s (.s (.s .z))))))) (Ji (.s (.s (.s (.s (.s (.s (.s .z))))))) ?_)))))))))))))));refine Ji (.s (.s (.s (.s (.s (.s .z)))))) (Ji (.s (.s (.s (.s (.s (.s (.s .z))))))) ?_);exact hMt3 ([],none,0) ((DrF.nil ad).mono (by omega)) 42 rfl rfl trivial rfl rfl
     ·
      try have hg108p:=of_decide_eq_false hg108
      refine JK (Jq u42 rfl sz40 rfl) rfl rfl rfl hg108 (JK (Jv rfl (.s (.s .z)) rfl pl40) rfl rfl rfl hg108 (JK (Jr u40 rfl rfl) rfl rfl rfl hg108 (JK (Eq rfl rfl) rfl rfl rfl hg108 (JK (Jc rfl) rfl rfl rfl hg108 (JW (jd:=113) rfl (fun hg113=>?_) (fun hg113=>?_))))))
      ·
       try have hg113p:=of_decide_eq_true hg113
       refine JK (Jc rfl) rfl rfl rfl hg113 (JK (Jc rfl) rfl rfl rfl hg113 (JK (Jc rfl) rfl rfl rfl hg113 (JK (EM u24 sz2 rfl rfl rfl (by omega) (.s (.s (.s (.s (.s (.s .z))))))) rfl rfl rfl hg113 (JK (EH rfl (.s (.s (.s (.s (.s (.s .z)))))) (intsC_get (by first | omega | (simp;omega))) pl2) rfl rfl rfl hg113 (JK (JF rfl rfl (nw _ (by omega))) rfl rfl rfl hg113 (JK (Ew rfl rfl) rfl rfl rfl hg113 (JK (JN rfl hg113 rfl) rfl rfl rfl hg108 (Jg (JM rfl hg108 rfl) rfl (Jg (Jc rfl) rfl (JW (jd:=123) rfl (fun hg123=>?_) (fun hg123=>?_)))))))))))
       ·
        try have hg123p:=of_decide_eq_true hg123
        refine JE rfl rfl rfl hg123 (JE rfl rfl rfl hg123 (JE rfl rfl rfl hg123 (JE rfl rfl rfl hg123 (JE rfl rfl rfl hg123 (Jg (JN rfl hg123 rfl) rfl (Jg (Jc rfl) rfl (JE rfl rfl rfl rfl (JE rfl rfl rfl rfl (JE rfl rfl rfl rfl (JE rfl rfl rfl rfl (JE rfl rfl rfl rfl (JE rfl rfl rfl rfl (Jg (JN rfl rfl rfl) rfl (Jf ?_))))))))))))));refine Ja (hK21 (Ep rfl (Jb (EG 89 9 (Jg (JQ bz42) rfl (Jk rfl rfl (by first | exact bytesC_one _ | exact intsC_one _ | exact Term.c_one _ | simp [Value.oneCell']) (by simpa [*] using sz42) (by simp [*]) (.s (.s (.s .z))) (Jf (Ja (JC (.s (.s .z)) (Ji (.s (.s (.s (.s (.s (.s (.s .z))))))) (Ji (.s (.s (.s (.s (.s (.s (.s .z))))))) (Ji (.s (.s (.s (.s (.s (.s (.s .z))))))) (Ji (.s (.s (.s (.s .z)))) (Ji (.s (.s (.s (.s (.s (.s (.s .z))))))) (Ji (.s (.s (.s (.s (.s (.s (.s .z))))))) ?_)))))))))))))));refine Ji (.s (.s (.s (.s (.s (.s .z)))))) (Ji (.s (.s (.s (.s (.s (.s (.s .z))))))) ?_);exact hMt3 ([],none,0) ((DrF.nil ad).mono (by omega)) 42 rfl rfl trivial rfl rfl
       ·
        try have hg123p:=of_decide_eq_false hg123
        refine JK (Jq u27 rfl sz24 rfl) rfl rfl rfl hg123 (JK (Jv rfl (.s (.s (.s (.s .z)))) rfl pl24) rfl rfl rfl hg123 (JK (Jl rfl (.s (.s .z)) (by simpa [*] using ag42)) rfl rfl rfl hg123 (Et fn67 rfl rfl hg123 rfl rfl fun w hH=>hH.lend .z fun Hl1 hle1 hA1 hB1 hH=>hH.lend .z fun Hl2 hle2 hA2 hB2 hH=>(l01Is_c ((own_ints hA1).le hle2) (own_terms hfw hA2) (by have:=hDA.hn;omega) (fun j _=>(hDA.hd0 j).1) hfl hH).mono ?_)));rintro _ w ⟨rfl,hH⟩;replace hH:=hB2 _ _ hH;replace hH:=hB1 _ _ hH;refine ⟨_,rfl,fun a hF=>JL hF hH ?_⟩;refine JK (Er rfl) rfl rfl rfl hg123 (Jg (JM rfl hg123 rfl) rfl (Jg (Jc rfl) rfl (JW (jd:=130) rfl (fun h130=>?_) (fun h130=>?_))))
        ·
         try have h130p:=of_decide_eq_true h130
         refine JE rfl rfl rfl h130 (JE rfl rfl rfl h130 (JE rfl rfl rfl h130 (JE rfl rfl rfl h130 (JE rfl rfl rfl h130 (JE rfl rfl rfl h130 (Jg (JN rfl h130 rfl) rfl (Jf (Ja (hK21 (Ep rfl (Jb (EG 89 9 (Jg (JQ bz42) rfl (Jk rfl rfl (by first | exact bytesC_one _ | exact intsC_one _ | exact Term.c_one _ | simp [Value.oneCell']) (by simpa [*] using sz42) (by simp [*]) (.s (.s (.s .z))) (Jf ?_)))))))))))))));refine Ja (JC (.s (.s .z)) (Ji (.s (.s (.s (.s (.s (.s (.s .z))))))) (Ji (.s (.s (.s (.s (.s (.s (.s .z))))))) (Ji (.s (.s (.s (.s (.s (.s (.s .z))))))) (Ji (.s (.s (.s (.s .z)))) (Ji (.s (.s (.s (.s (.s (.s (.s .z))))))) (Ji (.s (.s (.s (.s (.s (.s (.s .z))))))) (Ji (.s (.s (.s (.s (.s (.s .z)))))) (Ji (.s (.s (.s (.s (.s (.s (.s .z))))))) ?_)))))))));exact hMt3 ([],none,0) ((DrF.nil ad).mono (by omega)) 42 rfl rfl trivial rfl rfl
        ·
         try have h130p:=of_decide_eq_false h130
         have hfo:isForm ad f9=true:=by simpa using h130
         have hFs:=isForm_sok hfw hfo;have hFk:=isForm_kex hDA.hd0 hDA.hn hfw hfo;have hF4:=isForm_len4 hfo;have hDFk:DrF ad 400 f9:=⟨hFs,hFk,hfw,hF4⟩;refine JK (Jl rfl (.s (.s (.s (.s .z)))) (by simpa [*] using ag27)) rfl rfl rfl h130 (JK (Jl rfl (.s (.s .z)) (by simpa [*] using ag42)) rfl rfl rfl h130 (Et fn54 rfl rfl h130 rfl rfl fun w hH=>hH.lend .z fun Hl1 hle1 hA1 hB1 hH=>hH.lend (.s (.s (.s (.s .z)))) fun Hl2 hle2 hA2 hB2 hH=>hH.lend .z fun Hl3 hle3 hA3 hB3 hH=>(l02D_c (((own_ints hA1).le hle2).le hle3) ((own_forms hDA.wf hA2).le hle3) (own_terms hfw hA3) hDA.hn hDA.hd0 hDA.sok hDA.hl hDA.kex hFs hFk (by omega) (fun i hi=>by have:=hDA.len i hi;omega) (by omega) hH).mono ?_));rintro _ w ⟨qo133,co133,rfl,hH⟩;replace hH:=hB3 _ _ hH;replace hH:=hB2 _ _ hH;replace hH:=hB1 _ _ hH;refine ⟨_,rfl,fun a hF=>JL hF hH ?_⟩;refine JK (PR.fieldV u42 rfl pl40 rfl rfl) rfl rfl rfl h130 (JK (Jr u40 rfl rfl) rfl rfl rfl h130 (JK (Eq rfl rfl) rfl rfl rfl h130 (Jg (JM rfl h130 rfl) rfl (Jf (Ja (hK21 (Jp rfl (fun hc137=>?_) (fun hc137=>?_))))))))
         ·
          refine Jb (EG 89 9 (Jg (JQ bz42) rfl (Jk rfl rfl (by first | exact bytesC_one _ | exact intsC_one _ | exact Term.c_one _ | simp [Value.oneCell']) (by simpa [*] using sz42) (by simp [*]) (.s (.s (.s (.s (.s .z))))) (Jf (Ja (JC (.s (.s (.s .z))) (JC (.s (.s (.s .z))) (Ji (.s (.s (.s (.s (.s (.s (.s .z))))))) (Ji (.s (.s (.s (.s (.s (.s (.s .z))))))) (Ji (.s (.s (.s (.s .z)))) (Ji (.s (.s (.s (.s .z)))) (Ji (.s (.s (.s (.s (.s (.s (.s .z))))))) (Ji (.s (.s (.s (.s (.s (.s (.s .z))))))) (Ji (.s (.s (.s (.s (.s (.s .z)))))) ?_))))))))))))));refine Ji (.s (.s (.s (.s (.s (.s (.s .z))))))) ?_;exact hMt3 ([],none,0) ((DrF.nil ad).mono (by omega)) 42 rfl rfl trivial rfl rfl
         ·
          refine Jo (Ja (JC (.s (.s (.s .z))) (Ji (.s (.s (.s (.s (.s (.s (.s .z))))))) (Ji (.s (.s (.s (.s (.s (.s (.s .z))))))) (Ji (.s (.s (.s .z))) (Ji (.s (.s (.s .z))) (Ji (.s (.s (.s (.s (.s (.s (.s .z))))))) (Ji (.s (.s (.s (.s (.s (.s (.s .z))))))) (Ji (.s (.s (.s (.s (.s (.s .z)))))) (Ji (.s (.s (.s (.s (.s (.s (.s .z))))))) ?_))))))))));exact hMt3 (f9,q9,c9) hDFk 41 rfl rfl trivial rfl rfl
      ·
       try have hg113p:=of_decide_eq_false hg113
       refine JE rfl rfl rfl hg113 (JE rfl rfl rfl hg113 (JE rfl rfl rfl hg113 (JE rfl rfl rfl hg113 (JE rfl rfl rfl hg113 (JE rfl rfl rfl hg113 (JE rfl rfl rfl hg113 (JK (JM rfl hg113 rfl) rfl rfl rfl hg108 (Jg (JM rfl hg108 rfl) rfl (Jg (Jc rfl) rfl (JK (Jq u27 rfl sz24 rfl) rfl rfl rfl rfl (JK (Jv rfl (.s (.s (.s (.s .z)))) rfl pl24) rfl rfl rfl rfl (JK (Jl rfl (.s (.s .z)) (by simpa [*] using ag42)) rfl rfl rfl rfl (Et fn67 rfl rfl rfl rfl rfl fun w hH=>hH.lend .z fun Hl1 hle1 hA1 hB1 hH=>hH.lend .z fun Hl2 hle2 hA2 hB2 hH=>(l01Is_c ((own_ints hA1).le hle2) (own_terms hfw hA2) (by have:=hDA.hn;omega) (fun j _=>(hDA.hd0 j).1) hfl hH).mono ?_)))))))))))));rintro _ w ⟨rfl,hH⟩;replace hH:=hB2 _ _ hH;replace hH:=hB1 _ _ hH;refine ⟨_,rfl,fun a hF=>JL hF hH ?_⟩;refine JK (Er rfl) rfl rfl rfl rfl (Jg (JM rfl rfl rfl) rfl (Jg (Jc rfl) rfl (JW (jd:=130) rfl (fun h130=>?_) (fun h130=>?_))))
       ·
        try have h130p:=of_decide_eq_true h130
        refine JE rfl rfl rfl h130 (JE rfl rfl rfl h130 (JE rfl rfl rfl h130 (JE rfl rfl rfl h130 (JE rfl rfl rfl h130 (JE rfl rfl rfl h130 (Jg (JN rfl h130 rfl) rfl (Jf (Ja (hK21 (Ep rfl (Jb (EG 89 9 (Jg (JQ bz42) rfl (Jk rfl rfl (by first | exact bytesC_one _ | exact intsC_one _ | exact Term.c_one _ | simp [Value.oneCell']) (by simpa [*] using sz42) (by simp [*]) (.s (.s (.s .z))) (Jf ?_)))))))))))))));refine Ja (JC (.s (.s .z)) (Ji (.s (.s (.s (.s (.s (.s (.s .z))))))) (Ji (.s (.s (.s (.s (.s (.s (.s .z))))))) (Ji (.s (.s (.s (.s (.s (.s (.s .z))))))) (Ji (.s (.s (.s (.s .z)))) (Ji (.s (.s (.s (.s (.s (.s (.s .z))))))) (Ji (.s (.s (.s (.s (.s (.s (.s .z))))))) (Ji (.s (.s (.s (.s (.s (.s .z)))))) (Ji (.s (.s (.s (.s (.s (.s (.s .z))))))) ?_)))))))));exact hMt3 ([],none,0) ((DrF.nil ad).mono (by omega)) 42 rfl rfl trivial rfl rfl
       ·
        try have h130p:=of_decide_eq_false h130
        have hfo:isForm ad f9=true:=by simpa using h130
        have hFs:=isForm_sok hfw hfo;have hFk:=isForm_kex hDA.hd0 hDA.hn hfw hfo;have hF4:=isForm_len4 hfo;have hDFk:DrF ad 400 f9:=⟨hFs,hFk,hfw,hF4⟩;refine JK (Jl rfl (.s (.s (.s (.s .z)))) (by simpa [*] using ag27)) rfl rfl rfl h130 (JK (Jl rfl (.s (.s .z)) (by simpa [*] using ag42)) rfl rfl rfl h130 (Et fn54 rfl rfl h130 rfl rfl fun w hH=>hH.lend .z fun Hl1 hle1 hA1 hB1 hH=>hH.lend (.s (.s (.s (.s .z)))) fun Hl2 hle2 hA2 hB2 hH=>hH.lend .z fun Hl3 hle3 hA3 hB3 hH=>(l02D_c (((own_ints hA1).le hle2).le hle3) ((own_forms hDA.wf hA2).le hle3) (own_terms hfw hA3) hDA.hn hDA.hd0 hDA.sok hDA.hl hDA.kex hFs hFk (by omega) (fun i hi=>by have:=hDA.len i hi;omega) (by omega) hH).mono ?_));rintro _ w ⟨qo133,co133,rfl,hH⟩;replace hH:=hB3 _ _ hH;replace hH:=hB2 _ _ hH;replace hH:=hB1 _ _ hH;refine ⟨_,rfl,fun a hF=>JL hF hH ?_⟩;refine JK (PR.fieldV u42 rfl pl40 rfl rfl) rfl rfl rfl h130 (JK (Jr u40 rfl rfl) rfl rfl rfl h130 (JK (Eq rfl rfl) rfl rfl rfl h130 (Jg (JM rfl h130 rfl) rfl (Jf (Ja (hK21 (Jp rfl (fun hc137=>?_) (fun hc137=>?_))))))))
        ·
         refine Jb (EG 89 9 (Jg (JQ bz42) rfl (Jk rfl rfl (by first | exact bytesC_one _ | exact intsC_one _ | exact Term.c_one _ | simp [Value.oneCell']) (by simpa [*] using sz42) (by simp [*]) (.s (.s (.s (.s (.s .z))))) (Jf (Ja (JC (.s (.s (.s .z))) (JC (.s (.s (.s .z))) (Ji (.s (.s (.s (.s (.s (.s (.s .z))))))) (Ji (.s (.s (.s (.s (.s (.s (.s .z))))))) (Ji (.s (.s (.s (.s .z)))) (Ji (.s (.s (.s (.s .z)))) (Ji (.s (.s (.s (.s (.s (.s (.s .z))))))) (Ji (.s (.s (.s (.s (.s (.s (.s .z))))))) (Ji (.s (.s (.s (.s (.s (.s .z)))))) ?_))))))))))))));refine Ji (.s (.s (.s (.s (.s (.s (.s .z))))))) ?_;exact hMt3 ([],none,0) ((DrF.nil ad).mono (by omega)) 42 rfl rfl trivial rfl rfl
        ·
         refine Jo (Ja (JC (.s (.s (.s .z))) (Ji (.s (.s (.s (.s (.s (.s (.s .z))))))) (Ji (.s (.s (.s (.s (.s (.s (.s .z))))))) (Ji (.s (.s (.s .z))) (Ji (.s (.s (.s .z))) (Ji (.s (.s (.s (.s (.s (.s (.s .z))))))) (Ji (.s (.s (.s (.s (.s (.s (.s .z))))))) (Ji (.s (.s (.s (.s (.s (.s .z)))))) (Ji (.s (.s (.s (.s (.s (.s (.s .z))))))) ?_))))))))));exact hMt3 (f9,q9,c9) hDFk 41 rfl rfl trivial rfl rfl
    ·
     rintro ⟨f7,q7,c7⟩ hDF;refine Ed (Rs:=[_,_,_,_,_,_,_,_]) 8 [[], [], [], [1,2], [1,2,3], [], [0,1,2,3,4,5], [0,1,2,3,4,5,6]] [[11], [], [], [14], [14], [8], [9,12,13], []] [[], [], [], [], [], [], [], [11]] rfl rfl (by kernel_rfl) ?_;apply Jm 1 rfl
     iterate 3 focus (intros;(conv=>lhs;simp only [Jh,Js,JO,Ju,JI,eq_self,reduceEqDiff,reduceIte,reduceSub,reduceAdd,JxA,JxB]);all_goals rfl)
     ·
      intro gh X K zq zc zq2 zc2 zb zv hK;refine Jg (Jl rfl At.z (by simpa [*] using ag27)) rfl (Jj ?_);exact hK zq zc zq2 zc2 zb zv
     ·
      intro gh gh' h
      rfl
     apply Jm 2 rfl
     iterate 3 focus (intros;(conv=>lhs;simp only [Jh,Js,JO,Ju,JI,eq_self,reduceEqDiff,reduceIte,reduceSub,reduceAdd,JxA,JxB]);all_goals rfl)
     ·
      intro gh X K zq zc zq2 zc2 zb zv hK;refine Jg (Jc rfl) rfl (Jj ?_);exact hK zq zc zq2 zc2 zb zv
     ·
      intro gh gh' h
      rfl
     apply Jm 3 rfl
     iterate 3 focus (intros;(conv=>lhs;simp only [Jh,Js,JO,Ju,JI,eq_self,reduceEqDiff,reduceIte,reduceSub,reduceAdd,JxA,JxB]);all_goals rfl)
     ·
      intro gh X K zq zc zq2 zc2 zb zv hK;refine Jg (Jc rfl) rfl (Jj ?_);exact hK zq zc zq2 zc2 zb zv
     ·
      intro gh gh' h
      rfl
     apply Jm 4 rfl
     iterate 3 focus (intros;(conv=>lhs;simp only [Jh,Js,JO,Ju,JI,eq_self,reduceEqDiff,reduceIte,reduceSub,reduceAdd,JxA,JxB]);all_goals rfl)
     ·
      intro gh X K zq zc zq2 zc2 zb zv hK;refine Jg (EM u24 sz2 rfl rfl rfl (by omega) At.z) rfl (Jj ?_);exact hK zq zc zq2 zc2 zb zv
     ·
      intro gh gh' h
      rfl
     apply Jm 5 rfl
     iterate 3 focus (intros;(conv=>lhs;simp only [Jh,Js,JO,Ju,JI,eq_self,reduceEqDiff,reduceIte,reduceSub,reduceAdd,JxA,JxB]);all_goals rfl)
     ·
      intro gh X K zq zc zq2 zc2 zb zv hK;refine Jg (EH rfl At.z (intsC_get (by first | omega | (simp;omega))) pl2) rfl (Jj ?_);exact hK zq zc zq2 zc2 zb zv
     ·
      intro gh gh' h
      rfl
     apply Jm 6 rfl
     iterate 3 focus (intros;(conv=>lhs;simp only [Jh,Js,JO,Ju,JI,eq_self,reduceEqDiff,reduceIte,reduceSub,reduceAdd,JxA,JxB]);all_goals rfl)
     ·
      intro gh X K zq zc zq2 zc2 zb zv hK;refine Jg (Jl rfl At.z (by simpa [*] using ag42)) rfl (Jj ?_);exact hK zq zc zq2 zc2 zb zv
     ·
      intro gh gh' h
      rfl
     apply GJ.st2 7 rfl
     iterate 3 focus (intros;(conv=>lhs;simp only [Jh,Js,JO,Ju,JI,eq_self,reduceEqDiff,reduceIte,reduceSub,reduceAdd,JxA,JxB]);all_goals rfl)
     ·
      intro gh X K zq zc zq2 zc2 zb zv hK;refine Jz fn55 rfl rfl fun w hH=>hH.lend (.s .z) fun Hl1 hle1 hA1 hB1 hH=>hH.lend (.s .z) fun Hl2 hle2 hA2 hB2 hH=>hH.lend .z fun Hl3 hle3 hA3 hB3 hH=>(l02With_c (((own_ints hA1).le hle2).le hle3) ((own_forms hDA.wf hA2).le hle3) (own_terms hDF.wf hA3) (by have:=hDA.hn;have:=hDA.hl;omega) (fun i hi=>by have:=hDA.len i hi;omega) (by have:=hDF.len;omega) hH).mono ?_;rintro _ w ⟨qdo145,cdo145,qfo145,cfo145,vso145,rfl,hH⟩;replace hH:=hB3 _ _ hH;replace hH:=hB2 _ _ hH;replace hH:=hB1 _ _ hH;refine ⟨_,rfl,fun a hF=>JL hF hH ?_⟩;refine Ji (.s .z) (Ji (.s .z) (Ji (.s (.s .z)) (Ji (.s (.s (.s (.s .z)))) (Ji (.s (.s (.s (.s .z)))) (Jj ?_)))));exact hK qdo145 cdo145 qfo145 cfo145 zb vso145
     ·
      intro gh gh' h;refine ⟨?_,?_,?_⟩ <;> rfl
     apply Es 8 rfl
     iterate 3 focus (intros;(conv=>lhs;simp only [Jh,Js,JO,Ju,JI,eq_self,reduceEqDiff,reduceIte,reduceSub,reduceAdd,JxA,JxB]);all_goals rfl)
     ·
      intro gh X K hK;refine Jk rfl rfl (by first | exact bytesC_one _ | exact intsC_one _ | exact Term.c_one _ | simp [Value.oneCell']) (by simpa [*] using sz27) (by simp [*]) At.z (Jj ?_);exact hK
     ·
      intro gh gh' h
      first | simp only [h 6 rfl] | rfl
     apply Ec [0,1,2,3,4,5,6,7] [0,1,2,3,4,5,6,7,8,9,10,12,13,14,15] foll0 rfl rfl rfl (by rfl)
     iterate 2 focus (intros;(conv=>lhs;simp only [Jh,Js,JO,Ju,JI,eq_self,reduceEqDiff,reduceIte,reduceSub,reduceAdd,JxA,JxB]);all_goals rfl)
     intro gh;generalize (gh 6).c=cdo145;generalize (gh 6).c2=cfo145;generalize (gh 6).q=qdo145;generalize (gh 6).q2=qfo145;generalize (gh 6).vs=vso145;clear gh;refine JJ (Ja (hK12 (Jb (Jg (Jc rfl) rfl (Jg (JF rfl rfl (by first | exact nw _ (by omega) | rfl)) rfl (Jg (Je rfl) rfl (Jf (Ja (JC (.s (.s (.s (.s (.s (.s .z)))))) (JC (.s (.s (.s (.s (.s (.s .z)))))) (JC (.s (.s (.s .z))) (JC (.s (.s (.s .z))) (Ji (.s (.s (.s (.s (.s .z))))) (Ji (.s (.s (.s (.s .z)))) (Ji (.s (.s (.s (.s (.s .z))))) ?_)))))))))))))));refine Ji (.s (.s (.s (.s .z)))) (Ji (.s (.s (.s (.s .z)))) (Ji (.s (.s (.s (.s (.s .z))))) ?_));exact hAg0 (qdo145,cdo145,ad++[((ddV code s5 most).getD i 0)],qfo145,cfo145,vso145,af++[f7],s9,i+1) ⟨by omega,by simp;omega,hDA.snoc (by omega) hdi (show DrF ad 400 f7 from hDF)⟩ (by show (ddV code s5 most).length - (i+1)<(ddV code s5 most).length - i;omega) 17 rfl rfl ⟨rfl,trivial⟩ rfl rfl
  ·
   refine JR (Jw (Jw (JY (Ja (hK8 (Jd fun _ hK22 _=>(Jb (Jg (Jl rfl At.z (by simpa [*] using ag27)) rfl (Jk rfl rfl (by first | exact bytesC_one _ | exact intsC_one _ | exact Term.c_one _ | simp [Value.oneCell']) (by simpa [*] using sz27) (by simp [*]) (.s (.s (.s (.s (.s .z))))) (Jf (Ja (hK22 (Jt (Jy rfl (Res.agg rfl (.s (.s (.s (.s (.s .z))))) (by simpa [*] using ag27)) fun w hH=>?_))))))))))))));replace hH:=hH.sublist (.cons _ (.cons_cons _ (.cons_cons _ (.cons _ (.cons_cons _ (.cons _ (List.Sublist.refl _)))))));exact ⟨_,_,_,_,_,_,_,_,hDA,(by omega),rfl,hH⟩
end Go.Proofs.YtffgojlocbafhaaGreatDoor.G
