/- A part of the walk of one law: what the functions compute. No condition. -/
import Derived.Test.YtffgojlocbafhaaGreatDoorRows
import Derived.Test.YtffgojlocbafhaaGreatDoorProg
import Derived.WalkKit
import Derived.KernelRfl
import Derived.JoinedOf
import Derived.Maps.AppendAt
import Derived.Still
import Derived.ProofKit
import Derived.OpenShut
import Derived.StillTail
import Derived.Deep.Upon
import Derived.WalkSpells
import Derived.Maps.Range
import Derived.Laws.Entries
import Derived.Laws.StructEq
import Derived.DeepKeys4
import Derived.Laws.Concat
import Derived.Laws.IdiomStrings
import Derived.Laws.Strings
import Derived.Lib.ItoaNum
import Derived.Lib.Join
import Derived.Lib.LaidTab
import Derived.Lib.SplitLaws
import Derived.Lib.AtoiTie
import Derived.Lib.ParseIntBTie
import Derived.Shelf.Strings.Builder1
import Derived.Shelf.Strings.Builder2
import Derived.Shelf.Strings.OnBuilder
import Derived.Shelf.Strings.BuilderF
import Derived.Shelf.Strings.BuilderK
import Derived.Shelf.Strconv.Atoi
import Derived.Shelf.Strconv.Itoa0
import Derived.Shelf.Strconv.Itoa1
import Derived.Shelf.LaysM
import Derived.Shelf.Strconv.Itoa2
import Derived.Shelf.Strconv.Itoa3
import Derived.Shelf.Strconv.Itoa4
import Derived.Shelf.Strconv.AtoiErrFast
import Derived.Shelf.Strconv.ParseIntEmpty
import Derived.Shelf.Strconv.AtoiFail
import Derived.Shelf.Strconv.Clone
import Derived.Shelf.Strconv.SyntaxError
import Derived.Shelf.LaysC
import Derived.Shelf.Strconv.ToError
import Derived.Shelf.Strconv.Lower
import Derived.Shelf.Strconv.ParseUint10
import Derived.Shelf.Strconv.ParseUint10Empty
import Derived.Shelf.Strconv.ParseUint10Any
import Derived.Shelf.Strconv.ParseInt10
import Derived.Shelf.Strconv.AtoiLong
import Derived.Shelf.Strconv.AtoiInnerAll
import Derived.Shelf.Strconv.RangeError
import Derived.Shelf.Strconv.ToErrorRange
import Derived.Shelf.Strconv.AtoiAll
import Derived.Shelf.Strconv.ParseUintEmpty
import Derived.Shelf.Strconv.ParseUint10b64
import Derived.Shelf.Strconv.ParseUint10b32
import Derived.Shelf.Strconv.ParseUint10b16
import Derived.Shelf.Strconv.ParseUint10b8
import Derived.Shelf.Strconv.ParseUint10At
import Derived.Shelf.Strconv.ParseInt10At64
import Derived.Shelf.Strconv.ParseInt10At32
import Derived.Shelf.Strconv.ParseInt10At16
import Derived.Shelf.Strconv.ParseInt10At8
import Derived.Shelf.Strconv.ParseInt10All
import Derived.Shelf.Strconv.ParseIntPublic10
import Derived.Shelf.Strings.Search1
import Derived.Shelf.Strings.Search2
import Derived.Shelf.Strings.Search3
import Derived.Shelf.Strings.Cut
import Derived.Shelf.Strings.Count
import Derived.Shelf.Strings.Shaped
import Derived.Shelf.Strings.Split
import Derived.Shelf.Unicode.DecodeSlow
import Derived.Laws.Strings2
import Derived.Laws.Strings3
import Derived.Laws.Slices
import Derived.Lib.AtoiErrMem
import Derived.Lib.SmallJoins
import Derived.WalkSmall
import Derived.WideLaws
import Derived.Lib.AppendIntMem
import Derived.Test.YtffgojlocbafhaaGreatDoorCards
import Derived.Test.YtffgojlocbafhaaGreatDoorTie
import Derived.LaidMore
import Derived.Stop.Joined
import Derived.Stop.LaidErr
import Derived.SevenTiedAt
import Derived.MakeChecks
import Derived.Shelf.Vars
import Derived.Lay
import Derived.ChangeOld
import Derived.Below
import Derived.SizedLaws
import Derived.Test.YtffgojlocbafhaaGreatDoorPAtxd
set_option linter.unusedVariables false
set_option linter.unusedSimpArgs false
set_option maxRecDepth 10000
set_option maxHeartbeats 8000000
open Nat (reduceEqDiff reduceSub reduceAdd)
namespace Go.Proofs.YtffgojlocbafhaaGreatDoor.G
open Go Go.RowKit
theorem fn25:Fn Tryz.prog 25:=⟨_,Tryz.func25,by kernel_rfl,rfl⟩
theorem fn42:Fn Tryz.prog 42:=⟨_,Tryz.func42,by kernel_rfl,rfl⟩
theorem fn43:Fn Tryz.prog 43:=⟨_,Tryz.func43,by kernel_rfl,rfl⟩
theorem pr_first {ad:List Int} {af:List (List Term)} {bd:List Int} {bf:List (List Term)}:firstOf [codeA ad af [],codeA bd bf []]=if prOk ad af bd bf then 0 else 1:=by
 rw [codeA_nil,codeA_nil];unfold algC prOk
 cases isAlg ad af <;> cases isAlg bd bf <;> rfl
theorem one_ne {b:Bool} (h:(if b then 0 else 1:Int)≠0):b=false:=by cases b <;> simp at h ⊢
theorem one_eq {b:Bool} (h : ¬(if b then 0 else 1:Int)≠0):b=true:=by cases b <;> simp at h ⊢
theorem Product_c {B:World} {H0 H:HP} {L:List SA} {w:World} {qad qaf:Option Addr} {cad caf:Nat} {ad:List Int} {af:List (List Term)} {qbd qbf:Option Addr} {cbd cbf:Nat} {bd:List Int} {bf:List (List Term)} (had:Ints H qad ad) (haf:Forms H qaf af) (hbd:Ints H qbd bd) (hbf:Forms H qbf bf) (hn8:ad.length≤1048576) (hn9:af.length≤1048576) (hl9 : ∀i,i<af.length→(fm af i).length≤1048576) (bn8:bd.length≤1048576) (bn9:bf.length≤1048576) (bl9 : ∀i,i<bf.length→(fm bf i).length≤1048576) (hca:ad.length≤cad) (hcb:bd.length≤cbd) (hH:Hp B H0 H L w):Calls Tryz.prog 16 [.agg [.slice qad ad.length cad,.slice qaf af.length caf].toArray,.agg [.slice qbd bd.length cbd,.slice qbf bf.length cbf].toArray].toArray w fun e w'=>∃qd cd qf cf vs,e = .returned (.tuple #[.agg [.slice qd (prD ad af bd bf).length cd,.slice qf (prF ad af bd bf).length cf].toArray,.int .i64 (prC ad af bd bf)])∧Hp B H0 H (own 2 1 qd (prD ad af bd bf).length cd (intsC (prD ad af bd bf))::ownFs 42 89 qf cf vs (prF ad af bd bf)::L) w':=by
 refine JD Tryz.func16 rfl 18 rfl rfl [(0,.agg [.slice qad ad.length cad,.slice qaf af.length caf].toArray),(1,.agg [.slice qbd bd.length cbd,.slice qbf bf.length cbf].toArray)] rfl hH ?_;have hw0:=hH.old;have hw1:=hH.le;clear hH;refine Jd fun _ hK1 _=>(Jb (Eo rfl rfl rfl fun g2=>(Kc .z fun H2 hle2 hc2=>?_)));replace had:=had.le hle2;replace haf:=haf.le hle2;replace hbd:=hbd.le hle2;replace hbf:=hbf.le hle2;have pad:CellAt H2 g2 0 (.slice qad ad.length cad):=hc2 0 _ rfl;have paf:CellAt H2 g2 1 (.slice qaf af.length caf):=hc2 1 _ rfl;refine Eo rfl rfl rfl fun g3=>(Kc .z fun H3 hle3 hc3=>?_);replace had:=had.le hle3;replace haf:=haf.le hle3;replace hbd:=hbd.le hle3;replace hbf:=hbf.le hle3;replace pad:=pad.le hle3;replace paf:=paf.le hle3;have pbd:CellAt H3 g3 0 (.slice qbd bd.length cbd):=hc3 0 _ rfl;have pbf:CellAt H3 g3 1 (.slice qbf bf.length cbf):=hc3 1 _ rfl;refine JG ze27 rfl fun g4=>(Jg (Je rfl) rfl (Jf (Ja (hK1 (Jd fun _ hK2 _=>(Jd fun _ hK3 _=>(Jb (Jz fn25 rfl rfl fun w hH=>(algebraCode_c pad paf had haf (forms_nil H3) hn8 hn9 hl9 (by simp) (fun i hi=>by simp at hi) hH).mono ?_))))))));rintro _ w ⟨rfl,hH⟩;refine ⟨_,rfl,fun a hF=>JL hF hH ?_⟩;refine Jz fn25 rfl rfl fun w hH=>(algebraCode_c pbd pbf hbd hbf (forms_nil H3) bn8 bn9 bl9 (by simp) (fun i hi=>by simp at hi) hH).mono ?_;rintro _ w ⟨rfl,hH⟩;refine ⟨_,rfl,fun a hF=>JL hF hH ?_⟩;refine J.litI2 u24 ze2 sz2 rfl rfl rfl fun g9=>(Jz fn42 rfl rfl fun w hH=>hH.lend .z fun Hl1 hle1 hA1 hB1 hH=>(first_c (own_ints hA1) (by simp) hH).mono ?_);rintro _ w ⟨rfl,hH⟩;replace hH:=hB1 _ _ hH;refine ⟨_,rfl,fun a hF=>JL hF hH ?_⟩;refine Jg (Je rfl) rfl (Jf (Ja (hK3 (Jd fun _ hK4 _=>(Jb (Jg (Jc rfl) rfl (Jg (Ew rfl rfl) rfl (Jf (Ja (hK4 (Jp rfl (fun h12=>?_) (fun h12=>?_))))))))))))
 ·
  rw [pr_first] at h12 ⊢;have hno:=one_ne h12;refine Jd fun _ hK5 _=>(Jb (Jg (JQ bz27) rfl (Jg (Jc rfl) rfl (Jk rfl rfl (by first | exact bytesC_one _ | exact intsC_one _ | exact Term.c_one _ | simp [Value.oneCell']) (by simpa [*] using sz27) (by simp [*]) (.s .z) (Jg (Je rfl) rfl (Jf (Ja (hK5 (Jt (Jn (JV rfl (Res.agg rfl (.s .z) (by simpa [*] using ag27)) (Res.tmp rfl) fun w hH=>?_)))))))))));replace hH:=hH.sublist (.cons _ (.cons _ (List.Sublist.refl _)));rw [show (if prOk ad af bd bf then 0 else 1:Int)=1 by rw [hno];rfl];obtain ⟨e1,e2,e3⟩:=pr_bad hno;rw [e1,e2,e3];exact ⟨none,0,none,0,nilVs,rfl,((hH.ownFsNil 42 89).own0 2 1).weaken (hle2.trans hle3) hw0 hw1⟩
 ·
  rw [pr_first] at h12;have hPo:=one_eq h12;have hPa:=(Bool.and_eq_true_iff.1 hPo).1;have hPb:=(Bool.and_eq_true_iff.1 hPo).2;have hPl:=isAlg_len hPa;have hPm:=isAlg_len hPb;refine Jo (Ja (hK2 (Jd fun _ hK6 _=>(Jb (Jz fn43 rfl rfl fun w hH=>(productOf_c pad paf had haf pbd pbf hbd hbf (by omega) (by omega) (by omega) (by omega) hl9 bl9 hca hcb hH).mono ?_)))));rintro _ w ⟨qdo15,cdo15,qfo15,cfo15,vso15,rfl,hH⟩;refine ⟨_,rfl,fun a hF=>JL hF hH ?_⟩;refine Jg (JA rfl rfl) rfl (Jg (JA rfl rfl) rfl (Jk rfl rfl (by first | exact bytesC_one _ | exact intsC_one _ | exact Term.c_one _ | simp [Value.oneCell']) (by simpa [*] using sz27) (by simp [*]) (.s (.s (.s .z))) (Jg (Je rfl) rfl (Jf (Ja (hK6 (Jt (JV rfl (Res.agg rfl (.s (.s (.s .z))) (by simpa [*] using ag27)) (Res.tmp rfl) fun w hH=>?_))))))));replace hH:=hH.sublist (.cons_cons _ (.cons_cons _ (.cons _ (.cons _ (List.Sublist.refl _)))));obtain ⟨e1,e2,e3⟩:=po_pr hPo;rw [e1,e2,e3];exact ⟨_,_,_,_,_,rfl,hH.weaken (hle2.trans hle3) hw0 hw1⟩
theorem fn90:Fn Tryz.prog 90:=⟨_,Tryz.func90,by kernel_rfl,rfl⟩
def vsH (H:HP) (q:Option Addr):Vs:=fun i=>match cellO H q i with
 | some (.slice q' _ c')=>(q',c')
 | _=>(none,0)
theorem vsH_at {H:HP} {q:Option Addr} {fs:List (List Term)} (h:Forms H q fs) {i:Nat} (hi:i<fs.length):cellO H q i=some (.slice (vsH H q i).1 (fm fs i).length (vsH H q i).2)∧(fm fs i).length≤(vsH H q i).2∧Terms H (vsH H q i).1 (fm fs i):=by
 obtain ⟨q',c',h1,h2,h3⟩:=h i hi
 have e:vsH H q i=(q',c'):=by unfold vsH;rw [h1]
 rw [e];exact ⟨h1,h2,h3⟩
theorem slicesC_H {H:HP} {q:Option Addr} {fs:List (List Term)} (h:Forms H q fs) : ∀j v,(slicesC (vsH H q) fs)[j]? = some v→cellO H q j=some v:=fun j v hj=>by
 rcases Nat.lt_or_ge j fs.length with h1 | h1
 ·rw [slicesC_get h1] at hj
  rw [(vsH_at h h1).1]
  exact hj
 ·rw [List.getElem?_eq_none (by rw [slicesC_length];exact h1)] at hj
  cases hj
theorem slicesC_one : ∀(vs:Vs) (fs:List (List Term)),∀u∈slicesC vs fs,u.oneCell'=true
 | _, [],_,h=>by simp [slicesC] at h
 | vs,f::fs,u,h=>by
  simp only [slicesC,List.mem_cons] at h
  rcases h with rfl | h
  ·rfl
  ·exact slicesC_one vs.tl fs u h
theorem forms_more {H H':HP} {q q' qt:Option Addr} {e:TypeId} {c ct:Nat} {fs:List (List Term)} {ts:List Term} (h:Forms H q fs) (hle:Le H H') (ht:Terms H' qt ts) (hc:ts.length≤ct) (hh:(own e 1 q' (fs.length+1) c (slicesC (vsH H q) fs++[.slice qt ts.length ct])).holds H'):Forms H' q' (fs++[ts]):=fun i hi=>by
 have hr:=own_reads hh
 rcases Nat.lt_or_ge i fs.length with h1 | h1
 ·have e1:fm (fs++[ts]) i=fm fs i:=by
   unfold fm
   rw [List.getD_eq_getElem?_getD,List.getD_eq_getElem?_getD,List.getElem?_append_left h1]
  rw [e1]
  obtain ⟨a1,a2,a3⟩:=vsH_at h h1
  exact ⟨_,_,hr i _ (by rw [List.getElem?_append_left (by rw [slicesC_length];exact h1),slicesC_get h1]),a2,a3.le hle⟩
 ·have h2:i=fs.length:=by simp at hi;omega
  subst h2
  have e1:fm (fs++[ts]) fs.length=ts:=by
   unfold fm
   rw [List.getD_eq_getElem?_getD,List.getElem?_append_right (by omega)]
   simp
  rw [e1]
  exact ⟨qt,ct,hr fs.length _ (by rw [List.getElem?_append_right (by rw [slicesC_length];omega),slicesC_length,Nat.sub_self];rfl),hc,ht⟩
theorem none_forms {H:HP} {q:Option Addr} {fs:List (List Term)} {c:Nat} (h:Forms H q fs) (hb:q.isNone=true):fs=[]:=by
 have hq:=Option.isNone_iff_eq_none.1 hb;subst hq
 cases fs with
 | nil=>rfl
 | cons f fs=>
  have:=h.sm (i:=0) (by simp)
  simp at this
theorem CloneF_c {B:World} {H0 H:HP} {L:List SA} {w:World} {qfs:Option Addr} {cfs:Nat} {fs:List (List Term)} (hfs:Forms H qfs fs) (hn:fs.length≤1048576) (hH:Hp B H0 H L w):Calls Tryz.prog 90 [.slice qfs fs.length cfs].toArray w fun e w'=>∃q c,e = .returned (.slice q fs.length c)∧Hp B H0 H (own 42 1 q fs.length c (slicesC (vsH H qfs) fs)::L) w':=by
 refine JD Tryz.func90 rfl 8 rfl rfl [(0,.slice qfs fs.length cfs)] rfl hH ?_;clear hH;refine Jd fun _ hK1 _=>(Jb (Jg (Je rfl) rfl (Jf (Ja (hK1 (Jd fun _ hK2 _=>(Jd fun _ hK3 _=>(Jb (Jg (Jc rfl) rfl (Jg (PR.eqlNil u25 rfl rfl) rfl (Jf (Ja (hK3 (Ek rfl (fun h4=>?_) (fun h4=>?_)))))))))))))))
 ·
  refine Jd fun _ hK4 _=>(Jb (Jg (Je rfl) rfl (Jf (Ja (hK4 (Jt (Jn (Jy rfl (Res.tmp rfl) fun w hH=>?_))))))));replace hH:=hH.sublist (List.Sublist.refl _);have e1:=none_forms (c:=cfs) hfs h4;subst e1;exact ⟨none,0,rfl,hH.own0 42 1⟩
 ·
  refine Jo (Ja (hK2 (Jd fun _ hK5 _=>(Jb (EX (MK.lit0 u25 sz42) rfl fun qo5 co5=>(Jg (Jc rfl) rfl (J.appendH (z:=[.slice none 0 0]) (ds:=slicesC (vsH H qfs) fs) u25 ze42 sz42 by42 rfl rfl rfl (by simp) (slicesC_H hfs) (slicesC_one _ _) (by omega) (by simp only [maxLen];omega) At.z (fun _ _=>At.z) rfl fun qo7 co7=>(Jg (Je rfl) rfl (Jf (Ja (hK5 (Jt (Jy rfl (Res.tmp rfl) fun w hH=>?_)))))))))))));replace hH:=hH.sublist (.cons_cons _ (List.Sublist.refl _));exact ⟨qo7,co7,by rw [Nat.zero_add],by rw [Nat.zero_add] at hH;exact hH⟩
def wxD (ds:List Int) (n:Int):List Int:=if ds.length=8 then [] else ds++[n]
def wxF (ds:List Int) (fs:List (List Term)) (ts:List Term):List (List Term):=if ds.length=8 then [] else fs++[ts]
def wxC (ds:List Int):Int:=if ds.length=8 then 3 else 0
theorem wx_yes {ds:List Int} {fs:List (List Term)} {n:Int} {ts:List Term} (h:ds.length=8):wxD ds n=[]∧wxF ds fs ts=[]∧wxC ds=3:=by unfold wxD wxF wxC;rw [if_pos h,if_pos h,if_pos h];exact ⟨rfl,rfl,rfl⟩
theorem wx_no {ds:List Int} {fs:List (List Term)} {n:Int} {ts:List Term} (h : ¬ds.length=8):wxD ds n=ds++[n]∧wxF ds fs ts=fs++[ts]∧wxC ds=0:=by unfold wxD wxF wxC;rw [if_neg h,if_neg h,if_neg h];exact ⟨rfl,rfl,rfl⟩
theorem cat_fm {fs:List (List Term)} {ts:List Term} {M:Nat} (h : ∀i,i<fs.length→(fm fs i).length≤M) (h2:ts.length≤M) : ∀i,i<fs.length+1→(fm (fs++[ts]) i).length≤M:=fun i hi=>by
 unfold fm
 rcases Nat.lt_or_ge i fs.length with h1 | h1
 ·rw [List.getD_eq_getElem?_getD,List.getElem?_append_left h1,← List.getD_eq_getElem?_getD]
  exact h i h1
 ·have h3:i=fs.length:=by omega
  subst h3
  rw [List.getD_eq_getElem?_getD,List.getElem?_append_right (by omega)]
  simpa using h2
theorem withGenerator_c {B:World} {H0 H:HP} {L:List SA} {w:World} {ba:Nat} {qad qaf:Option Addr} {cad caf:Nat} {ad:List Int} {af:List (List Term)} {n:Int} {qts:Option Addr} {cts:Nat} {ts:List Term} (pad:CellAt H ba 0 (.slice qad ad.length cad)) (paf:CellAt H ba 1 (.slice qaf af.length caf)) (had:Ints H qad ad) (haf:Forms H qaf af) (hts:Terms H qts ts) (hn8:ad.length≤1048576) (hn9:af.length≤1000000) (hl9 : ∀i,i<af.length→(fm af i).length≤1048576) (hlt:ts.length≤1048576) (hct:ts.length≤cts) (hH:Hp B H0 H L w):Calls Tryz.prog 51 [.pointer (some ⟨ba,0,none⟩),.int .i64 n,.agg [.slice qts ts.length cts].toArray].toArray w fun e w'=>∃qd cd qf cf vs,e = .returned (.tuple #[.agg [.slice qd (wxD ad n).length cd,.slice qf (wxF ad af ts).length cf].toArray,.int .i64 (wxC ad)])∧Hp B H0 H (own 2 1 qd (wxD ad n).length cd (intsC (wxD ad n))::ownFs 42 89 qf cf vs (wxF ad af ts)::L) w':=by
 refine JD Tryz.func51 rfl 49 rfl rfl [(0,.pointer (some ⟨ba,0,none⟩)),(1,.int .i64 n),(2,.agg [.slice qts ts.length cts].toArray)] rfl hH ?_;have hw0:=hH.old;have hw1:=hH.le;clear hH;refine Jd fun _ hK1 _=>(Jb (Eo rfl rfl rfl fun g5=>(JG ze27 rfl fun g6=>(Jg (Je rfl) rfl (Jf (Ja (hK1 (Jd fun _ hK2 _=>(Jd fun _ hK3 _=>(Jb (Jg (Jc rfl) rfl (Jg (Eh rfl) rfl (Jg (Jq u27 rfl sz24 rfl) rfl (Jg (JX (q:=some ⟨ba,0,none⟩) (k:=0) rfl pad pl24) rfl (Jg (Jr u24 rfl rfl) rfl ?_)))))))))))))));refine Jg (En rfl rfl) rfl (Jf (Ja (hK3 (Jp rfl (fun h16=>?_) (fun h16=>?_)))))
 ·
  refine Jd fun _ hK4 _=>(Jb (Jg (JQ bz27) rfl (Jk rfl rfl (by first | exact bytesC_one _ | exact intsC_one _ | exact Term.c_one _ | simp [Value.oneCell']) (by simpa [*] using sz27) (by simp [*]) At.z (Jg (Je rfl) rfl (Jf (Ja (hK4 (Jt (Jn (JV rfl (Res.agg rfl At.z (by simpa [*] using ag27)) (Res.tmp rfl) fun w hH=>?_))))))))));replace hH:=hH.sublist (.cons _ (.cons _ (List.Sublist.refl _)));obtain ⟨e1,e2,e3⟩:=wx_yes (ds:=ad) (fs:=af) (ts:=ts) (n:=n) (by omega);rw [e1,e2,e3];exact ⟨none,0,none,0,nilVs,rfl,((hH.ownFsNil 42 89).own0 2 1)⟩
 ·
  refine Jo (Ja (hK2 (Jd fun _ hK5 _=>(Jb (Jg (Jc rfl) rfl (Jg (Eh rfl) rfl (Jg (Jq u27 rfl sz24 rfl) rfl (Jg (JX (q:=some ⟨ba,0,none⟩) (k:=0) rfl pad pl24) rfl (Jz fn39 rfl rfl fun w hH=>(CloneI_c had (by omega) hH).mono ?_)))))))));rintro _ w ⟨qo22,co22,rfl,hH⟩;refine ⟨_,rfl,fun a hF=>JL hF hH ?_⟩;refine Jg (Jc rfl) rfl (EX (MK.lit1I u24 ze2 sz2 rfl) rfl fun qo24 co24=>(Kb u24 ze2 sz2 by2 rfl rfl (by simp only [List.length_cons,List.length_nil];omega) .z At.z (fun _ _=>At.z) rfl fun qo25 co25=>(EG 42 1 (J.ts0 89 (Jg (PR.build1 rfl (fun w=>bd27_0 _ _ _ w)) rfl (JG ze27 rfl fun g8=>(Jk rfl rfl (by first | exact bytesC_one _ | exact intsC_one _ | exact Term.c_one _ | simp [Value.oneCell']) (by simpa [*] using sz27) (by simp [*]) At.z (Jf (Ja (hK5 (Jd fun _ hK6 _=>(Jd fun _ hK7 _=>(Ed (Rs:=[_,_,_,_,_,_,_]) 10 [[], [0], [0,1], [0,1,2], [0,1,2,3], [], [5], [0,1,2,3,4,5,6], [0,1,2,3,4,5,6,7], []] [[], [], [], [], [], [16], [], [6], [], []] [[], [], [], [], [], [], [], [4], [], []] rfl rfl (by kernel_rfl) ?_)))))))))))));apply Jm 1 rfl
  iterate 3 focus (intros;(conv=>lhs;simp only [Jh,Js,JO,Ju,JI,eq_self,reduceEqDiff,reduceIte,reduceSub,reduceAdd,JxA,JxB]);all_goals rfl)
  ·
   intro gh X K zq zc zq2 zc2 zb zv hK;refine Jg (Jc rfl) rfl (Jj ?_);exact hK zq zc zq2 zc2 zb zv
  ·
   intro gh gh' h
   rfl
  apply Jm 2 rfl
  iterate 3 focus (intros;(conv=>lhs;simp only [Jh,Js,JO,Ju,JI,eq_self,reduceEqDiff,reduceIte,reduceSub,reduceAdd,JxA,JxB]);all_goals rfl)
  ·
   intro gh X K zq zc zq2 zc2 zb zv hK;refine Jg (Eh rfl) rfl (Jj ?_);exact hK zq zc zq2 zc2 zb zv
  ·
   intro gh gh' h
   rfl
  apply Jm 3 rfl
  iterate 3 focus (intros;(conv=>lhs;simp only [Jh,Js,JO,Ju,JI,eq_self,reduceEqDiff,reduceIte,reduceSub,reduceAdd,JxA,JxB]);all_goals rfl)
  ·
   intro gh X K zq zc zq2 zc2 zb zv hK;refine Jg (Jq u27 rfl sz25 rfl) rfl (Jj ?_);exact hK zq zc zq2 zc2 zb zv
  ·
   intro gh gh' h
   rfl
  apply Jm 4 rfl
  iterate 3 focus (intros;(conv=>lhs;simp only [Jh,Js,JO,Ju,JI,eq_self,reduceEqDiff,reduceIte,reduceSub,reduceAdd,JxA,JxB]);all_goals rfl)
  ·
   intro gh X K zq zc zq2 zc2 zb zv hK;refine Jg (JX (q:=some ⟨ba,0,none⟩) (k:=1) rfl paf pl25) rfl (Jj ?_);exact hK zq zc zq2 zc2 zb zv
  ·
   intro gh gh' h
   rfl
  apply Eb 5 rfl
  iterate 3 focus (intros;(conv=>lhs;simp only [Jh,Js,JO,Ju,JI,eq_self,reduceEqDiff,reduceIte,reduceSub,reduceAdd,JxA,JxB]);all_goals rfl)
  ·
   intro gh X K zq zc zq2 zc2 zb zv hK;refine Jz fn90 rfl rfl fun w hH=>(CloneF_c haf (by omega) hH).mono ?_;rintro _ w ⟨qo31,co31,rfl,hH⟩;refine ⟨_,rfl,fun a hF=>JL hF hH ?_⟩;refine Jj ?_;exact hK qo31 co31 zq2 zc2 zb zv
  ·
   intro gh gh' h;refine ⟨?_,?_⟩ <;> rfl
  apply Jm 6 rfl
  iterate 3 focus (intros;(conv=>lhs;simp only [Jh,Js,JO,Ju,JI,eq_self,reduceEqDiff,reduceIte,reduceSub,reduceAdd,JxA,JxB]);all_goals rfl)
  ·
   intro gh X K zq zc zq2 zc2 zb zv hK;refine Jg (Jl rfl At.z (by simpa [*] using ag42)) rfl (Jj ?_);exact hK zq zc zq2 zc2 zb zv
  ·
   intro gh gh' h
   rfl
  apply Eb 7 rfl
  iterate 3 focus (intros;(conv=>lhs;simp only [Jh,Js,JO,Ju,JI,eq_self,reduceEqDiff,reduceIte,reduceSub,reduceAdd,JxA,JxB]);all_goals rfl)
  ·
   intro gh X K zq zc zq2 zc2 zb zv hK;refine EX (EI u25 ze42 sz42 rfl rfl) rfl fun qo33 co33=>(Jj ?_);exact hK qo33 co33 zq2 zc2 zb zv
  ·
   intro gh gh' h;refine ⟨?_,?_⟩ <;> rfl
  apply Eb 8 rfl
  iterate 3 focus (intros;(conv=>lhs;simp only [Jh,Js,JO,Ju,JI,eq_self,reduceEqDiff,reduceIte,reduceSub,reduceAdd,JxA,JxB]);all_goals rfl)
  ·
   intro gh X K zq zc zq2 zc2 zb zv hK;refine EK u25 ze42 sz42 by42 rfl rfl rfl rfl (by omega) (.s .z) At.z (fun _ _=>At.z) rfl fun qo34 co34=>(Ji .z (Ji (.s .z) (Jj ?_)));exact hK qo34 co34 zq2 zc2 zb zv
  ·
   intro gh gh' h;refine ⟨?_,?_⟩ <;> (first | simp only [h 4 rfl,h 6 rfl] | rfl)
  apply Jm 9 rfl
  iterate 3 focus (intros;(conv=>lhs;simp only [Jh,Js,JO,Ju,JI,eq_self,reduceEqDiff,reduceIte,reduceSub,reduceAdd,JxA,JxB]);all_goals rfl)
  ·
   intro gh X K zq zc zq2 zc2 zb zv hK;refine Jg (Jr u25 rfl rfl) rfl (Jj ?_);exact hK zq zc zq2 zc2 zb zv
  ·
   intro gh gh' h
   first | simp only [h 4 rfl,h 6 rfl,h 7 rfl] | rfl
  apply Jm 10 rfl
  iterate 3 focus (intros;(conv=>lhs;simp only [Jh,Js,JO,Ju,JI,eq_self,reduceEqDiff,reduceIte,reduceSub,reduceAdd,JxA,JxB]);all_goals rfl)
  ·
   intro gh X K zq zc zq2 zc2 zb zv hK;refine Jg (Jc rfl) rfl (Jj ?_);exact hK zq zc zq2 zc2 zb zv
  ·
   intro gh gh' h
   rfl
  apply Ec [0,1,2,3,4,5,6,7,8,9] [0,1,2,3,5,6,7,8,9,10,11,12,13,14,15,16] foll0 rfl rfl rfl (by rfl)
  iterate 2 focus (intros;(conv=>lhs;simp only [Jh,Js,JO,Ju,JI,eq_self,reduceEqDiff,reduceIte,reduceSub,reduceAdd,JxA,JxB]);all_goals rfl)
  intro gh;generalize (gh 4).c=co31;generalize (gh 4).q=qo31;generalize (gh 6).c=co33;generalize (gh 6).q=qo33;generalize (gh 7).c=co34;generalize (gh 7).q=qo34;clear gh;refine EJ.fixA (.s .z) fun H9 hle9 hA9=>?_;have hFF:Forms H9 qo34 (af++[ts]):=forms_more haf hle9 (hts.le hle9) hct hA9
  have hel:(af++[ts]).length=af.length+1:=by simp
  have hlf:=cat_fm hl9 hlt;replace pad:=pad.le hle9;replace paf:=paf.le hle9;replace had:=had.le hle9;replace haf:=haf.le hle9;replace hts:=hts.le hle9;refine Ja (hK7 (Jx (JP (σ:=Option Addr × Nat × Vs × Nat) (fun ⟨q,c,vs,k⟩=>[(36,.int .i64 (k:Int))]) (fun ⟨q,c,vs,k⟩=>H9) (fun ⟨q,c,vs,k⟩=>_::obj g8 (.cells [.slice qo25 (ad++[n]).length co25,.slice q k c].toArray 27 (0,0))::ownTs 89 vs ((af++[ts]).take k)::own 42 1 q k c (slicesC vs ((af++[ts]).take k))::_::own 2 1 qo25 (ad++[n]).length co25 (intsC (ad++[n]))::obj g6 (.cells [.slice none 0 0,.slice none 0 0].toArray 27 (0,0))::obj g5 (.cells [.slice qts ts.length cts].toArray 42 (0,0))::L) (fun ⟨q,c,vs,k⟩=>k≤af.length+1) (fun ⟨q,c,vs,k⟩=>af.length+1 - k) (none,0,nilVs,0) (by show 0≤af.length+1;omega) ⟨rfl,trivial⟩ rfl rfl ?_)));rintro ⟨q,c,vs,k⟩ hk _ hAg0;refine Jd fun _ hK8 _=>(Jb (Jg (JZ rfl rfl) rfl (Jf (Ja (hK8 (Jd fun _ hK9 _=>(Jp rfl (fun hc37=>?_) (fun hc37=>?_))))))))
  ·
   refine Jo (Ja (hK9 (Jd fun _ hK10 _=>(Jx (Jd fun _ hK11 _=>(Jb (Jg (Eg (i':=k) u25 sz42 rfl rfl rfl (by omega) (fun h=>hFF.sm (i:=k) (by omega))) rfl ?_)))))));obtain ⟨qe39,ce39,he39,le39,Fe39⟩:=hFF k (by omega);refine Jg (JT (cs:=[_]) rfl (one_cell he39) (hFF.sm (i:=k) (by omega)) ag42) rfl (JG ze42 rfl fun g10=>(Jk rfl rfl (by first | exact bytesC_one _ | exact intsC_one _ | exact Term.c_one _ | simp [Value.oneCell']) (by simpa [*] using sz42) (by simp [*]) At.z (Jf (Ja (hK11 (Ed (Rs:=[_,_,_,_,_,_,_,_,_]) 8 [[], [0], [], [2], [2,3], [0,1,2,3,4], [0,1,2,3,4,5], [0,1,2,3,4,5,6]] [[], [10], [8], [], [], [4], [], []] [[], [], [], [], [], [12], [], [10]] rfl rfl (by kernel_rfl) ?_))))));apply Jm 1 rfl
   iterate 3 focus (intros;(conv=>lhs;simp only [Jh,Js,JO,Ju,JI,eq_self,reduceEqDiff,reduceIte,reduceSub,reduceAdd,JxA,JxB]);all_goals rfl)
   ·
    intro gh X K zq zc zq2 zc2 zb zv hK;refine Jg (Jq u27 rfl sz25 rfl) rfl (Jj ?_);exact hK zq zc zq2 zc2 zb zv
   ·
    intro gh gh' h
    rfl
   apply Jm 2 rfl
   iterate 3 focus (intros;(conv=>lhs;simp only [Jh,Js,JO,Ju,JI,eq_self,reduceEqDiff,reduceIte,reduceSub,reduceAdd,JxA,JxB]);all_goals rfl)
   ·
    intro gh X K zq zc zq2 zc2 zb zv hK;refine Jg (Jv rfl At.z rfl pl25) rfl (Jj ?_);exact hK zq zc zq2 zc2 zb zv
   ·
    intro gh gh' h
    rfl
   apply Jm 3 rfl
   iterate 3 focus (intros;(conv=>lhs;simp only [Jh,Js,JO,Ju,JI,eq_self,reduceEqDiff,reduceIte,reduceSub,reduceAdd,JxA,JxB]);all_goals rfl)
   ·
    intro gh X K zq zc zq2 zc2 zb zv hK;refine Jg (Jl rfl At.z (by simpa [*] using ag42)) rfl (Jj ?_);exact hK zq zc zq2 zc2 zb zv
   ·
    intro gh gh' h
    rfl
   apply Eb 4 rfl
   iterate 3 focus (intros;(conv=>lhs;simp only [Jh,Js,JO,Ju,JI,eq_self,reduceEqDiff,reduceIte,reduceSub,reduceAdd,JxA,JxB]);all_goals rfl)
   ·
    intro gh X K zq zc zq2 zc2 zb zv hK;refine Jz fn84 rfl rfl fun w hH=>(shifted_0 Fe39 (hlf k (by omega)) hH).mono ?_;rintro _ w ⟨qo43,co43,rfl,hH⟩;refine ⟨_,rfl,fun a hF=>JL hF hH ?_⟩;refine Jj ?_;exact hK qo43 co43 zq2 zc2 zb zv
   ·
    intro gh gh' h;refine ⟨?_,?_⟩ <;> rfl
   apply Eb 5 rfl
   iterate 3 focus (intros;(conv=>lhs;simp only [Jh,Js,JO,Ju,JI,eq_self,reduceEqDiff,reduceIte,reduceSub,reduceAdd,JxA,JxB]);all_goals rfl)
   ·
    intro gh X K zq zc zq2 zc2 zb zv hK;refine EX (EI u25 ze42 sz42 rfl rfl) rfl fun qo44 co44=>(Jj ?_);exact hK qo44 co44 zq2 zc2 zb zv
   ·
    intro gh gh' h;refine ⟨?_,?_⟩ <;> (first | simp only [h 3 rfl] | rfl)
   apply Eb 6 rfl
   iterate 3 focus (intros;(conv=>lhs;simp only [Jh,Js,JO,Ju,JI,eq_self,reduceEqDiff,reduceIte,reduceSub,reduceAdd,JxA,JxB]);all_goals rfl)
   ·
    intro gh X K zq zc zq2 zc2 zb zv hK;refine EK u25 ze42 sz42 by42 rfl rfl rfl rfl (by omega) (.s .z) At.z (fun _ _=>At.z) rfl fun qo45 co45=>(Ji .z (Ji (.s .z) (Jj ?_)));exact hK qo45 co45 zq2 zc2 zb zv
   ·
    intro gh gh' h;refine ⟨?_,?_⟩ <;> (first | simp only [h 3 rfl,h 4 rfl] | rfl)
   apply Jm 7 rfl
   iterate 3 focus (intros;(conv=>lhs;simp only [Jh,Js,JO,Ju,JI,eq_self,reduceEqDiff,reduceIte,reduceSub,reduceAdd,JxA,JxB]);all_goals rfl)
   ·
    intro gh X K zq zc zq2 zc2 zb zv hK;refine Jg (Jq u27 rfl sz25 rfl) rfl (Jj ?_);exact hK zq zc zq2 zc2 zb zv
   ·
    intro gh gh' h
    first | simp only [h 3 rfl,h 4 rfl,h 5 rfl] | rfl
   apply Es 8 rfl
   iterate 3 focus (intros;(conv=>lhs;simp only [Jh,Js,JO,Ju,JI,eq_self,reduceEqDiff,reduceIte,reduceSub,reduceAdd,JxA,JxB]);all_goals rfl)
   ·
    intro gh X K hK;refine Ez rfl rfl rfl rfl sz25 (by simp [*]) At.z (Jj ?_);exact hK
   ·
    intro gh gh' h
    first | simp only [h 3 rfl,h 4 rfl,h 5 rfl] | rfl
   apply Ec [0,1,2,3,4,5,6,7] [0,1,2,3,4,5,6,7,8,9,11,13,14,15,16] foll0 rfl rfl rfl (by rfl)
   iterate 2 focus (intros;(conv=>lhs;simp only [Jh,Js,JO,Ju,JI,eq_self,reduceEqDiff,reduceIte,reduceSub,reduceAdd,JxA,JxB]);all_goals rfl)
   intro gh;generalize (gh 3).c=co43;generalize (gh 3).q=qo43;generalize (gh 4).c=co44;generalize (gh 4).q=qo44;generalize (gh 5).c=co45;generalize (gh 5).q=qo45;clear gh;refine JJ (Ja (hK10 (Jb (Jg (JF rfl rfl (by first | exact nw _ (by omega) | rfl)) rfl (Jg (Jc rfl) rfl (Jf (Ja (Ji (.s (.s (.s (.s (.s (.s (.s (.s (.s (.s .z)))))))))) (Ji (.s (.s (.s (.s (.s (.s (.s (.s (.s (.s .z)))))))))) (Ji (.s (.s (.s (.s (.s (.s (.s (.s (.s (.s .z)))))))))) (Ji (.s (.s (.s (.s (.s (.s (.s (.s (.s (.s .z)))))))))) (Ji (.s (.s (.s (.s (.s (.s (.s (.s (.s .z))))))))) (Ji (.s (.s (.s (.s (.s (.s (.s (.s (.s .z))))))))) (Ji (.s (.s (.s (.s (.s (.s (.s (.s (.s .z))))))))) (Ji (.s (.s (.s (.s (.s (.s (.s (.s (.s .z))))))))) ?_)))))))))))))));refine Ji (.s (.s (.s (.s (.s (.s (.s (.s (.s .z))))))))) (Ji (.s (.s (.s (.s (.s (.s (.s (.s (.s (.s .z)))))))))) (Ji (.s (.s (.s (.s (.s (.s (.s (.s (.s (.s .z)))))))))) (EJ.fsSnoc (fs:=(af++[ts]).take k) (List.length_take_of_le (by omega)) rfl (JC (.s .z) (JC (.s (.s (.s .z))) (Ji (.s (.s (.s (.s (.s (.s (.s .z))))))) (Ji (.s (.s (.s (.s (.s (.s (.s .z))))))) (Ji (.s (.s (.s (.s (.s (.s (.s .z))))))) (Ji (.s (.s (.s (.s (.s (.s (.s .z))))))) (Ji (.s (.s (.s (.s (.s .z))))) (Ji (.s (.s (.s (.s (.s .z))))) (Ji (.s (.s (.s (.s (.s (.s .z)))))) (Ji (.s (.s (.s (.s (.s (.s (.s .z))))))) ?_)))))))))))));exact hAg0 (qo45,co45,setV vs k (qo43,co43),k+1) (by show k+1≤af.length+1;omega) (by show af.length+1 - (k+1)<af.length+1 - k;omega) 14 rfl rfl ⟨rfl,trivial⟩ rfl (by dsimp only;rw [take_fm (by omega),slicesC_set (List.length_take_of_le (by omega))];rfl)
  ·
   refine JR (Jw (Jw (JY (Ja (hK6 (Jd fun _ hK12 _=>(Jb (Jg (Jl rfl (.s .z) (by simpa [*] using ag27)) rfl (Jk rfl rfl (by first | exact bytesC_one _ | exact intsC_one _ | exact Term.c_one _ | simp [Value.oneCell']) (by simpa [*] using sz27) (by simp [*]) (.s (.s (.s (.s (.s (.s .z)))))) (Jg (Je rfl) rfl (Jf (Ja (hK12 (Jt (JV rfl (Res.agg rfl (.s (.s (.s (.s (.s (.s .z)))))) (by simpa [*] using ag27)) (Res.tmp rfl) fun w hH=>?_)))))))))))))));replace hH:=hH.sublist (.cons _ (.cons _ (.cons_cons _ (.cons_cons _ (.cons _ (.cons_cons _ (.cons _ (.cons _ (List.Sublist.refl _)))))))))
   obtain rfl:k=af.length+1:=by omega
   obtain ⟨e1,e2,e3⟩:=wx_no (ds:=ad) (fs:=af) (n:=n) (ts:=ts) (by omega);have f2:(af++[ts]).take (af.length+1)=af++[ts]:=List.take_of_length_le (by omega);rw [f2] at hH;rw [e1,e2,e3];exact ⟨_,_,q,c,vs,by rw [hel],by unfold ownFs;rw [hel];exact ((hH.front (.s .z)).star.front (.s .z)).weaken hle9 hw0 hw1⟩
theorem fn50:Fn Tryz.prog 50:=⟨_,Tryz.func50,by kernel_rfl,rfl⟩
theorem fn51:Fn Tryz.prog 51:=⟨_,Tryz.func51,by kernel_rfl,rfl⟩
theorem fn52:Fn Tryz.prog 52:=⟨_,Tryz.func52,by kernel_rfl,rfl⟩
theorem fn55:Fn Tryz.prog 55:=⟨_,Tryz.func55,by kernel_rfl,rfl⟩
theorem bnot_t {b:Bool} (h:(!b)=true):b=false:=by cases b <;> simp_all
theorem bnot_f {b:Bool} (h:(!b)=false):b=true:=by cases b <;> simp_all
def wgIn (n:Int):Bool:=decide (1≤n) && decide (n≤12)
def wg1 (ds:List Int) (fs:List (List Term)) (ts:List Term) (n:Int):Int:=if bothC ds fs ts≠0 then bothC ds fs ts else if wgIn n then 0 else 2
def wgSt (ds:List Int) (fs:List (List Term)) (ts:List Term) (n:Int):Bool:=degOk ds ts (n+1) && decide ((dS ds fs (toS ts)).length=0)
def wg2 (ds:List Int) (fs:List (List Term)) (ts:List Term) (n:Int):Int:=if wg1 ds fs ts n≠0 then wg1 ds fs ts n else if wgSt ds fs ts n then 0 else 5
def wgD (ds:List Int) (fs:List (List Term)) (ts:List Term) (n:Int):List Int:=if wg2 ds fs ts n≠0 then [] else wxD ds n
def wgF (ds:List Int) (fs:List (List Term)) (ts:List Term) (n:Int):List (List Term):=if wg2 ds fs ts n≠0 then [] else wxF ds fs ts
def wgC (ds:List Int) (fs:List (List Term)) (ts:List Term) (n:Int):Int:=if wg2 ds fs ts n≠0 then wg2 ds fs ts n else wxC ds
section
variable {ds : List Int} {fs : List (List Term)} {ts : List Term} {n : Int}
theorem wg1_a (h:bothC ds fs ts=0) (h2:wgIn n=false):2=wg1 ds fs ts n:=by unfold wg1;rw [if_neg (fun x=>x h),h2];rfl
theorem wg1_b (h:bothC ds fs ts=0) (h2:wgIn n=true):bothC ds fs ts=wg1 ds fs ts n:=by unfold wg1;rw [if_neg (fun x=>x h),h2];exact h
theorem wg1_c (h : ¬bothC ds fs ts=0):bothC ds fs ts=wg1 ds fs ts n:=by unfold wg1;rw [if_pos h]
theorem wg1_first:firstOf [codeA ds fs [ts],if !(decide (1≤n) && decide (n≤12)) then 2 else 0]=wg1 ds fs ts n:=by
 rw [codeA_one];unfold wg1 bothC wgIn
 cases (isAlg ds fs && isForm ds ts) <;> cases (decide (1≤n) && decide (n≤12)) <;> rfl
theorem wg1_z (h:wg1 ds fs ts n=0):(isAlg ds fs && isForm ds ts)=true∧wgIn n=true:=by
 unfold wg1 at h
 by_cases h1:bothC ds fs ts≠0
 ·rw [if_pos h1] at h;exact absurd h h1
 ·rw [if_neg h1] at h;refine ⟨bothC_eq h1,?_⟩
  cases e:wgIn n with
  | true=>rfl
  | false=>rw [e] at h;simp at h
theorem wgIn_bd (h:wgIn n=true):1≤n∧n≤12:=by simpa [wgIn] using h
theorem wg2_a (h:wg1 ds fs ts n=0) (h2:wgSt ds fs ts n=false):5=wg2 ds fs ts n:=by unfold wg2;rw [if_neg (fun x=>x h),h2];rfl
theorem wg2_b (h:wg1 ds fs ts n=0) (h2:wgSt ds fs ts n=true):wg1 ds fs ts n=wg2 ds fs ts n:=by unfold wg2;rw [if_neg (fun x=>x h),h2];exact h
theorem wg2_c (h : ¬wg1 ds fs ts n=0):wg1 ds fs ts n=wg2 ds fs ts n:=by unfold wg2;rw [if_pos h]
theorem wg2_z (h:wg2 ds fs ts n=0):wg1 ds fs ts n=0:=by
 unfold wg2 at h
 by_cases h1:wg1 ds fs ts n≠0
 ·rw [if_pos h1] at h;exact absurd h h1
 ·exact Decidable.not_not.1 h1
theorem wg_bad (h:wg2 ds fs ts n≠0):wgD ds fs ts n=[]∧wgF ds fs ts n=[]∧wgC ds fs ts n=wg2 ds fs ts n:=by unfold wgD wgF wgC;rw [if_pos h,if_pos h,if_pos h];exact ⟨rfl,rfl,rfl⟩
theorem wg_ok (h:wg2 ds fs ts n=0):wgD ds fs ts n=wxD ds n∧wgF ds fs ts n=wxF ds fs ts∧wgC ds fs ts n=wxC ds:=by
 have h' : ¬wg2 ds fs ts n≠0:=fun x=>x h;unfold wgD wgF wgC;rw [if_neg h',if_neg h',if_neg h'];exact ⟨rfl,rfl,rfl⟩
theorem wg_pre (h : ¬wg1 ds fs ts n=0):wgD ds fs ts n=[]∧wgF ds fs ts n=[]∧wgC ds fs ts n=wg1 ds fs ts n:=by
 have e:=wg2_c h;have h2:=wg_bad (ds:=ds) (fs:=fs) (ts:=ts) (n:=n) (by rw [← e];exact h);rw [← e] at h2;exact h2
theorem wg_st (h:wg1 ds fs ts n=0) (h2:wgSt ds fs ts n=false):wgD ds fs ts n=[]∧wgF ds fs ts n=[]∧wgC ds fs ts n=5:=by
 have e:=wg2_a h h2;have h3:=wg_bad (ds:=ds) (fs:=fs) (ts:=ts) (n:=n) (by rw [← e];decide);rw [← e] at h3;exact h3
theorem wg_lim (h:wg1 ds fs ts n=0) (h2:wgSt ds fs ts n=true) (h8:ds.length=8):wgD ds fs ts n=[]∧wgF ds fs ts n=[]∧wgC ds fs ts n=3:=by
 obtain ⟨e1,e2,e3⟩:=wg_ok (ds:=ds) (fs:=fs) (ts:=ts) (n:=n) (by rw [← wg2_b h h2];exact h);obtain ⟨f1,f2,f3⟩:=wx_yes (ds:=ds) (fs:=fs) (ts:=ts) (n:=n) h8;rw [e1,e2,e3,f1,f2,f3];exact ⟨rfl,rfl,rfl⟩
theorem wg_fin (h:wg1 ds fs ts n=0) (h2:wgSt ds fs ts n=true) (h8 : ¬ds.length=8):wgD ds fs ts n=ds++[n]∧wgF ds fs ts n=fs++[ts]∧wgC ds fs ts n=0:=by
 obtain ⟨e1,e2,e3⟩:=wg_ok (ds:=ds) (fs:=fs) (ts:=ts) (n:=n) (by rw [← wg2_b h h2];exact h);obtain ⟨f1,f2,f3⟩:=wx_no (ds:=ds) (fs:=fs) (ts:=ts) (n:=n) h8;rw [e1,e2,e3,f1,f2,f3];exact ⟨rfl,rfl,rfl⟩
theorem wgSt_0 (h:degOk ds ts (n+1)=false):wgSt ds fs ts n=false:=by unfold wgSt;rw [h];rfl
theorem wgSt_1 (h:homog ds ts=false):wgSt ds fs ts n=false:=by unfold wgSt degOk;rw [h];rfl
theorem wgSt_2 (h : ¬degF ds ts = -1) (h2 : ¬degF ds ts=n+1):wgSt ds fs ts n=false:=by unfold wgSt degOk;rw [decide_eq_false h,decide_eq_false h2];simp
theorem wgSt_3 (h : ¬(dS ds fs (toS ts)).length=0):wgSt ds fs ts n=false:=by unfold wgSt;rw [decide_eq_false h,Bool.and_false]
theorem wgSt_4 (h:homog ds ts=true) (h2:degF ds ts = -1∨degF ds ts=n+1) (h3:(dS ds fs (toS ts)).length=0):wgSt ds fs ts n=true:=by
 unfold wgSt degOk;rw [h,decide_eq_true h3]
 rcases h2 with h2 | h2 <;> rw [decide_eq_true h2] <;> simp
theorem wgSt_5 (h:degOk ds ts (n+1)=true) (h3:(dS ds fs (toS ts)).length=0):wgSt ds fs ts n=true:=by unfold wgSt;rw [h,decide_eq_true h3];rfl
theorem wgF_wf (h:Wfss fs) (h2:Wfs ts):Wfss (wgF ds fs ts n):=by
 unfold wgF wxF
 split
 ·exact fun f hf=>by simp at hf
 ·split
  ·exact fun f hf=>by simp at hf
  ·exact Wfss.snoc h h2
theorem wg_len (ds:List Int) (fs:List (List Term)) (ts:List Term) (n:Int):(wgD ds fs ts n).length≤9∧(wgF ds fs ts n).length≤9∧tot (wgF ds fs ts n)≤tot fs+ts.length:=by
 by_cases h:wg2 ds fs ts n=0
 ·obtain ⟨e1,e2,_⟩:=wg_ok h;have h2:=isAlg_len (Bool.and_eq_true_iff.1 (wg1_z (wg2_z h)).1).1;rw [e1,e2];unfold wxD wxF
  split
  ·simp [tot]
  ·simp [tot_app,tot]
   omega
 ·obtain ⟨e1,e2,_⟩:=wg_bad h;rw [e1,e2]
  simp [tot]
end
theorem sWith_c {B:World} {H0 H:HP} {L:List SA} {w:World} {qad qaf:Option Addr} {cad caf:Nat} {ad:List Int} {af:List (List Term)} {n:Int} {qts:Option Addr} {cts:Nat} {ts:List Term} (had:Ints H qad ad) (haf:Forms H qaf af) (hts:Terms H qts ts) (hn8:ad.length≤1048576) (hn9:af.length≤1048576) (hl9 : ∀i,i<af.length→(fm af i).length≤1048576) (hlt:ts.length≤1048576) (hct:ts.length≤cts) (hH:Hp B H0 H L w):Calls Tryz.prog 20 [.agg [.slice qad ad.length cad,.slice qaf af.length caf].toArray,.int .i64 n,.agg [.slice qts ts.length cts].toArray].toArray w fun e w'=>∃qd cd qf cf vs,e = .returned (.tuple #[.agg [.slice qd (wgD ad af ts n).length cd,.slice qf (wgF ad af ts n).length cf].toArray,.int .i64 (wgC ad af ts n)])∧Hp B H0 H (own 2 1 qd (wgD ad af ts n).length cd (intsC (wgD ad af ts n))::ownFs 42 89 qf cf vs (wgF ad af ts n)::L) w':=by
 refine JD Tryz.func20 rfl 66 rfl rfl [(0,.agg [.slice qad ad.length cad,.slice qaf af.length caf].toArray),(1,.int .i64 n),(2,.agg [.slice qts ts.length cts].toArray)] rfl hH ?_;clear hH;refine Jd fun _ hK1 _=>(Jb (Eo rfl rfl rfl fun g3=>(Eo rfl rfl rfl fun g5=>(JG ze27 rfl fun g6=>(Jg (Je rfl) rfl (Jf (Ja (hK1 (Jd fun _ hK2 _=>(Jb (Jg (Jl rfl (.s (.s .z)) (by simpa [*] using ag27)) rfl (Jg (Jl rfl (.s .z) (by simpa [*] using ag42)) rfl (Jz fn52 rfl rfl fun w hH=>(l02Both_c had haf hts hn8 hn9 hl9 (by omega) hH).mono ?_)))))))))))));rintro _ w ⟨rfl,hH⟩;refine ⟨_,rfl,fun a hF=>JL hF hH ?_⟩;refine Jg (Je rfl) rfl (Jf (Ja (hK2 (EL (σ:=Int) (fun (cd:Int)=>[(8,.int .i64 cd)]) (fun (cd:Int)=>H) (fun (cd:Int)=>obj g6 (.cells [.slice none 0 0,.slice none 0 0].toArray 27 (0,0))::obj g5 (.cells [.slice qts ts.length cts].toArray 42 (0,0))::obj g3 (.cells [.slice qad ad.length cad,.slice qaf af.length caf].toArray 27 (0,0))::L) (fun (cd:Int)=>cd=wg1 ad af ts n) ?_ ?_))))
 ·
  intro _ hMt1;refine Jd fun _ hK3 _=>(Jb (Jg (Jc rfl) rfl (Jg (En rfl rfl) rfl (Jg (Jc rfl) rfl (JW (jd:=16) rfl (fun hg16=>?_) (fun hg16=>?_))))))
  ·
   try have hg16p:=of_decide_eq_true hg16
   refine JK (Jc rfl) rfl rfl rfl hg16 (Et fn53 rfl rfl hg16 rfl rfl fun w hH=>(l01In_c hH).mono ?_);rintro _ w ⟨rfl,hH⟩;refine ⟨_,rfl,fun a hF=>JL hF hH ?_⟩;refine JK (Er rfl) rfl rfl rfl hg16 (Jg (JN rfl hg16 rfl) rfl (Jf (Ja (hK3 (Ek rfl (fun h20=>?_) (fun h20=>?_))))))
   ·
    refine Jb (Jg (Je rfl) rfl (Jf (Ja ?_)));exact hMt1 (2:Int) (wg1_a hg16p (bnot_t h20)) 8 rfl rfl ⟨rfl,trivial⟩ rfl rfl
   ·
    refine Jo (Ja ?_);exact hMt1 (bothC ad af ts) (wg1_b hg16p (bnot_f h20)) 7 rfl rfl ⟨rfl,trivial⟩ rfl rfl
  ·
   try have hg16p:=of_decide_eq_false hg16
   refine JE rfl rfl rfl hg16 (JE rfl rfl rfl hg16 (JE rfl rfl rfl hg16 (Jg (JM rfl hg16 rfl) rfl (Jf (Ja (hK3 (Ey rfl (Jo (Ja ?_)))))))));exact hMt1 (bothC ad af ts) (wg1_c hg16p) 7 rfl rfl ⟨rfl,trivial⟩ rfl rfl
 ·
  rintro cd hcd;refine Jd fun _ hK4 _=>(Jd fun _ hK5 _=>(Jb (Jg (Jc rfl) rfl (Jg (Ew rfl rfl) rfl (Jf (Ja (hK5 (Jp rfl (fun h22=>?_) (fun h22=>?_)))))))))
  ·
   refine Jd fun _ hK6 _=>(Jb (Jg (JQ bz27) rfl (Jg (Jc rfl) rfl (Jk rfl rfl (by first | exact bytesC_one _ | exact intsC_one _ | exact Term.c_one _ | simp [Value.oneCell']) (by simpa [*] using sz27) (by simp [*]) At.z (Jg (Je rfl) rfl (Jf (Ja (hK6 (Jt (Jn (JV rfl (Res.agg rfl At.z (by simpa [*] using ag27)) (Res.tmp rfl) fun w hH=>?_)))))))))));replace hH:=hH.sublist (.cons _ (.cons _ (.cons _ (List.Sublist.refl _))))
   have hn1 : ¬wg1 ad af ts n=0:=by rw [← hcd];exact h22
   rw [hcd];obtain ⟨e1,e2,e3⟩:=wg_pre hn1;rw [e1,e2,e3];exact ⟨none,0,none,0,nilVs,rfl,((hH.ownFsNil 42 89).own0 2 1)⟩
  ·
   have hz1:wg1 ad af ts n=0:=by have:=hcd;omega
   obtain ⟨hAF0,hIn⟩:=wg1_z hz1;have hAF:=Bool.and_eq_true_iff.1 hAF0;have hA:=isAlg_ok hAF.1 haf.wfss;have hF:=hAF.2;have hF4:=isForm_len4 hF;have hFs9:=isForm_sok hts.wfs hF;have hFk:=isForm_kex hA.hd hA.hn hts.wfs hF;have hn12:=wgIn_bd hIn;have hPl:=isAlg_len hAF.1;refine Jo (Ja (hK4 (Jd fun _ hK7 _=>(Jb (Jg (Jq u27 rfl sz24 rfl) rfl (Jg (Jv rfl (.s (.s .z)) rfl pl24) rfl (Jg (Jl rfl (.s .z) (by simpa [*] using ag42)) rfl (Jz fn46 rfl rfl fun w hH=>(l01Degree_c had hts hA.hn hA.hd (by omega) hH).mono ?_))))))));rintro _ w ⟨rfl,hH⟩;refine ⟨_,rfl,fun a hF=>JL hF hH ?_⟩;refine Jg (Jc rfl) rfl (Jg (JA rfl rfl) rfl (Jg (JA rfl rfl) rfl (Jg (Je rfl) rfl (Jg (Je rfl) rfl (Jf (Ja (hK7 (Jd fun _ hK8 _=>(Jx (Jd fun _ hK9 _=>(Jb (Jg (Jc rfl) rfl (Jg (Er rfl) rfl (Jg (Jc rfl) rfl (JW (jd:=35) rfl (fun hg35=>?_) (fun hg35=>?_))))))))))))))))
   ·
    try have hg35p:=of_decide_eq_true hg35
    refine JE rfl rfl rfl hg35 (JE rfl rfl rfl hg35 (JE rfl rfl rfl hg35 (JE rfl rfl rfl hg35 (JE rfl rfl rfl hg35 (EN rfl rfl rfl (EN rfl rfl rfl (EN rfl rfl rfl (EN rfl rfl rfl (JE rfl rfl rfl hg35 (Jg (JN rfl hg35 rfl) rfl (Jg (Jc rfl) rfl (JE rfl rfl rfl rfl (JE rfl rfl rfl rfl (JE rfl rfl rfl rfl ?_))))))))))))));refine JE rfl rfl rfl rfl (JE rfl rfl rfl rfl (JE rfl rfl rfl rfl (Jg (JN rfl rfl rfl) rfl (Jg (Je rfl) rfl (Jf (Ja (hK9 (Ep rfl (Jd fun _ hK10 _=>(Jb (Jg (JQ bz27) rfl (Jk rfl rfl (by first | exact bytesC_one _ | exact intsC_one _ | exact Term.c_one _ | simp [Value.oneCell']) (by simpa [*] using sz27) (by simp [*]) At.z (Jg (Je rfl) rfl (Jf (Ja (hK10 ?_))))))))))))))));refine Jt (JU (Jn (JV rfl (Res.agg rfl At.z (by simpa [*] using ag27)) (Res.tmp rfl) fun w hH=>?_)));replace hH:=hH.sublist (.cons _ (.cons _ (.cons _ (List.Sublist.refl _))));have hs:wgSt ad af ts n=false:=wgSt_1 (bnot_t hg35);obtain ⟨e1,e2,e3⟩:=wg_st hz1 hs;rw [e1,e2,e3];exact ⟨none,0,none,0,nilVs,rfl,((hH.ownFsNil 42 89).own0 2 1)⟩
   ·
    try have hg35p:=of_decide_eq_false hg35
    refine JK (Jq u42 rfl sz40 rfl) rfl rfl rfl hg35 (JK (Jv rfl (.s .z) rfl pl40) rfl rfl rfl hg35 (JK (Jr u40 rfl rfl) rfl rfl rfl hg35 (JK (Eq rfl rfl) rfl rfl rfl hg35 (JK (Jc rfl) rfl rfl rfl hg35 (JW (jd:=40) rfl (fun hg40=>?_) (fun hg40=>?_))))))
    ·
     try have hg40p:=of_decide_eq_true hg40
     refine JK (Jc rfl) rfl rfl rfl hg40 (JK (Jc rfl) rfl rfl rfl hg40 (JK (JF rfl rfl (by first | exact nw _ (by omega) | rfl)) rfl rfl rfl hg40 (JK (Ew rfl rfl) rfl rfl rfl hg40 (JK (JN rfl hg40 rfl) rfl rfl rfl hg35 (Jg (JM rfl hg35 rfl) rfl (Jg (Jc rfl) rfl (JW (jd:=47) rfl (fun hg47=>?_) (fun hg47=>?_))))))))
     ·
      try have hg47p:=of_decide_eq_true hg47
      refine JE rfl rfl rfl hg47 (JE rfl rfl rfl hg47 (JE rfl rfl rfl hg47 (JE rfl rfl rfl hg47 (JE rfl rfl rfl hg47 (JE rfl rfl rfl hg47 (Jg (JN rfl hg47 rfl) rfl (Jg (Je rfl) rfl (Jf (Ja (hK9 (Ep rfl (Jd fun _ hK11 _=>(Jb (Jg (JQ bz27) rfl (Jk rfl rfl (by first | exact bytesC_one _ | exact intsC_one _ | exact Term.c_one _ | simp [Value.oneCell']) (by simpa [*] using sz27) (by simp [*]) At.z ?_)))))))))))))));refine Jg (Je rfl) rfl (Jf (Ja (hK11 (Jt (JU (Jn (JV rfl (Res.agg rfl At.z (by simpa [*] using ag27)) (Res.tmp rfl) fun w hH=>?_)))))));replace hH:=hH.sublist (.cons _ (.cons _ (.cons _ (List.Sublist.refl _))));have hs:wgSt ad af ts n=false:=wgSt_2 (fun e=>(degF_neg hA.hn hA.hd hts.wfs (bnot_f hg35)).1 e (by omega)) hg47p;obtain ⟨e1,e2,e3⟩:=wg_st hz1 hs;rw [e1,e2,e3];exact ⟨none,0,none,0,nilVs,rfl,((hH.ownFsNil 42 89).own0 2 1)⟩
     ·
      try have hg47p:=of_decide_eq_false hg47
      refine JK (Jl rfl (.s (.s .z)) (by simpa [*] using ag27)) rfl rfl rfl hg47 (JK (Jl rfl (.s .z) (by simpa [*] using ag42)) rfl rfl rfl hg47 (Et fn54 rfl rfl hg47 rfl rfl fun w hH=>(l02D_c had haf hts hA.hn hA.hd hA.fok hA.hl hA.kex hFs9 hFk (by omega) hA.len (by omega) hH).mono ?_));rintro _ w ⟨qo50,co50,rfl,hH⟩;refine ⟨_,rfl,fun a hF=>JL hF hH ?_⟩;refine JK (PR.fieldV u42 rfl pl40 rfl rfl) rfl rfl rfl hg47 (JK (Jr u40 rfl rfl) rfl rfl rfl hg47 (JK (Eq rfl rfl) rfl rfl rfl hg47 (Jg (JM rfl hg47 rfl) rfl (Jg (Je rfl) rfl (Jf (Ja (hK9 (Jp rfl (fun h32=>?_) (fun h32=>?_)))))))))
      ·
       refine Jd fun _ hK12 _=>(Jb (Jg (JQ bz27) rfl (Jk rfl rfl (by first | exact bytesC_one _ | exact intsC_one _ | exact Term.c_one _ | simp [Value.oneCell']) (by simpa [*] using sz27) (by simp [*]) (.s .z) (Jg (Je rfl) rfl (Jf (Ja (hK12 (Jt (JU (Jn (JV rfl (Res.agg rfl (.s .z) (by simpa [*] using ag27)) (Res.tmp rfl) fun w hH=>?_)))))))))));replace hH:=hH.sublist (.cons _ (.cons _ (.cons _ (.cons _ (List.Sublist.refl _)))));have hs:wgSt ad af ts n=false:=wgSt_3 (by rw [ofS_len] at h32;omega);obtain ⟨e1,e2,e3⟩:=wg_st hz1 hs;rw [e1,e2,e3];exact ⟨none,0,none,0,nilVs,rfl,((hH.ownFsNil 42 89).own0 2 1)⟩
      ·
       refine Jd fun _ hK13 _=>(Jb (Jg (Jq u27 rfl sz24 rfl) rfl (Jg (Jv rfl (.s (.s (.s .z))) rfl pl24) rfl (Jg (Jr u24 rfl rfl) rfl (Jg (En rfl rfl) rfl (Jg (Je rfl) rfl (Jf (Ja (hK13 (Jp rfl (fun h56=>?_) (fun h56=>?_)))))))))))
       ·
        refine Jd fun _ hK14 _=>(Jb (Jg (JQ bz27) rfl (Jk rfl rfl (by first | exact bytesC_one _ | exact intsC_one _ | exact Term.c_one _ | simp [Value.oneCell']) (by simpa [*] using sz27) (by simp [*]) (.s .z) (Jg (Je rfl) rfl (Jf (Ja (hK14 (Jt (JU (Jn (JV rfl (Res.agg rfl (.s .z) (by simpa [*] using ag27)) (Res.tmp rfl) fun w hH=>?_)))))))))));replace hH:=hH.sublist (.cons _ (.cons _ (.cons _ (.cons _ (List.Sublist.refl _)))));have hs:wgSt ad af ts n=true:=wgSt_4 (bnot_f hg35) (.inr (Decidable.not_not.1 hg47p)) (by rw [ofS_len] at h32;omega);obtain ⟨e1,e2,e3⟩:=wg_lim hz1 hs (by omega);rw [e1,e2,e3];exact ⟨none,0,none,0,nilVs,rfl,((hH.ownFsNil 42 89).own0 2 1)⟩
       ·
        refine Jo (JJ (Ja (hK8 (Jd fun _ hK15 _=>(Jb (Jg (Jl rfl (.s (.s (.s .z))) (by simpa [*] using ag27)) rfl (Jg (Jc rfl) rfl (Jg (Jl rfl (.s (.s .z)) (by simpa [*] using ag42)) rfl (Jz fn55 rfl rfl fun w hH=>(l02With_c had haf hts (by omega) hl9 (by omega) hH).mono ?_)))))))));rintro _ w ⟨qdo65,cdo65,qfo65,cfo65,vso65,rfl,hH⟩;refine ⟨_,rfl,fun a hF=>JL hF hH ?_⟩;refine Jk rfl rfl (by first | exact bytesC_one _ | exact intsC_one _ | exact Term.c_one _ | simp [Value.oneCell']) (by simpa [*] using sz27) (by simp [*]) (.s (.s (.s .z))) (Jg (Je rfl) rfl (Jf (Ja (hK15 (Jt (JV rfl (Res.agg rfl (.s (.s (.s .z))) (by simpa [*] using ag27)) (Res.tmp rfl) fun w hH=>?_))))));replace hH:=hH.sublist (.cons_cons _ (.cons_cons _ (.cons _ (.cons _ (.cons _ (.cons _ (List.Sublist.refl _)))))));have hs:wgSt ad af ts n=true:=wgSt_4 (bnot_f hg35) (.inr (Decidable.not_not.1 hg47p)) (by rw [ofS_len] at h32;omega);obtain ⟨e1,e2,e3⟩:=wg_fin hz1 hs (by omega);rw [e1,e2,e3];exact ⟨_,_,_,_,_,rfl,hH⟩
    ·
     try have hg40p:=of_decide_eq_false hg40
     refine JE rfl rfl rfl hg40 (JE rfl rfl rfl hg40 (JE rfl rfl rfl hg40 (JE rfl rfl rfl hg40 (JK (JM rfl hg40 rfl) rfl rfl rfl hg35 (Jg (JM rfl hg35 rfl) rfl (Jg (Jc rfl) rfl (JK (Jl rfl (.s (.s .z)) (by simpa [*] using ag27)) rfl rfl rfl rfl (JK (Jl rfl (.s .z) (by simpa [*] using ag42)) rfl rfl rfl rfl (Et fn54 rfl rfl rfl rfl rfl fun w hH=>(l02D_c had haf hts hA.hn hA.hd hA.fok hA.hl hA.kex hFs9 hFk (by omega) hA.len (by omega) hH).mono ?_)))))))));rintro _ w ⟨qo50,co50,rfl,hH⟩;refine ⟨_,rfl,fun a hF=>JL hF hH ?_⟩;refine JK (PR.fieldV u42 rfl pl40 rfl rfl) rfl rfl rfl rfl (JK (Jr u40 rfl rfl) rfl rfl rfl rfl (JK (Eq rfl rfl) rfl rfl rfl rfl (Jg (JM rfl rfl rfl) rfl (Jg (Je rfl) rfl (Jf (Ja (hK9 (Jp rfl (fun h32=>?_) (fun h32=>?_)))))))))
     ·
      refine Jd fun _ hK16 _=>(Jb (Jg (JQ bz27) rfl (Jk rfl rfl (by first | exact bytesC_one _ | exact intsC_one _ | exact Term.c_one _ | simp [Value.oneCell']) (by simpa [*] using sz27) (by simp [*]) (.s .z) (Jg (Je rfl) rfl (Jf (Ja (hK16 (Jt (JU (Jn (JV rfl (Res.agg rfl (.s .z) (by simpa [*] using ag27)) (Res.tmp rfl) fun w hH=>?_)))))))))));replace hH:=hH.sublist (.cons _ (.cons _ (.cons _ (.cons _ (List.Sublist.refl _)))));have hs:wgSt ad af ts n=false:=wgSt_3 (by rw [ofS_len] at h32;omega);obtain ⟨e1,e2,e3⟩:=wg_st hz1 hs;rw [e1,e2,e3];exact ⟨none,0,none,0,nilVs,rfl,((hH.ownFsNil 42 89).own0 2 1)⟩
     ·
      refine Jd fun _ hK17 _=>(Jb (Jg (Jq u27 rfl sz24 rfl) rfl (Jg (Jv rfl (.s (.s (.s .z))) rfl pl24) rfl (Jg (Jr u24 rfl rfl) rfl (Jg (En rfl rfl) rfl (Jg (Je rfl) rfl (Jf (Ja (hK17 (Jp rfl (fun h56=>?_) (fun h56=>?_)))))))))))
      ·
       refine Jd fun _ hK18 _=>(Jb (Jg (JQ bz27) rfl (Jk rfl rfl (by first | exact bytesC_one _ | exact intsC_one _ | exact Term.c_one _ | simp [Value.oneCell']) (by simpa [*] using sz27) (by simp [*]) (.s .z) (Jg (Je rfl) rfl (Jf (Ja (hK18 (Jt (JU (Jn (JV rfl (Res.agg rfl (.s .z) (by simpa [*] using ag27)) (Res.tmp rfl) fun w hH=>?_)))))))))));replace hH:=hH.sublist (.cons _ (.cons _ (.cons _ (.cons _ (List.Sublist.refl _)))));have hs:wgSt ad af ts n=true:=wgSt_4 (bnot_f hg35) (.inl ((degF_neg hA.hn hA.hd hts.wfs (bnot_f hg35)).2 (by omega))) (by rw [ofS_len] at h32;omega);obtain ⟨e1,e2,e3⟩:=wg_lim hz1 hs (by omega);rw [e1,e2,e3];exact ⟨none,0,none,0,nilVs,rfl,((hH.ownFsNil 42 89).own0 2 1)⟩
      ·
       refine Jo (JJ (Ja (hK8 (Jd fun _ hK19 _=>(Jb (Jg (Jl rfl (.s (.s (.s .z))) (by simpa [*] using ag27)) rfl (Jg (Jc rfl) rfl (Jg (Jl rfl (.s (.s .z)) (by simpa [*] using ag42)) rfl (Jz fn55 rfl rfl fun w hH=>(l02With_c had haf hts (by omega) hl9 (by omega) hH).mono ?_)))))))));rintro _ w ⟨qdo65,cdo65,qfo65,cfo65,vso65,rfl,hH⟩;refine ⟨_,rfl,fun a hF=>JL hF hH ?_⟩;refine Jk rfl rfl (by first | exact bytesC_one _ | exact intsC_one _ | exact Term.c_one _ | simp [Value.oneCell']) (by simpa [*] using sz27) (by simp [*]) (.s (.s (.s .z))) (Jg (Je rfl) rfl (Jf (Ja (hK19 (Jt (JV rfl (Res.agg rfl (.s (.s (.s .z))) (by simpa [*] using ag27)) (Res.tmp rfl) fun w hH=>?_))))));replace hH:=hH.sublist (.cons_cons _ (.cons_cons _ (.cons _ (.cons _ (.cons _ (.cons _ (List.Sublist.refl _)))))));have hs:wgSt ad af ts n=true:=wgSt_4 (bnot_f hg35) (.inl ((degF_neg hA.hn hA.hd hts.wfs (bnot_f hg35)).2 (by omega))) (by rw [ofS_len] at h32;omega);obtain ⟨e1,e2,e3⟩:=wg_fin hz1 hs (by omega);rw [e1,e2,e3];exact ⟨_,_,_,_,_,rfl,hH⟩
theorem With_c {B:World} {H0 H:HP} {L:List SA} {w:World} {qad qaf:Option Addr} {cad caf:Nat} {ad:List Int} {af:List (List Term)} {n:Int} {qts:Option Addr} {cts:Nat} {ts:List Term} (had:Ints H qad ad) (haf:Forms H qaf af) (hts:Terms H qts ts) (hn8:ad.length≤1048576) (hn9:af.length≤1048576) (hl9 : ∀i,i<af.length→(fm af i).length≤1048576) (hlt:ts.length≤1048576) (hct:ts.length≤cts) (hH:Hp B H0 H L w):Calls Tryz.prog 19 [.agg [.slice qad ad.length cad,.slice qaf af.length caf].toArray,.int .i64 n,.agg [.slice qts ts.length cts].toArray].toArray w fun e w'=>∃qd cd qf cf vs,e = .returned (.tuple #[.agg [.slice qd (wgD ad af ts n).length cd,.slice qf (wgF ad af ts n).length cf].toArray,.int .i64 (wgC ad af ts n)])∧Hp B H0 H (own 2 1 qd (wgD ad af ts n).length cd (intsC (wgD ad af ts n))::ownFs 42 89 qf cf vs (wgF ad af ts n)::L) w':=by
 refine JD Tryz.func19 rfl 43 rfl rfl [(0,.agg [.slice qad ad.length cad,.slice qaf af.length caf].toArray),(1,.int .i64 n),(2,.agg [.slice qts ts.length cts].toArray)] rfl hH ?_;have hw0:=hH.old;have hw1:=hH.le;clear hH;refine Jd fun _ hK1 _=>(Jb (Eo rfl rfl rfl fun g3=>(Kc .z fun H3 hle3 hc3=>?_)));replace had:=had.le hle3;replace haf:=haf.le hle3;replace hts:=hts.le hle3;have pad:CellAt H3 g3 0 (.slice qad ad.length cad):=hc3 0 _ rfl;have paf:CellAt H3 g3 1 (.slice qaf af.length caf):=hc3 1 _ rfl;refine Eo rfl rfl rfl fun g5=>(JG ze27 rfl fun g6=>(Jg (Je rfl) rfl (Jf (Ja (hK1 (Jd fun _ hK2 _=>(Jb (Jg (Jl rfl (.s .z) (by simpa [*] using ag42)) rfl (J.lit1 u25 ze42 sz42 rfl rfl rfl rfl rfl rfl fun g10=>(Kc .z fun H8 hle8 hc8=>?_))))))))));replace had:=had.le hle8;replace haf:=haf.le hle8;replace hts:=hts.le hle8;replace pad:=pad.le hle8;replace paf:=paf.le hle8;have hFs:=forms_one (hc8 0 _ rfl) hct hts;refine Jz fn25 rfl rfl fun w hH=>(algebraCode_c pad paf had haf hFs hn8 hn9 hl9 (by simp) (len_one (by omega)) hH).mono ?_;rintro _ w ⟨rfl,hH⟩;refine ⟨_,rfl,fun a hF=>JL hF hH ?_⟩;refine Jg (Jc rfl) rfl (Jz fn48 rfl rfl fun w hH=>(within_c hH).mono ?_);rintro _ w ⟨rfl,hH⟩;refine ⟨_,rfl,fun a hF=>JL hF hH ?_⟩;refine Jg (Er rfl) rfl (Jz fn47 rfl rfl fun w hH=>(when_c hH).mono ?_);rintro _ w ⟨rfl,hH⟩;refine ⟨_,rfl,fun a hF=>JL hF hH ?_⟩;refine J.litI2 u24 ze2 sz2 rfl rfl rfl fun g16=>(Jz fn42 rfl rfl fun w hH=>hH.lend .z fun Hl1 hle1 hA1 hB1 hH=>(first_c (own_ints hA1) (by simp) hH).mono ?_);rintro _ w ⟨rfl,hH⟩;replace hH:=hB1 _ _ hH;refine ⟨_,rfl,fun a hF=>JL hF hH ?_⟩;refine Jg (Je rfl) rfl (Jf (Ja (hK2 (EL (σ:=Int) (fun (cd:Int)=>[(8,.int .i64 cd)]) (fun (cd:Int)=>H8) (fun (cd:Int)=>obj g6 (.cells [.slice none 0 0,.slice none 0 0].toArray 27 (0,0))::obj g5 (.cells [.slice qts ts.length cts].toArray 42 (0,0))::L) (fun (cd:Int)=>cd=wg2 ad af ts n) ?_ ?_))))
 ·
  intro _ hMt1;refine Jd fun _ hK3 _=>(Jb (Jg (Jc rfl) rfl (Jg (En rfl rfl) rfl (Jg (Jc rfl) rfl (JW (jd:=20) rfl (fun hg20=>?_) (fun hg20=>?_))))))
  ·
   try have hg20p:=of_decide_eq_true hg20
   have hw20:=hg20p;rw [wg1_first] at hw20;obtain ⟨hAF0,hIn⟩:=wg1_z hw20;have hAF:=Bool.and_eq_true_iff.1 hAF0;have hA:=isAlg_ok hAF.1 haf.wfss;have hF:=hAF.2;have hF4:=isForm_len4 hF;have hFs9:=isForm_sok hts.wfs hF;have hFk:=isForm_kex hA.hd hA.hn hts.wfs hF;have hn12:=wgIn_bd hIn;have hPl:=isAlg_len hAF.1;refine JK (Jq u27 rfl sz24 rfl) rfl rfl rfl hg20 (JK (JX (q:=some ⟨g3,0,none⟩) (k:=0) rfl pad pl24) rfl rfl rfl hg20 (JK (Jl rfl (.s (.s .z)) (by simpa [*] using ag42)) rfl rfl rfl hg20 (JK (Jc rfl) rfl rfl rfl hg20 (JK (JF rfl rfl (by first | exact nw _ (by omega) | rfl)) rfl rfl rfl hg20 (Et fn49 rfl rfl hg20 rfl rfl fun w hH=>(isOfDegree_c had hts hA.hn hA.hd (by omega) hH).mono ?_)))));rintro _ w ⟨rfl,hH⟩;refine ⟨_,rfl,fun a hF=>JL hF hH ?_⟩;refine JK (Er rfl) rfl rfl rfl hg20 (JK (Jc rfl) rfl rfl rfl hg20 (JW (jd:=28) rfl (fun hg28=>?_) (fun hg28=>?_)))
   ·
    try have hg28p:=of_decide_eq_true hg28
    refine JE rfl rfl rfl hg28 (JE rfl rfl rfl hg28 (JE rfl rfl rfl hg28 (JK (JN rfl hg28 rfl) rfl rfl rfl hg20 (Jg (JN rfl hg20 rfl) rfl (Jf (Ja (hK3 (Ep rfl (Jb (Jg (Je rfl) rfl (Jf (Ja (JC .z ?_)))))))))))));exact hMt1 (5:Int) (wg2_a hw20 (wgSt_0 (bnot_t hg28))) 17 rfl rfl ⟨rfl,trivial⟩ rfl rfl
   ·
    try have hg28p:=of_decide_eq_false hg28
    refine JK (Jl rfl (.s (.s .z)) (by simpa [*] using ag42)) rfl rfl rfl hg28 (Et fn50 rfl rfl hg28 rfl rfl fun w hH=>(isClosed_c pad paf had haf hts hA.hn hA.hd hA.fok hA.hl hFs9 (Ex.occ hFk hA.hl) (by omega) (by omega) hH).mono ?_);rintro _ w ⟨rfl,hH⟩;refine ⟨_,rfl,fun a hF=>JL hF hH ?_⟩;refine JK (Er rfl) rfl rfl rfl hg28 (JK (JM rfl hg28 rfl) rfl rfl rfl hg20 (Jg (JN rfl hg20 rfl) rfl (Jf (Ja (hK3 (Ek rfl (fun h33=>?_) (fun h33=>?_)))))))
    ·
     refine Jb (Jg (Je rfl) rfl (Jf (Ja (JC .z ?_))));exact hMt1 (5:Int) (wg2_a hw20 (wgSt_3 (of_decide_eq_false (bnot_t h33)))) 17 rfl rfl ⟨rfl,trivial⟩ rfl rfl
    ·
     refine Jo (Ja (JC .z ?_));exact hMt1 (firstOf [codeA ad af [ts],if !(decide (1≤n) && decide (n≤12)) then 2 else 0]) (wg1_first.trans (wg2_b hw20 (wgSt_5 (bnot_f hg28) (of_decide_eq_true (bnot_f h33))))) 16 rfl rfl ⟨rfl,trivial⟩ rfl rfl
  ·
   try have hg20p:=of_decide_eq_false hg20
   have hw20:=hg20p;rw [wg1_first] at hw20;refine JE rfl rfl rfl hg20 (JE rfl rfl rfl hg20 (JE rfl rfl rfl hg20 (JE rfl rfl rfl hg20 (JE rfl rfl rfl hg20 (JE rfl rfl rfl hg20 (JE rfl rfl rfl hg20 (JE rfl rfl rfl hg20 (EN rfl rfl rfl (EN rfl rfl rfl (EN rfl rfl rfl (JE rfl rfl rfl hg20 (Jg (JM rfl hg20 rfl) rfl (Jf (Ja (hK3 ?_)))))))))))))));refine Ey rfl (Jo (Ja (JC .z ?_)));exact hMt1 (firstOf [codeA ad af [ts],if !(decide (1≤n) && decide (n≤12)) then 2 else 0]) (wg1_first.trans (wg2_c hw20)) 16 rfl rfl ⟨rfl,trivial⟩ rfl rfl
 ·
  rintro cd hcd;refine Jd fun _ hK4 _=>(Jd fun _ hK5 _=>(Jb (Jg (Jc rfl) rfl (Jg (Ew rfl rfl) rfl (Jf (Ja (hK5 (Jp rfl (fun h35=>?_) (fun h35=>?_)))))))))
  ·
   refine Jd fun _ hK6 _=>(Jb (Jg (JQ bz27) rfl (Jg (Jc rfl) rfl (Jk rfl rfl (by first | exact bytesC_one _ | exact intsC_one _ | exact Term.c_one _ | simp [Value.oneCell']) (by simpa [*] using sz27) (by simp [*]) At.z (Jg (Je rfl) rfl (Jf (Ja (hK6 (Jt (Jn (JV rfl (Res.agg rfl At.z (by simpa [*] using ag27)) (Res.tmp rfl) fun w hH=>?_)))))))))));replace hH:=hH.sublist (.cons _ (.cons _ (List.Sublist.refl _)))
   have hno:wg2 ad af ts n≠0:=by rw [← hcd];exact h35
   rw [hcd];obtain ⟨e1,e2,e3⟩:=wg_bad hno;rw [e1,e2,e3];exact ⟨none,0,none,0,nilVs,rfl,((hH.ownFsNil 42 89).own0 2 1).weaken (hle3.trans hle8) hw0 hw1⟩
  ·
   have hok:wg2 ad af ts n=0:=by have:=hcd;omega
   have hz1:=wg2_z hok;obtain ⟨hAF0,hIn⟩:=wg1_z hz1;have hAF:=Bool.and_eq_true_iff.1 hAF0;have hA:=isAlg_ok hAF.1 haf.wfss;have hF:=hAF.2;have hF4:=isForm_len4 hF;have hFs9:=isForm_sok hts.wfs hF;have hFk:=isForm_kex hA.hd hA.hn hts.wfs hF;have hn12:=wgIn_bd hIn;have hPl:=isAlg_len hAF.1;refine Jo (Ja (hK4 (Jd fun _ hK7 _=>(Jb (Jg (Jc rfl) rfl (Jg (Jl rfl (.s .z) (by simpa [*] using ag42)) rfl (Jz fn51 rfl rfl fun w hH=>(withGenerator_c pad paf had haf hts (by omega) (by omega) hl9 hlt hct hH).mono ?_)))))));rintro _ w ⟨qdo40,cdo40,qfo40,cfo40,vso40,rfl,hH⟩;refine ⟨_,rfl,fun a hF=>JL hF hH ?_⟩;refine Jg (JA rfl rfl) rfl (Jg (JA rfl rfl) rfl (Jk rfl rfl (by first | exact bytesC_one _ | exact intsC_one _ | exact Term.c_one _ | simp [Value.oneCell']) (by simpa [*] using sz27) (by simp [*]) (.s (.s .z)) (Jg (Je rfl) rfl (Jf (Ja (hK7 (Jt (JV rfl (Res.agg rfl (.s (.s .z)) (by simpa [*] using ag27)) (Res.tmp rfl) fun w hH=>?_))))))));replace hH:=hH.sublist (.cons_cons _ (.cons_cons _ (.cons _ (.cons _ (List.Sublist.refl _)))));obtain ⟨e1,e2,e3⟩:=wg_ok hok;rw [e1,e2,e3];exact ⟨_,_,_,_,_,rfl,hH.weaken (hle3.trans hle8) hw0 hw1⟩
structure Emb (b:Nat) (ds es:Pw):Prop where
 hn:b+ds.length≤es.length
 h8:es.length≤8
 get : ∀j,j<ds.length→es.getD (b+j) 0=ds.getD j 0
theorem Emb.hb {b:Nat} {ds es:Pw} (h:Emb b ds es):b+ds.length≤8:=Nat.le_trans h.hn h.h8
def Kn (n:Nat) (p:Pw):Prop:=p.length=8∧∀j,n≤j→p.getD j 0=0
def Ks (n:Nat) (s:Sm):Prop:=∀x∈s,Kn n x.1
def shS (b:Nat) (s:Sm):Sm:=s.map fun x=>(shM b x.1,x.2)
section
variable {b n : Nat} {p q : Pw}
theorem shM_at (hb:b+n≤8) (h:Kn n p) (j:Nat):(shM b p).getD j 0=if j<b then 0 else p.getD (j - b) 0:=by
 rcases Nat.lt_or_ge j 8 with hj | hj
 ·exact shM_get hj
 ·rw [getD_ge (by rw [shM_len];omega),if_neg (by omega),h.2 _ (by omega)]
theorem shM_up (hb:b+n≤8) (h:Kn n p) (j:Nat):(shM b p).getD (b+j) 0=p.getD j 0:=by rw [shM_at hb h,if_neg (by omega),Nat.add_sub_cancel_left]
theorem shM_lo (hb:b+n≤8) (h:Kn n p) {j:Nat} (hj:j<b):(shM b p).getD j 0=0:=by rw [shM_at hb h,if_pos hj]
theorem shM_inj (hb:b+n≤8) (hp:Kn n p) (hq:Kn n q) (h:shM b p=shM b q):p=q:=list8 hp.1 hq.1 fun j _=>by rw [← shM_up hb hp,← shM_up hb hq,h]
theorem shM_before (hb:b+n≤8) (hp:Kn n p) (hq:Kn n q):before (shM b p) (shM b q)=before p q:=by
 have key:before (shM b p) (shM b q)=true↔before p q=true:=by
  rw [before_iff,before_iff]
  constructor
  ·rintro ⟨k,h1,h2,h3⟩
   have hk:b≤k:=by
    rcases Nat.lt_or_ge k b with h | h
    ·rw [shM_lo hb hp h,shM_lo hb hq h] at h3;omega
    ·exact h
   obtain ⟨m,rfl⟩:=Nat.le.dest hk;rw [shM_up hb hp,shM_up hb hq] at h3;exact ⟨m,by omega,fun j hj=>by have:=h2 (b+j) (by omega);rwa [shM_up hb hp,shM_up hb hq] at this,h3⟩
  ·rintro ⟨k,h1,h2,h3⟩
   have hk:k<n:=by
    rcases Nat.lt_or_ge k n with h | h
    ·exact h
    ·rw [hp.2 k h,hq.2 k h] at h3;omega
   refine ⟨b+k,by omega,fun j hj=>?_,by rw [shM_up hb hp,shM_up hb hq];exact h3⟩;rw [shM_at hb hp,shM_at hb hq]
   split
   ·rfl
   ·exact h2 _ (by omega)
 exact Bool.eq_iff_iff.2 key
theorem Kn.add (hp:Kn n p) (hq:Kn n q):Kn n (addp p q):=⟨by simp,fun j hj=>by rw [addp_get hp.1 hq.1,hp.2 j hj,hq.2 j hj];rfl⟩
theorem addp_sh (hp:Kn n p) (hq:Kn n q):addp (shM b p) (shM b q)=shM b (addp p q):=list8 (by simp) (by simp) fun j hj=>by
 rw [addp_get (by simp) (by simp),shM_get hj,shM_get hj,shM_get hj]
 split
 ·rfl
 ·rw [addp_get hp.1 hq.1]
theorem Ks.nil:Ks n []:=fun x hx=>by simp at hx
theorem Ks.one (h:Kn n p) (k:Int):Ks n [(p,k)]:=fun x hx=>by rw [List.mem_singleton.1 hx];exact h
theorem Ks.addS {s:Sm} (hs:Ks n s) (hp:Kn n p) (k:Int):Ks n (G.addS s p k):=fun y hy=>(addS_mem hy).elim (fun e=>by rw [e];exact hp) (hs y)
theorem Ks.acc : ∀{l s:Sm},Ks n s→Ks n l→Ks n (G.acc s l)
 | [],_,h,_=>h
 | x::l,s,h,hl=>by
  rw [acc_cons]
  exact Ks.acc (h.addS (hl x (by simp)) x.2) fun y hy=>hl y (by simp [hy])
theorem addS_sh (hb:b+n≤8) (hp:Kn n p) (k:Int) : ∀{s:Sm},Ks n s→addS (shS b s) (shM b p) k=shS b (addS s p k)
 | [],_=>by
  simp only [shS,List.map_nil,addS]
  split <;> rfl
 | x::s,h=>by
  have hx:=h x (by simp)
  have ih:=addS_sh hb hp k (s:=s) fun y hy=>h y (by simp [hy])
  have e1:shS b (x::s)=(shM b x.1,x.2)::shS b s:=rfl
  rw [e1]
  simp only [addS]
  rw [shM_before hb hp hx]
  by_cases e:p=x.1
  ·rw [if_pos e,if_pos (by rw [e])]
   split <;> rfl
  ·rw [if_neg e,if_neg fun h9=>e (shM_inj hb hp hx h9)]
   split
   ·split <;> rfl
   ·rw [ih];rfl
theorem acc_sh (hb:b+n≤8) : ∀{l s:Sm},Ks n s→Ks n l→acc (shS b s) (shS b l)=shS b (acc s l)
 | [],_,_,_=>rfl
 | x::l,s,hs,hl=>by
  have hx:=hl x (by simp)
  have e1:shS b (x::l)=(shM b x.1,x.2)::shS b l:=rfl
  rw [e1,acc_cons,acc_cons]
  simp only
  rw [addS_sh hb hx _ hs]
  exact acc_sh hb (hs.addS hx x.2) fun y hy=>hl y (by simp [hy])
theorem shS_app (s t:Sm):shS b (s++t)=shS b s++shS b t:=by simp [shS]
theorem scl_sh (s:Sm) (k:Int):scl (shS b s) k=shS b (scl s k):=by
 unfold scl shS;rw [List.map_map,List.map_map]
 rfl
theorem Ks.scl {s:Sm} (h:Ks n s) (k:Int):Ks n (G.scl s k):=fun z hz=>by
 obtain ⟨y,hy,e⟩:=scl_key hz
 rw [e]
 exact h y hy
theorem toS_shF (ts:List Term):toS (shF b ts)=shS b (toS ts):=by
 unfold toS shF shS;rw [List.map_map,List.map_map]
 rfl
end
section
variable {b : Nat} {ds es p q : Pw}
theorem oin_sh (hE:Emb b ds es) (hp:Kn ds.length p) (i:Nat) : ∀m:Nat,oin es (shM b p) (b+i) m=oin ds p i m
 | 0=>rfl
 | m+1=>by
  have ih:=oin_sh hE hp i m
  simp only [oin]
  rw [ih,show b+i+1+m=b+(i+1+m) by omega,shM_up hE.hb hp]
  rcases Nat.lt_or_ge (i+1+m) ds.length with h | h
  ·rw [hE.get _ h]
  ·rw [hp.2 _ h,Int.mul_zero,Int.mul_zero]
theorem oin_far (hp:Kn ds.length p) (i:Nat) : ∀m e:Nat,ds.length≤i+1+m→oin ds p i (m+e)=oin ds p i m
 | m,0,_=>rfl
 | m,e+1,h=>by
  have ih:=oin_far hp i m e h
  show oin ds p i (m+e)+(ds.getD (i+1+(m+e)) 0).tmod 2 * p.getD (i+1+(m+e)) 0=_
  rw [ih,hp.2 _ (by omega),Int.mul_zero,Int.add_zero]
theorem oddTo_lo (hE:Emb b ds es) (hq:Kn ds.length q) : ∀i:Nat,i≤b→oddTo es (shM b p) (shM b q) i=0
 | 0,_=>rfl
 | i+1,h=>by
  simp only [oddTo]
  rw [oddTo_lo hE hq i (by omega),shM_lo hE.hb hq (by omega),if_neg (by omega)]
  rfl
theorem oddTo_sh (hE:Emb b ds es) (hp:Kn ds.length p) (hq:Kn ds.length q) : ∀k:Nat,k≤ds.length→oddTo es (shM b p) (shM b q) (b+k)=oddTo ds p q k
 | 0,_=>oddTo_lo hE hq b (Nat.le_refl _)
 | k+1,h=>by
  have ih:=oddTo_sh hE hp hq k (by omega)
  have hn:=hE.hn
  have e:oin es (shM b p) (b+k) (es.length - (b+k+1))=oin ds p k (ds.length - (k+1)):=by
   rw [oin_sh hE hp,show es.length - (b+k+1)=(ds.length - (k+1))+(es.length - (b+ds.length)) by omega,oin_far hp _ _ _ (by omega)]
  show oddTo es (shM b p) (shM b q) (b+k)+(if (es.getD (b+k) 0).tmod 2≠0∧0<(shM b q).getD (b+k) 0 then oin es (shM b p) (b+k) (es.length - (b+k+1)) else 0)=oddTo ds p q k+(if (ds.getD k 0).tmod 2≠0∧0<q.getD k 0 then oin ds p k (ds.length - (k+1)) else 0)
  rw [ih,hE.get k (by omega),shM_up hE.hb hq,e]
theorem oddTo_hi (hE:Emb b ds es) (hp:Kn ds.length p) (hq:Kn ds.length q) : ∀m:Nat,oddTo es (shM b p) (shM b q) (b+ds.length+m)=oddTo ds p q ds.length
 | 0=>oddTo_sh hE hp hq _ (Nat.le_refl _)
 | m+1=>by
  have ih:=oddTo_hi hE hp hq m
  show oddTo es (shM b p) (shM b q) (b+ds.length+m)+(if (es.getD (b+ds.length+m) 0).tmod 2≠0∧0<(shM b q).getD (b+ds.length+m) 0 then _ else 0)=_
  rw [ih,Nat.add_assoc b,shM_up hE.hb hq,hq.2 _ (by omega),if_neg (by omega),Int.add_zero]
theorem hitAt_up (hE:Emb b ds es) (hp:Kn ds.length p) (hq:Kn ds.length q) {j:Nat} (hj:j<ds.length):hitAt es (shM b p) (shM b q) (b+j)=hitAt ds p q j:=by
 unfold hitAt;rw [hE.get j hj,shM_up hE.hb hp,shM_up hE.hb hq]
theorem hits_sh (hE:Emb b ds es) (hp:Kn ds.length p) (hq:Kn ds.length q):hits es (shM b p) (shM b q)=hits ds p q:=by
 have hn:=hE.hn;refine Bool.eq_iff_iff.2 ?_;unfold hits;simp only [List.any_eq_true,List.mem_range]
 constructor
 ·rintro ⟨j,hj,h⟩
  have h0:0<(shM b p).getD j 0:=by
   unfold hitAt at h;simp only [Bool.and_eq_true,decide_eq_true_eq] at h;exact h.2.1
  have h1:b≤j:=by
   rcases Nat.lt_or_ge j b with h2 | h2
   ·rw [shM_lo hE.hb hp h2] at h0;omega
   ·exact h2
  obtain ⟨m,rfl⟩:=Nat.le.dest h1;rw [shM_up hE.hb hp] at h0
  have h2:m<ds.length:=by
   rcases Nat.lt_or_ge m ds.length with h3 | h3
   ·exact h3
   ·rw [hp.2 m h3] at h0;omega
  exact ⟨m,h2,by rw [← hitAt_up hE hp hq h2];exact h⟩
 ·rintro ⟨j,hj,h⟩;exact ⟨b+j,by omega,by rw [hitAt_up hE hp hq hj];exact h⟩
theorem sgn_sh (hE:Emb b ds es) (hp:Kn ds.length p) (hq:Kn ds.length q):sgn es (shM b p) (shM b q)=sgn ds p q:=by
 have hn:=hE.hn;unfold sgn;rw [hits_sh hE hp hq,show es.length=b+ds.length+(es.length - (b+ds.length)) by omega,oddTo_hi hE hp hq]
theorem mul1_cons (ds:Pw) (x y:Pw × Int) (t:Sm):mul1 ds x (y::t)=(if sgn ds x.1 y.1=0 then [] else [(addp x.1 y.1,(sgn ds x.1 y.1 * x.2 * y.2).tmod 10007)])++mul1 ds x t:=by
 unfold mul1;rw [List.flatMap_cons]
theorem mul1_sh (hE:Emb b ds es) {x:Pw × Int} (hx:Kn ds.length x.1) : ∀{t:Sm},Ks ds.length t→mul1 es (shM b x.1,x.2) (shS b t)=shS b (mul1 ds x t)
 | [],_=>rfl
 | y::t,h=>by
  have hy:=h y (by simp)
  have ih:=mul1_sh hE hx (t:=t) fun z hz=>h z (by simp [hz])
  have e1:shS b (y::t)=(shM b y.1,y.2)::shS b t:=rfl
  rw [e1,mul1_cons,mul1_cons,ih,shS_app]
  simp only
  rw [sgn_sh hE hx hy,addp_sh hx hy]
  congr 1
  split <;> rfl
theorem mulL_cons (ds:Pw) (x:Pw × Int) (s t:Sm):mulL ds (x::s) t=mul1 ds x t++mulL ds s t:=by
 unfold mulL;rw [List.flatMap_cons]
theorem mulL_sh (hE:Emb b ds es) {t:Sm} (ht:Ks ds.length t) : ∀{s:Sm},Ks ds.length s→mulL es (shS b s) (shS b t)=shS b (mulL ds s t)
 | [],_=>rfl
 | x::s,h=>by
  have ih:=mulL_sh hE ht (s:=s) fun z hz=>h z (by simp [hz])
  have e1:shS b (x::s)=(shM b x.1,x.2)::shS b s:=rfl
  rw [e1,mulL_cons,mulL_cons,ih,shS_app,mul1_sh hE (h x (by simp)) ht]
theorem Ks.mulL {n:Nat} {s t:Sm} (hs:Ks n s) (ht:Ks n t):Ks n (G.mulL ds s t):=fun z hz=>by
 obtain ⟨x,hx,y,hy,_,e⟩:=mulL_mem hz
 rw [e]
 exact (hs x hx).add (ht y hy)
theorem Ks.times {n:Nat} {s t:Sm} (hs:Ks n s) (ht:Ks n t):Ks n (timesS ds s t):=Ks.nil.acc (hs.mulL ht)
theorem times_sh (hE:Emb b ds es) {s t:Sm} (hs:Ks ds.length s) (ht:Ks ds.length t):timesS es (shS b s) (shS b t)=shS b (timesS ds s t):=by
 unfold timesS;rw [mulL_sh hE ht hs];exact acc_sh hE.hb (s:=[]) Ks.nil (hs.mulL ht)
theorem Kn.left {n:Nat} (hp:Kn n p) {i:Nat} (hi:i<n):Kn n (leftP p i):=⟨by simp,fun j hj=>by
 unfold leftP
 rw [getD_set8,if_neg (by omega)]
 rcases Nat.lt_or_ge j 8 with h | h
 ·rw [aheadP_get h,if_neg (by omega)]
 ·exact getD_ge (by simp;omega)⟩
theorem Kn.beh {n:Nat} (hp:Kn n p) (k:Nat):Kn n (behP p k):=⟨by simp,fun j hj=>by
 rcases Nat.lt_or_ge j 8 with h | h
 ·rw [behP_get h,hp.2 j hj]
  split <;> rfl
 ·exact getD_ge (by simp;omega)⟩
theorem leftP_sh {n:Nat} (hb:b+n≤8) (hp:Kn n p) {i:Nat} (hi:i<n):leftP (shM b p) (b+i)=shM b (leftP p i):=list8 (by simp) (by simp) fun j hj=>by
 rw [shM_get hj]
 unfold leftP
 rw [getD_set8,aheadP_get hj,shM_up hb hp,shM_at hb hp]
 rcases Nat.lt_or_ge j b with h | h
 ·rw [if_neg (by omega),if_pos h,if_pos h]
  split <;> rfl
 ·obtain ⟨m,rfl⟩:=Nat.le.dest h
  rw [if_neg (show ¬b+m<b by omega),if_neg (show ¬b+m<b by omega),Nat.add_sub_cancel_left,getD_set8,aheadP_get (by omega)]
  by_cases e:i=m
  ·subst e
   rw [if_pos ⟨rfl,by simp;omega⟩,if_pos ⟨rfl,by simp;omega⟩]
  ·by_cases h2:m<i
   ·rw [if_neg (by omega),if_pos (by omega),if_neg fun h9=>e h9.1,if_pos h2]
   ·rw [if_neg (by omega),if_neg (by omega),if_neg fun h9=>e h9.1,if_neg h2]
theorem behP_sh {n:Nat} (hb:b+n≤8) (hp:Kn n p) (k:Nat):behP (shM b p) (b+k)=shM b (behP p k):=list8 (by simp) (by simp) fun j hj=>by
 rw [shM_get hj,behP_get hj,shM_at hb hp]
 rcases Nat.lt_or_ge j b with h | h
 ·rw [if_pos (by omega),if_pos h]
 ·rw [if_neg (show ¬j<b by omega),if_neg (show ¬j<b by omega),behP_get (by omega)]
  by_cases h2:j - b<k
  ·rw [if_pos (by omega),if_pos h2]
  ·rw [if_neg (by omega),if_neg h2]
theorem dsg_lo (hE:Emb b ds es) (hp:Kn ds.length p) : ∀i:Nat,i≤b→dsg es (shM b p) i=1
 | 0,_=>rfl
 | i+1,h=>by
  simp only [dsg]
  rw [shM_lo hE.hb hp (by omega),if_neg fun h9=>by have:=h9.2.2;simp at this]
  exact dsg_lo hE hp i (by omega)
theorem dsg_sh (hE:Emb b ds es) (hp:Kn ds.length p) : ∀i:Nat,i≤ds.length→dsg es (shM b p) (b+i)=dsg ds p i
 | 0,_=>dsg_lo hE hp b (Nat.le_refl _)
 | i+1,h=>by
  have ih:=dsg_sh hE hp i (by omega)
  have hn:=hE.hn
  show (if b+i<es.length∧(es.getD (b+i) 0).tmod 2=1∧((shM b p).getD (b+i) 0).tmod 2=1 then 0 - dsg es (shM b p) (b+i) else dsg es (shM b p) (b+i))=(if i<ds.length∧(ds.getD i 0).tmod 2=1∧(p.getD i 0).tmod 2=1 then 0 - dsg ds p i else dsg ds p i)
  rw [ih,hE.get i (by omega),shM_up hE.hb hp]
  by_cases h2:(ds.getD i 0).tmod 2=1∧(p.getD i 0).tmod 2=1
  ·rw [if_pos ⟨by omega,h2⟩,if_pos ⟨by omega,h2⟩]
  ·rw [if_neg fun h9=>h2 h9.2,if_neg fun h9=>h2 h9.2]
theorem dT_sh (hE:Emb b ds es) {im:Sm} (hi:Ks ds.length im) (hp:Kn ds.length p) {i:Nat} (h:i<ds.length):dT es (shS b im) (shM b p) (b+i)=shS b (dT ds im p i):=by
 unfold dT
 have e1:[(leftP (shM b p) (b+i),(1:Int))]=shS b [(leftP p i,1)]:=by rw [leftP_sh hE.hb hp h];rfl
 have e2:[(behP (shM b p) (b+i+1),(1:Int))]=shS b [(behP p (i+1),1)]:=by rw [Nat.add_assoc,behP_sh hE.hb hp];rfl
 rw [e1,e2,times_sh hE (Ks.one (hp.left h) 1) hi,times_sh hE ((Ks.one (hp.left h) 1).times hi) (Ks.one (hp.beh _) 1)]
theorem Ks.dT {im:Sm} (hi:Ks ds.length im) (hp:Kn ds.length p) {i:Nat} (h:i<ds.length):Ks ds.length (G.dT ds im p i):=((Ks.one (hp.left h) 1).times hi).times (Ks.one (hp.beh _) 1)
end
structure EmbF (b:Nat) (ds es:Pw) (fs gs:List (List Term)):Prop extends Emb b ds es where
 im : ∀j,j<ds.length→fm gs (b+j)=shF b (fm fs j)
 ks : ∀j,j<ds.length→Ks ds.length (toS (fm fs j))
section
variable {b : Nat} {ds es : Pw} {fs gs : List (List Term)} {x : Pw × Int}
theorem dP_sh (hE:EmbF b ds es fs gs) (hx:Kn ds.length x.1) {i:Nat} (hi:i<ds.length):dP es gs (shM b x.1,x.2) (b+i)=shS b (dP ds fs x i):=by
 unfold dP;simp only;rw [shM_up hE.hb hx,hE.im i hi,toS_shF,dT_sh hE.toEmb (hE.ks i hi) hx hi,dsg_sh hE.toEmb hx i (by omega),scl_sh]
 split <;> rfl
theorem Ks.dP (hE:EmbF b ds es fs gs) (hx:Kn ds.length x.1) (i:Nat):Ks ds.length (G.dP ds fs x i):=by
 unfold G.dP
 split
 ·rename_i h
  have hi:i<ds.length:=by
   rcases Nat.lt_or_ge i ds.length with h3 | h3
   ·exact h3
   ·rw [hx.2 i h3] at h;omega
  exact (Ks.dT (hE.ks i hi) hx hi).scl _
 ·exact Ks.nil
theorem dP_none {p:Pw × Int} {i:Nat} (h:p.1.getD i 0=0):dP ds fs p i=[]:=by unfold dP;rw [if_neg (by omega)]
theorem dLk_lo (hE:EmbF b ds es fs gs) (hx:Kn ds.length x.1) : ∀i:Nat,i≤b→dLk es gs (shM b x.1,x.2) i=[]
 | 0,_=>rfl
 | i+1,h=>by rw [dLk_succ,dLk_lo hE hx i (by omega),dP_none (shM_lo hE.hb hx (by omega))];rfl
theorem dLk_sh (hE:EmbF b ds es fs gs) (hx:Kn ds.length x.1) : ∀i:Nat,i≤ds.length→dLk es gs (shM b x.1,x.2) (b+i)=shS b (dLk ds fs x i)
 | 0,_=>dLk_lo hE hx b (Nat.le_refl _)
 | i+1,h=>by rw [← Nat.add_assoc,dLk_succ,dLk_succ,dLk_sh hE hx i (by omega),dP_sh hE hx (by omega),shS_app]
theorem dLk_hi (hE:EmbF b ds es fs gs) (hx:Kn ds.length x.1) : ∀m:Nat,dLk es gs (shM b x.1,x.2) (b+ds.length+m)=shS b (dLk ds fs x ds.length)
 | 0=>dLk_sh hE hx _ (Nat.le_refl _)
 | m+1=>by
  rw [← Nat.add_assoc,dLk_succ,dLk_hi hE hx m,dP_none (by simp only;rw [Nat.add_assoc b,shM_up hE.hb hx,hx.2 _ (by omega)]),List.append_nil]
theorem dLk_far (hx:Kn ds.length x.1) : ∀m:Nat,dLk ds fs x (ds.length+m)=dLk ds fs x ds.length
 | 0=>rfl
 | m+1=>by rw [← Nat.add_assoc,dLk_succ,dLk_far hx m,dP_none (hx.2 _ (by omega)),List.append_nil]
theorem dLk_sh8 (hE:EmbF b ds es fs gs) (hx:Kn ds.length x.1):dLk es gs (shM b x.1,x.2) 8=shS b (dLk ds fs x 8):=by
 have hb:=hE.hb;have h1:=dLk_hi hE hx (8 - (b+ds.length));have h2:=dLk_far (fs:=fs) hx (8 - ds.length);rw [show b+ds.length+(8 - (b+ds.length))=8 by omega] at h1;rw [show ds.length+(8 - ds.length)=8 by omega] at h2;rw [h1,h2]
theorem dAll_sh (hE:EmbF b ds es fs gs) : ∀{s:Sm},Ks ds.length s→dAll es gs (shS b s)=shS b (dAll ds fs s)
 | [],_=>rfl
 | x::s,h=>by
  have ih:=dAll_sh hE (s:=s) fun z hz=>h z (by simp [hz])
  have e1:dAll es gs (shS b (x::s))=dLk es gs (shM b x.1,x.2) 8++dAll es gs (shS b s):=rfl
  have e2:dAll ds fs (x::s)=dLk ds fs x 8++dAll ds fs s:=rfl
  rw [e1,e2,ih,shS_app,dLk_sh8 hE (h x (by simp))]
theorem Ks.dAll (hE:EmbF b ds es fs gs) {s:Sm} (h:Ks ds.length s):Ks ds.length (G.dAll ds fs s):=fun z hz=>by
 obtain ⟨x,hx,h1⟩:=List.mem_flatMap.1 hz
 obtain ⟨i,_,h2⟩:=List.mem_flatMap.1 h1
 exact Ks.dP hE (h x hx) i z h2
theorem dS_sh (hE:EmbF b ds es fs gs) {s:Sm} (h:Ks ds.length s):dS es gs (shS b s)=shS b (dS ds fs s):=by
 unfold dS;rw [dAll_sh hE h];exact acc_sh hE.hb (s:=[]) Ks.nil (h.dAll hE)
end
theorem most_nn (ds:List Int) (i:Nat):0≤most ds i:=by
 unfold most
 split
 ·split <;> omega
 ·omega
theorem isMono_kn {ds m:List Int} (h:isMono ds m=true) (hm:Mono m):Kn ds.length m:=⟨hm.len,fun j hj=>by
 rcases Nat.lt_or_ge j 8 with h8 | h8
 ·have h1:=isMono_le h h8
  rw [most_ge (by omega)] at h1
  have:=(hm.bd j).1
  omega
 ·exact getD_ge (by rw [hm.len];omega)⟩
theorem tm_sh {b:Nat} {ts:List Term} {i:Nat} (hi:i<ts.length):tm (shF b ts) i=sh1 b (tm ts i):=by
 unfold tm shF;rw [List.getD_eq_getElem?_getD,List.getD_eq_getElem?_getD,List.getElem?_map,List.getElem?_eq_getElem hi]
 rfl
theorem isForm_mono {ds:List Int} {ts:List Term} (h:isForm ds ts=true) {i:Nat} (hi:i<ts.length):isMono ds (tm ts i).mono=true:=by
 have h1:=isForm_at h hi;unfold goodAt at h1;simp only [Bool.and_eq_true] at h1;exact h1.1.1
theorem Wfs.tm {ts:List Term} (h:Wfs ts) {i:Nat} (hi:i<ts.length):(G.tm ts i).wf:=h _ (by rw [← tm_eq hi];exact List.getElem_mem hi)
theorem isForm_ks {ds:List Int} {ts:List Term} (h:isForm ds ts=true) (hw:Wfs ts):Ks ds.length (toS ts):=fun x hx=>by
 obtain ⟨t,ht,rfl⟩:=toS_mem hx
 obtain ⟨i,hi,rfl⟩:=List.mem_iff_getElem.1 ht
 rw [tm_eq hi]
 exact isMono_kn (isForm_mono h hi) (hw.tm hi).mono
section
variable {b : Nat} {ds es p : Pw} {ts : List Term}
theorem isMono_sh {m:List Int} (hE:Emb b ds es) (h:isMono ds m=true):isMono es (shM b m)=true:=isMono_true fun j hj=>by
 rw [shM_get hj]
 rcases Nat.lt_or_ge j b with h1 | h1
 ·rw [if_pos h1]
  exact most_nn _ _
 ·obtain ⟨k,rfl⟩:=Nat.le.dest h1
  rw [if_neg (by omega),Nat.add_sub_cancel_left]
  have h2:=isMono_le h (j:=k) (by omega)
  rcases Nat.lt_or_ge k ds.length with h3 | h3
  ·have hn:=hE.hn
   have e:most es (b+k)=most ds k:=by
    unfold most
    rw [hE.get k h3,if_pos (by omega),if_pos h3]
   rw [e]
   exact h2
  ·rw [most_ge (by omega)] at h2
   have:=most_nn es (b+k)
   omega
theorem isForm_sh (hE:Emb b ds es) (h:isForm ds ts=true) (hw:Wfs ts):isForm es (shF b ts)=true:=by
 have h4:=isForm_len4 h;unfold isForm;rw [shF_len,decide_eq_true h4,Bool.true_and];refine List.all_eq_true.2 fun i hi=>?_
 have hi':i<ts.length:=by simpa using hi
 have h1:=isForm_at h hi';unfold goodAt at h1 ⊢;simp only [Bool.and_eq_true,Bool.or_eq_true] at h1 ⊢;obtain ⟨⟨h2,h3⟩,h5⟩:=h1;refine ⟨⟨?_,?_⟩,?_⟩
 ·rw [tm_sh hi'];exact isMono_sh hE h2
 ·rw [tm_sh hi'];exact h3
 ·rcases h5 with h5 | h5
  ·exact .inl h5
  ·have hi2:i - 1<ts.length:=by omega
   rw [tm_sh hi',tm_sh hi2];exact .inr ((shM_before hE.hb (isMono_kn (isForm_mono h hi2) (hw.tm hi2).mono) (isMono_kn h2 (hw.tm hi').mono)).trans h5)
theorem wsum_lo (hE:Emb b ds es) (hp:Kn ds.length p) : ∀i:Nat,i≤b→wsum es (shM b p) i=0
 | 0,_=>rfl
 | i+1,h=>by
  simp only [wsum]
  rw [wsum_lo hE hp i (by omega),shM_lo hE.hb hp (by omega),Int.mul_zero]
  rfl
theorem wsum_sh (hE:Emb b ds es) (hp:Kn ds.length p) : ∀k:Nat,k≤ds.length→wsum es (shM b p) (b+k)=wsum ds p k
 | 0,_=>wsum_lo hE hp b (Nat.le_refl _)
 | k+1,h=>by
  have ih:=wsum_sh hE hp k (by omega)
  show wsum es (shM b p) (b+k)+es.getD (b+k) 0 * (shM b p).getD (b+k) 0=wsum ds p k+ds.getD k 0 * p.getD k 0
  rw [ih,hE.get k (by omega),shM_up hE.hb hp]
theorem wsum_hi (hE:Emb b ds es) (hp:Kn ds.length p) : ∀m:Nat,wsum es (shM b p) (b+ds.length+m)=wsum ds p ds.length
 | 0=>wsum_sh hE hp _ (Nat.le_refl _)
 | m+1=>by
  have ih:=wsum_hi hE hp m
  show wsum es (shM b p) (b+ds.length+m)+es.getD (b+ds.length+m) 0 * (shM b p).getD (b+ds.length+m) 0=_
  rw [ih,Nat.add_assoc b,shM_up hE.hb hp,hp.2 _ (by omega),Int.mul_zero,Int.add_zero]
theorem wsum_all (hE:Emb b ds es) (hp:Kn ds.length p):wsum es (shM b p) es.length=wsum ds p ds.length:=by
 have hn:=hE.hn;have h1:=wsum_hi hE hp (es.length - (b+ds.length))
 rwa [show b+ds.length+(es.length - (b+ds.length))=es.length by omega] at h1
theorem wd_sh (hE:Emb b ds es) (hk:Ks ds.length (toS ts)) {i:Nat} (hi:i<ts.length):wd es (shF b ts) i=wd ds ts i:=by
 unfold wd;rw [tm_sh hi];exact wsum_all hE (hk ((tm ts i).mono,(tm ts i).fac) (List.mem_map.2 ⟨tm ts i,by rw [← tm_eq hi];exact List.getElem_mem hi,rfl⟩))
theorem homog_sh (hE:Emb b ds es) (hk:Ks ds.length (toS ts)):homog es (shF b ts)=homog ds ts:=by
 unfold homog;rw [shF_len];refine Bool.eq_iff_iff.2 ?_;simp only [List.all_eq_true,List.mem_range,decide_eq_true_eq]
 constructor
 ·intro h i hi;have h1:=h i hi
  rwa [wd_sh hE hk hi,wd_sh hE hk (by omega)] at h1
 ·intro h i hi;rw [wd_sh hE hk hi,wd_sh hE hk (by omega)];exact h i hi
theorem degF_sh (hE:Emb b ds es) (hk:Ks ds.length (toS ts)):degF es (shF b ts)=degF ds ts:=by
 unfold degF;rw [homog_sh hE hk]
 have e:outAt es (shF b ts) (shF b ts).length=outAt ds ts ts.length:=by
  unfold outAt;rw [shF_len]
  split
  ·rfl
  ·exact wd_sh hE hk (by omega)
 rw [e]
theorem degOk_sh (hE:Emb b ds es) (hk:Ks ds.length (toS ts)) (x:Int):degOk es (shF b ts) x=degOk ds ts x:=by
 unfold degOk;rw [homog_sh hE hk,degF_sh hE hk]
end
theorem noD_at {ds:List Int} {fs:List (List Term)} (h:noD ds fs=true) {i:Nat} (hi:i<fs.length):(dS ds fs (toS (fm fs i))).length=0:=by
 unfold noD at h
 simpa using List.all_eq_true.1 h i (by simpa using hi)
theorem isAlg_parts {ds:List Int} {fs:List (List Term)} (h:isAlg ds fs=true):isDeg ds=true∧fs.length=ds.length∧imsOk ds fs=true∧noD ds fs=true:=by
 unfold isAlg at h;simp only [Bool.and_eq_true,decide_eq_true_eq] at h;exact ⟨h.1.1.1,h.1.1.2,h.1.2,h.2⟩
theorem isAlg_of {ds:List Int} {fs:List (List Term)} (h1:isDeg ds=true) (h2:fs.length=ds.length) (h3 : ∀i,i<fs.length→imOk ds fs i=true∧(dS ds fs (toS (fm fs i))).length=0):isAlg ds fs=true:=by
 unfold isAlg;rw [h1,decide_eq_true h2,imsOk_good fun i hi=>(h3 i hi).1,noD_good fun i hi=>(h3 i hi).2]
 rfl
theorem alg_ks {ds:List Int} {fs:List (List Term)} (h:isAlg ds fs=true) (hw:Wfss fs) {j:Nat} (hj:j<ds.length):Ks ds.length (toS (fm fs j)):=by
 have h1:=isAlg_ok h hw;exact isForm_ks (h1.ok j (by rw [h1.hl];exact hj)) (hw.fm j)
theorem emb_one {b:Nat} {ds es:List Int} {fs gs:List (List Term)} (hE:EmbF b ds es fs gs) (h:isAlg ds fs=true) (hw:Wfss fs) {j:Nat} (hj:j<ds.length):imOk es gs (b+j)=true∧(dS es gs (toS (fm gs (b+j)))).length=0:=by
 obtain ⟨h1,h2,h3,h4⟩:=isAlg_parts h;have hi:=imsOk_at h3 (i:=j) (by omega);have hz:=noD_at h4 (i:=j) (by omega);have hk:=hE.ks j hj;unfold imOk at hi ⊢;rw [Bool.and_eq_true_iff] at hi ⊢;rw [hE.im j hj,hE.get j hj];refine ⟨⟨isForm_sh hE.toEmb hi.1 (hw.fm j),(degOk_sh hE.toEmb hk _).trans hi.2⟩,?_⟩;rw [toS_shF,dS_sh hE hk]
 simpa [shS] using hz
theorem getD_lf {ds es:List Int} {j:Nat} (h:j<ds.length):(ds++es).getD j 0=ds.getD j 0:=by rw [List.getD_eq_getElem?_getD,List.getElem?_append_left h,← List.getD_eq_getElem?_getD]
theorem getD_rt {ds es:List Int} (j:Nat):(ds++es).getD (ds.length+j) 0=es.getD j 0:=by rw [List.getD_eq_getElem?_getD,List.getElem?_append_right (by omega),Nat.add_sub_cancel_left,← List.getD_eq_getElem?_getD]
theorem fm_lf {fs gs:List (List Term)} {j:Nat} (h:j<fs.length):fm (fs++gs) j=fm fs j:=by unfold fm;rw [List.getD_eq_getElem?_getD,List.getElem?_append_left h,← List.getD_eq_getElem?_getD]
theorem fm_rt {fs gs:List (List Term)} (j:Nat):fm (fs++gs) (fs.length+j)=fm gs j:=by unfold fm;rw [List.getD_eq_getElem?_getD,List.getElem?_append_right (by omega),Nat.add_sub_cancel_left,← List.getD_eq_getElem?_getD]
theorem fm_cpA {b:Nat} {fs:List (List Term)} {j:Nat} (h:j<fs.length):fm (cpA b fs) j=shF b (fm fs j):=by
 unfold fm cpA;rw [List.getD_eq_getElem?_getD,List.getD_eq_getElem?_getD,List.getElem?_map,List.getElem?_eq_getElem h]
 rfl
theorem isDeg_app {ds es:List Int} (h1:isDeg ds=true) (h2:isDeg es=true) (h8:ds.length+es.length≤8):isDeg (ds++es)=true:=by
 unfold isDeg at h1 h2 ⊢;rw [Bool.and_eq_true_iff] at h1 h2 ⊢;exact ⟨decide_eq_true (by rw [List.length_append];exact h8),by rw [List.all_append,h1.2,h2.2];rfl⟩
theorem emb_left {ds es:List Int} {fs gs:List (List Term)} (h:isAlg ds fs=true) (hw:Wfss fs) (h8:ds.length+es.length≤8):EmbF 0 ds (ds++es) fs (fs++gs):=by
 obtain ⟨h1,h2,h3,h4⟩:=isAlg_parts h;refine ⟨⟨by rw [List.length_append];omega,by rw [List.length_append];exact h8,fun j hj=>?_⟩,fun j hj=>?_,fun j hj=>alg_ks h hw hj⟩
 ·rw [Nat.zero_add];exact getD_lf hj
 ·rw [Nat.zero_add,fm_lf (by omega),shF_zero (hw.fm j)]
theorem prod_isAlg {ad bd:List Int} {af bf:List (List Term)} (h1:isAlg ad af=true) (h2:isAlg bd bf=true) (hw1:Wfss af) (hw2:Wfss bf) (h8:ad.length+bd.length≤8):isAlg (ad++bd) (af++cpA ad.length bf)=true:=by
 obtain ⟨a1,a2,_,_⟩:=isAlg_parts h1;obtain ⟨b1,b2,_,_⟩:=isAlg_parts h2;refine isAlg_of (isDeg_app a1 b1 h8) (by rw [List.length_append,List.length_append,cpA_len];omega) fun i hi=>?_;rw [List.length_append,cpA_len] at hi
 rcases Nat.lt_or_ge i ad.length with h | h
 ·have h3:=emb_one (emb_left (es:=bd) (gs:=cpA ad.length bf) h1 hw1 h8) h1 hw1 h
  rwa [Nat.zero_add] at h3
 ·obtain ⟨j,rfl⟩:=Nat.le.dest h
  have hE:EmbF ad.length bd (ad++bd) bf (af++cpA ad.length bf):=by
   refine ⟨⟨by rw [List.length_append];omega,by rw [List.length_append];exact h8,fun j _=>getD_rt j⟩,fun j hj=>?_,fun j hj=>alg_ks h2 hw2 hj⟩;rw [← a2,fm_rt,fm_cpA (by omega)]
  exact emb_one hE h2 hw2 (by omega)
theorem snoc_isAlg {ds:List Int} {fs:List (List Term)} {n:Int} {ts:List Term} (h1:isAlg ds fs=true) (hw:Wfss fs) (h8:ds.length<8) (hn:1≤n∧n≤12) (hf:isForm ds ts=true) (ht:Wfs ts) (hd:degOk ds ts (n+1)=true) (hz:(dS ds fs (toS ts)).length=0):isAlg (ds++[n]) (fs++[ts])=true:=by
 obtain ⟨a1,a2,_,_⟩:=isAlg_parts h1
 have hN:isDeg [n]=true:=by
  unfold isDeg;simp only [List.length_singleton,List.all_cons,List.all_nil,decide_eq_true hn.1,decide_eq_true hn.2]
  rfl
 have hE:=emb_left (es:=[n]) (gs:=[ts]) h1 hw (by simp only [List.length_singleton];omega);refine isAlg_of (isDeg_app a1 hN (by simp only [List.length_singleton];omega)) (by rw [List.length_append,List.length_append];simp only [List.length_singleton];omega) fun i hi=>?_;rw [List.length_append,List.length_singleton] at hi
 rcases Nat.lt_or_ge i ds.length with h | h
 ·have h3:=emb_one hE h1 hw h
  rwa [Nat.zero_add] at h3
 ·obtain rfl:i=fs.length+0:=by omega
  have hk:=isForm_ks hf ht;have e1:fm (fs++[ts]) (fs.length+0)=ts:=fm_rt 0
  have e2:(ds++[n]).getD (fs.length+0) 0=n:=by rw [a2];exact getD_rt 0
  have f1:=isForm_sh hE.toEmb hf ht;have f2:=degOk_sh hE.toEmb hk (n+1);have f3:=dS_sh hE hk;rw [shF_zero ht] at f1 f2;unfold imOk;rw [e1,e2,f1,f2,hd];refine ⟨rfl,?_⟩;rw [← toS_shF,shF_zero ht] at f3;rw [f3]
  simpa [shS] using hz
theorem pr_isAlg {ad bd:List Int} {af bf:List (List Term)} (hw1:Wfss af) (hw2:Wfss bf) (h:prC ad af bd bf=0):isAlg (prD ad af bd bf) (prF ad af bd bf)=true∧(prD ad af bd bf).length=ad.length+bd.length:=by
 cases h1:prOk ad af bd bf with
 | false=>rw [(pr_bad h1).2.2] at h;cases h
 | true=>
  rcases Nat.lt_or_ge 8 (ad.length+bd.length) with h2 | h2
  ·rw [(pr_big h1 (by omega)).2.2] at h;cases h
  ·obtain ⟨e1,e2,_⟩:=pr_yes h1 h2;have h3:=Bool.and_eq_true_iff.1 h1;rw [e1,e2];exact ⟨prod_isAlg h3.1 h3.2 hw1 hw2 h2,List.length_append⟩
theorem wg_isAlg {ds:List Int} {fs:List (List Term)} {ts:List Term} {n:Int} (hw:Wfss fs) (ht:Wfs ts) (h:wgC ds fs ts n=0):isAlg (wgD ds fs ts n) (wgF ds fs ts n)=true∧ds.length<(wgF ds fs ts n).length∧fm (wgF ds fs ts n) ds.length=ts:=by
 have hz1:wg1 ds fs ts n=0:=by
  by_cases h1:wg1 ds fs ts n=0
  ·exact h1
  ·rw [(wg_pre h1).2.2] at h;exact absurd h h1
 cases hs:wgSt ds fs ts n with
 | false=>rw [(wg_st hz1 hs).2.2] at h;cases h
 | true=>
  by_cases h8:ds.length=8
  ·rw [(wg_lim hz1 hs h8).2.2] at h;cases h
  ·obtain ⟨e1,e2,_⟩:=wg_fin hz1 hs h8;obtain ⟨hAF,hIn⟩:=wg1_z hz1;have hAF:=Bool.and_eq_true_iff.1 hAF;have hl:=isAlg_len hAF.1;unfold wgSt at hs;rw [Bool.and_eq_true_iff] at hs;rw [e1,e2];refine ⟨snoc_isAlg hAF.1 hw (by omega) (wgIn_bd hIn) hAF.2 ht hs.1 (of_decide_eq_true hs.2),by rw [List.length_append,List.length_singleton];omega,?_⟩;rw [← hl.2];exact fm_rt (gs:=[ts]) 0
def zP:Pw:=List.replicate 8 0
def dnL (t:Int):List Int:=((List.range (t+1).toNat).map fun k:Nat=>(k:Int)).reverse
theorem dnL_neg {t:Int} (h:t<0):dnL t=[]:=by
 unfold dnL;rw [show (t+1).toNat=0 by omega]
 rfl
theorem dnL_succ {t:Int} (h:0≤t):dnL t=t::dnL (t - 1):=by
 obtain ⟨n,rfl⟩ : ∃n:Nat,t=n:=⟨t.toNat,by omega⟩;unfold dnL;rw [show ((n:Int)+1).toNat=n+1 by omega,show ((n:Int) - 1+1).toNat=n by omega,List.range_succ,List.map_append,List.reverse_append]
 rfl
theorem dnL_mem {k t:Int}:k∈dnL t↔0≤k∧k≤t:=by
 unfold dnL;simp only [List.mem_reverse,List.mem_map,List.mem_range]
 constructor
 ·rintro ⟨a,h1,rfl⟩
  omega
 ·intro h;exact ⟨k.toNat,by omega,by omega⟩
def topM (d n:Int):Int:=if d.tmod 2=1 then min (min (n.tdiv d) 20) 1 else min (n.tdiv d) 20
theorem topM_bd {d n k:Int} (h:k≤topM d n):k≤20∧(d.tmod 2=1→k≤1):=by
 unfold topM at h
 split at h
 ·omega
 ·exact ⟨by omega,fun e=>absurd e (by assumption)⟩
def enumF:List Int→Nat→List Int→Int→List (List Int)
 | [],_,m,n=>if n=0 then [m] else []
 | d::ds,i,m,n=>(dnL (topM d n)).flatMap fun k=>enumF ds (i+1) (m.set i k) (n - k * d)
def wsF:List Int→List Int→Nat→Int
 | [],_,_=>0
 | d::ds,p,i=>d * p.getD i 0+wsF ds p (i+1)
theorem enumF_mem : ∀{ds:List Int} {i:Nat} {m p:List Int} {n:Int},i+ds.length≤8→m.length=8→p∈enumF ds i m n→p.length=8∧(∀j,j<i∨i+ds.length≤j→p.getD j 0=m.getD j 0)∧(∀t,t<ds.length→0≤p.getD (i+t) 0∧p.getD (i+t) 0≤20∧((ds.getD t 0).tmod 2=1→p.getD (i+t) 0≤1))∧wsF ds p i=n
 | [],i,m,p,n,_,hm,h=>by
  simp only [enumF] at h
  split at h
  ·rw [List.mem_singleton.1 h]
   exact ⟨hm,fun j _=>rfl,fun t ht=>by simp at ht,by simp [wsF, *]⟩
  ·simp at h
 | d::ds,i,m,p,n,hi,hm,h=>by
  simp only [enumF,List.mem_flatMap] at h
  obtain ⟨k,hk,h⟩:=h
  simp only [List.length_cons] at hi
  obtain ⟨h1,h2,h3,h4⟩:=enumF_mem (ds:=ds) (by omega) (by simpa using hm) h
  have hpi:p.getD i 0=k:=by
   rw [h2 i (.inl (by omega)),getD_set8,if_pos ⟨rfl,by omega⟩]
  have hk2:=dnL_mem.1 hk
  have hk3:=topM_bd hk2.2
  refine ⟨h1,fun j hj=>?_,fun t ht=>?_,?_⟩
  ·simp only [List.length_cons] at hj
   rw [h2 j (by omega),getD_set8,if_neg (by omega)]
  ·cases t with
   | zero=>rw [Nat.add_zero,hpi];exact ⟨hk2.1,hk3.1,hk3.2⟩
   | succ t=>
    have:=h3 t (by simpa using ht)
    rw [show i+1+t=i+(t+1) by omega] at this
    exact this
  ·simp only [wsF]
   rw [h4,hpi,Int.mul_comm]
   omega
def monS (ds:List Int) (n:Int):List Pw:=enumF ds 0 zP n
def capL (M:Nat) (a b:List Pw):List Pw:=a++b.take (M - a.length)
theorem capL_nil (M:Nat) (a:List Pw):capL M a []=a:=by simp [capL]
theorem capL_full {M:Nat} {a:List Pw} (h:M≤a.length) (b:List Pw):capL M a b=a:=by unfold capL;rw [show M - a.length=0 by omega,List.take_zero,List.append_nil]
theorem capL_app (M:Nat) (a b c:List Pw):capL M (capL M a b) c=capL M a (b++c):=by
 unfold capL;rw [List.append_assoc,List.take_append,List.length_append,List.length_take]
 congr 3
 omega
theorem capL_one {M:Nat} {a:List Pw} (h:a.length<M) (p:Pw):capL M a [p]=a++[p]:=by
 unfold capL;rw [List.take_of_length_le (by simp;omega)]
theorem capL_zero (M:Nat) (b:List Pw):capL M [] b=b.take M:=by simp [capL]
theorem enum_end {ds:List Int} {i:Nat} {m:Pw} {n:Int} (hi:i=ds.length):enumF (ds.drop i) i m n=if n=0 then [m] else []:=by
 subst hi;rw [List.drop_length]
 rfl
abbrev enS (ds:List Int) (i:Nat) (m:Pw) (n:Int):List Pw:=enumF (ds.drop i) i m n
def enG (ds:List Int) (i:Nat) (m:Pw) (n e:Int):List Pw:=enS ds (i+1) (m.set i e) (n - e * ds.getD i 0)
theorem enum_go {ds:List Int} {i:Nat} {m:Pw} {n:Int} (hi:i<ds.length):enS ds i m n=(dnL (topM (ds.getD i 0) n)).flatMap (enG ds i m n):=by
 unfold enS enG;rw [List.drop_eq_getElem_cons hi]
 have:ds.getD i 0=ds[i]:=by simp [List.getD_eq_getElem?_getD,List.getElem?_eq_getElem hi]
 rw [this]
 rfl
theorem enG_set {ds:List Int} {i:Nat} {m mm:Pw} {n e:Int} (h : ∀v:Int,mm.set i v=m.set i v):enS ds (i+1) (mm.set i e) (n - e * ds.getD i 0)=enG ds i m n e:=by unfold enG;rw [h]
structure EnI (ds:List Int) (i:Nat) (m:Pw) (n e:Int) (A:List Pw) (mm:Pw):Prop where
 len:mm.length=8
 set : ∀v:Int,mm.set i v=m.set i v
 eq:A++(dnL e).flatMap (enG ds i m n)=enS ds i m n
 lo : -1000001≤e
 hi:e≤topM (ds.getD i 0) n
theorem topM_20 (d n:Int):topM d n≤20:=by unfold topM;split <;> omega
theorem tdiv_b {n d:Int} (hd:1≤d) (hn : -1000000≤n∧n≤1000000) : -1000000≤n.tdiv d∧n.tdiv d≤1000000:=by
 rcases Int.le_total 0 n with h | h
 ·rw [Int.tdiv_eq_ediv_of_nonneg h];have h1:=Int.ediv_nonneg h (by omega:0≤d);have h2:=Int.ediv_le_self d h
  omega
 ·have e:n = -(-n):=by omega
  rw [e,Int.neg_tdiv,Int.tdiv_eq_ediv_of_nonneg (by omega)];have h1:=Int.ediv_nonneg (by omega:0≤ -n) (by omega:0≤d);have h2:=Int.ediv_le_self d (by omega:0≤ -n)
  omega
theorem topM_lo {d n:Int} (hd:1≤d) (hn : -1000000≤n∧n≤1000000) : -1000000≤topM d n:=by
 have:=tdiv_b hd hn;unfold topM
 split <;> omega
theorem EnI.start {ds:List Int} {i:Nat} {m:Pw} {n:Int} (hm:m.length=8) (hi:i<ds.length) (hd:1≤ds.getD i 0) (hn : -1000000≤n∧n≤1000000):EnI ds i m n (topM (ds.getD i 0) n) [] m:=
 ⟨hm,fun _=>rfl,by rw [enum_go hi];rfl,by have:=topM_lo hd hn;omega,Int.le_refl _⟩
theorem EnI.next {ds:List Int} {i:Nat} {m mm:Pw} {n e:Int} {A:List Pw} (h:EnI ds i m n e A mm) (he:0≤e):EnI ds i m n (e - 1) (A++enG ds i m n e) (mm.set i e):=
 ⟨by simpa using h.len,fun v=>by rw [List.set_set];exact h.set v,by rw [← h.eq,dnL_succ he,List.flatMap_cons,List.append_assoc],by omega,by have:=h.hi;omega⟩
theorem EnI.end {ds:List Int} {i:Nat} {m mm:Pw} {n e:Int} {A:List Pw} (h:EnI ds i m n e A mm) (he:e<0):A=enS ds i m n:=by
 rw [← h.eq,dnL_neg he]
 simp
theorem left_b {d n k:Int} (hd:1≤d∧d≤12) (hk:0≤k) (ht:k≤topM d n) (hn : -1000000≤n∧n≤1000000):(0≤k * d∧k * d≤240)∧ -1000000≤n - k * d∧n - k * d≤1000000:=by
 have h20:=topM_20 d n;have h0:0≤k * d:=Int.mul_nonneg hk (by omega);have h1:k * d≤20 * 12:=Int.mul_le_mul (by omega) hd.2 (by omega) (by omega);refine ⟨⟨h0,by omega⟩,?_,by omega⟩
 rcases Int.le_total 0 n with hn0 | hn0
 ·omega
 ·have h2:k=0:=by
   have h3:n.tdiv d≤0:=by
    have e:n = -(-n):=by omega
    rw [e,Int.neg_tdiv,Int.tdiv_eq_ediv_of_nonneg (by omega)];have:=Int.ediv_nonneg (by omega:0≤ -n) (by omega:0≤d)
    omega
   unfold topM at ht
   split at ht <;> omega
  rw [h2]
  omega
theorem min_if (i j:Int):(if j<i then j else i)=min i j:=by omega
theorem not_f {b:Bool} (h:(!b)=true):b=false:=by cases b <;> simp_all
theorem not_t {b:Bool} (h:(!b)=false):b=true:=by cases b <;> simp_all
theorem rep_get (n k:Nat):(List.replicate n (0:Int)).getD k 0=0:=by
 rw [List.getD_eq_getElem?_getD,List.getElem?_replicate]
 split <;> rfl
theorem mon_pok {ds:List Int} {n:Int} (h8:ds.length≤8) {p:Pw} (hp:p∈monS ds n):Pok 20 p:=by
 have h:=enumF_mem (by omega) rfl hp;refine ⟨h.1,fun j=>?_⟩
 by_cases hj:j<ds.length
 ·have:=h.2.2.1 j hj;rw [Nat.zero_add] at this
  omega
 ·have:=h.2.1 j (.inr (by omega));rw [this,show zP=List.replicate 8 0 from rfl,rep_get];omega
theorem mon_ex {ds:List Int} {n:Int} (h8:ds.length≤8) {p:Pw} (hp:p∈monS ds n) (hd : ∀j,j<ds.length→1≤ds.getD j 0∧ds.getD j 0≤12):Ex ds p:=by
 have h:=enumF_mem (by omega) rfl hp;refine ⟨fun i hi=>?_,fun i hi ho=>?_⟩
 ·have:=h.2.1 i (.inr (by omega));rw [this,show zP=List.replicate 8 0 from rfl,rep_get]
 ·have h1:=h.2.2.1 i hi;rw [Nat.zero_add] at h1;refine h1.2.2 ?_;have:=hd i hi;have:=tmod_two (d:=ds.getD i 0) (by omega)
  omega
theorem u147:Tryz.prog.underlying 147=some (TypeDesc.slice 87):=by kernel_rfl
theorem by87:Bytes Tryz.prog 87 8:=by unfold Bytes;kernel_rfl
theorem fn129:Fn Tryz.prog 129:=⟨_,Tryz.func129,by kernel_rfl,rfl⟩
theorem EnI.stop {ds:List Int} {i:Nat} {m mm:Pw} {n e:Int} {A acc:List Pw} (h:EnI ds i m n e A mm) (hl:401≤(capL 401 acc A).length):capL 401 acc A=capL 401 acc (enS ds i m n):=by
 rw [← h.eq,← capL_app,capL_full hl]
theorem EnI.stop2 {ds:List Int} {i:Nat} {m mm:Pw} {n e:Int} {A acc:List Pw} (h:EnI ds i m n e A mm) (he : ¬0≤e):capL 401 acc A=capL 401 acc (enS ds i m n):=by rw [← h.end (by omega)]
theorem topS_odd {d n:Int} (h0:1≤d) (h:d.tmod 2≠0):min (min (n.tdiv d) 1) 20=topM d n:=by
 have:=tmod_two (d:=d) (by omega);rw [topM,if_pos (by omega)]
 omega
theorem topS_even {d n:Int} (h : ¬d.tmod 2≠0):min (n.tdiv d) 20=topM d n:=by
 rw [topM,if_neg (by omega)]
theorem Mono.set {m:List Int} (h:Mono m) {i:Nat} {e:Int} (he:0≤e∧e≤255):Mono (m.set i e):=⟨by rw [List.length_set];exact h.len,fun j=>by
 rw [getD_set8]
 split
 ·exact he
 ·exact h.bd j⟩
structure EnB (ds:List Int) (i:Nat) (m:Pw) (n e:Int) (A:List Pw) (mm:Pw):Prop where
 en:EnI ds i m n e A mm
 mo:Mono mm
theorem l01FillX_c {B:World} {H0 H:HP} {L:List SA} {w:World} {qds:Option Addr} {cds:Nat} {ds:List Int} {m:List Int} {i:Nat} {n:Int} {qo:Option Addr} {co:Nat} {acc:List Pw} (hds:Ints H qds ds) (hm:Mono m) (hd : ∀j,j<ds.length→1≤ds.getD j 0∧ds.getD j 0≤12) (hi:i≤ds.length) (h8:ds.length≤8) (hn : -1000000≤n∧n≤1000000) (ha:acc.length≤400) (hrec:i<ds.length→∀(m':Pw) (n':Int) (acc':List Pw) (qo':Option Addr) (co':Nat),Mono m' → -1000000≤n' ∧n' ≤1000000→acc'.length≤400→∀(L:List SA) (w:World),Hp B H0 H (own 87 8 qo' acc'.length co' (msC acc')::L) w→Calls Tryz.prog 129 [.slice qds ds.length cds,.agg (bytesC m').toArray,.int .i64 ((i+1:Nat):Int),.int .i64 n',.slice qo' acc'.length co'].toArray w fun r w'=>∃q c,r = .returned (.slice q (capL 401 acc' (enS ds (i+1) m' n')).length c)∧Hp B H0 H (own 87 8 q (capL 401 acc' (enS ds (i+1) m' n')).length c (msC (capL 401 acc' (enS ds (i+1) m' n')))::L) w') (hH:Hp B H0 H (own 87 8 qo acc.length co (msC acc)::L) w):Calls Tryz.prog 129 [.slice qds ds.length cds,.agg (bytesC m).toArray,.int .i64 (i:Int),.int .i64 n,.slice qo acc.length co].toArray w fun e w'=>∃q c,e = .returned (.slice q (capL 401 acc (enS ds i m n)).length c)∧Hp B H0 H (own 87 8 q (capL 401 acc (enS ds i m n)).length c (msC (capL 401 acc (enS ds i m n)))::L) w':=by
 refine JD Tryz.func129 rfl 68 rfl rfl [(0,.slice qds ds.length cds),(1,.agg (bytesC m).toArray),(2,.int .i64 (i:Int)),(3,.int .i64 n),(4,.slice qo acc.length co)] rfl hH ?_;have hml:=hm.len;clear hH;refine Jd fun _ hK1 _=>(Jb (Eo rfl rfl rfl fun g6=>(Jg (Je rfl) rfl (Jf (Ja (hK1 (Jd fun _ hK2 _=>(Jd fun _ hK3 _=>(Jb (Jg (Jc rfl) rfl (Jg (Jc rfl) rfl (Jg (Jr u24 rfl rfl) rfl (Jg (En rfl rfl) rfl (Jf (Ja (hK3 ?_))))))))))))))));refine Jp rfl (fun h16=>?_) (fun h16=>?_)
 ·
  refine Jd fun _ hK4 _=>(Jd fun _ hK5 _=>(Jb (Jg (Jc rfl) rfl (Jg (En rfl rfl) rfl (Jf (Ja (hK5 (Jp rfl (fun h18=>?_) (fun h18=>?_)))))))))
  ·
   refine Jd fun _ hK6 _=>(Jb (Jg (Jc rfl) rfl (Jg (Jl rfl At.z (by simpa [*] using ag87)) rfl (EX (MK.lit8 cf8B u147 ze87 rfl sz87 hm.len rfl) rfl fun qo21 co21=>(J.append8 cf8B u147 ze87 rfl sz87 by87 rfl rfl rfl (by omega) .z (.s .z) (fun _ _=>(.s .z)) rfl fun qo22 co22=>(Jg (Je rfl) rfl (Jf (Ja (hK6 (Jt (Jn (Jn (Jy rfl (Res.tmp rfl) fun w hH=>?_)))))))))))));replace hH:=hH.sublist (.cons _ (.cons _ (.cons_cons _ (List.Sublist.refl _))));rw [show enS ds i m n=[m] from by rw [enS,enum_end (by omega),if_pos h18],capL_one (by omega),List.length_append];exact ⟨qo22,co22,rfl,hH⟩
  ·
   refine Jo (Ja (hK4 (Jd fun _ hK7 _=>(Jb (Jg (Jc rfl) rfl (Jg (Je rfl) rfl (Jf (Ja (hK7 (Jt (Jn (Jy rfl (Res.tmp rfl) fun w hH=>?_))))))))))));replace hH:=hH.sublist (.cons _ (.cons_cons _ (List.Sublist.refl _)));rw [show enS ds i m n=[] from by rw [enS,enum_end (by omega),if_neg h18],capL_nil];exact ⟨qo,co,rfl,hH⟩
 ·
  have hil:i<ds.length:=by omega
  have hdi:=hd i hil;have htb:=tdiv_b hdi.1 hn;have htt:=tmod_bd n;have hts:=topM_20 (ds.getD i 0) n;have htl:=topM_lo hdi.1 hn;refine Jo (Ja (hK2 (Jd fun _ hK8 _=>(Jb (Jg (Jc rfl) rfl (Jg (Jc rfl) rfl (Jg (Jc rfl) rfl (Jg (Eg u24 sz2 rfl rfl rfl hil hds.sm) rfl (Jg (JX rfl (hds _ hil) pl2) rfl (Jg (PR.quo rfl rfl (by omega) (nw _ (by omega))) rfl (Jg (Je rfl) rfl (Jf (Ja (hK8 (EL (σ:=Int) (fun (t:Int)=>[(11,.int .i64 t)]) (fun (t:Int)=>H) (fun (t:Int)=>obj g6 (.cells (bytesC m).toArray 87 (0,0))::own 87 8 qo acc.length co (msC acc)::L) (fun (t:Int)=>min t 20=topM (ds.getD i 0) n) ?_ ?_)))))))))))))))
  ·
   intro _ hMt1;refine Jd fun _ hK9 _=>(Jb (Jg (Jc rfl) rfl (Jg (Jc rfl) rfl (Jg (Eg u24 sz2 rfl rfl rfl hil hds.sm) rfl (Jg (JX rfl (hds _ hil) pl2) rfl (Jg (ER rfl rfl (by decide) rfl) rfl (Jg (Ew rfl rfl) rfl (Jf (Ja (hK9 (Jp rfl (fun h35=>?_) (fun h35=>?_))))))))))))
   ·
    refine Jb (Jg (Jc rfl) rfl (Jg (PR.min2 rfl rfl) rfl (Jg (Je rfl) rfl (Jf (Ja ?_)))));exact hMt1 (min (n.tdiv (ds.getD i 0)) 1) (topS_odd hdi.1 h35) 9 rfl rfl ⟨(vi (min_if _ _)),trivial⟩ rfl rfl
   ·
    refine Jo (Ja ?_);exact hMt1 (n.tdiv (ds.getD i 0)) (topS_even h35) 6 rfl rfl ⟨rfl,trivial⟩ rfl rfl
  ·
   rintro t ht;refine Jd fun _ hK10 _=>(Jd fun _ hK11 _=>(Jb (Jg (Jc rfl) rfl (Jg (PR.eqv (v':=.int .i64 (topM (ds.getD i 0) n)) (by rw [min_if,ht]) (PR.min2 rfl rfl)) rfl (Jg (Je rfl) rfl (Jf (Ja (hK11 (Jx (JP (σ:=Int × List Pw × Pw × Option Addr × Nat) (fun ⟨e,A,mm,qo1,co1⟩=>[(12,.int .i64 e),(4,.slice qo1 (capL 401 acc A).length co1)]) (fun ⟨e,A,mm,qo1,co1⟩=>H) (fun ⟨e,A,mm,qo1,co1⟩=>obj g6 (.cells (bytesC mm).toArray 87 (0,0))::own 87 8 qo1 (capL 401 acc A).length co1 (msC (capL 401 acc A))::L) (fun ⟨e,A,mm,qo1,co1⟩=>EnB ds i m n e A mm) (fun ⟨e,A,mm,qo1,co1⟩=>(e+1).toNat) (topM (ds.getD i 0) n, [],m,qo,co) ⟨EnI.start hm.len hil hdi.1 hn,hm⟩ ⟨rfl,⟨(by rw [capL_nil];rfl),trivial⟩⟩ rfl (by dsimp only;rw [capL_nil]) ?_))))))))));rintro ⟨e,A,mm,qo1,co1⟩ hI _ hAg0;have hen:=hI.en;have hlo:=hen.lo;have hhi:=hen.hi;have hmml:=hI.mo.len;refine Jd fun _ hK12 _=>(Jd fun _ hK13 _=>(Jb (Jg (Jc rfl) rfl (Jg (PR.geq rfl rfl) rfl (Jg (Jc rfl) rfl (JW (jd:=42) rfl (fun h41=>?_) (fun h41=>?_)))))))
   ·
    try have h41p:=of_decide_eq_true h41
    refine JK (Jc rfl) rfl rfl rfl h41 (JK (Jr u147 rfl rfl) rfl rfl rfl h41 (JK (PR.leq rfl rfl) rfl rfl rfl h41 (Jg (JN rfl h41 rfl) rfl (Jf (Ja (hK13 (Jp rfl (fun h45p=>?_) (fun h45p=>?_))))))))
    ·
     have hlb:=left_b hdi h41p hhi hn;have hmo:=hI.mo.set (i:=i) (e:=e) (by omega);refine Jo (Ja (hK12 (Jd fun _ hK14 _=>(Jx (Jd fun _ hK15 _=>(Jb (Jg (Jc rfl) rfl (Jg (Jc rfl) rfl (Jg (EE u2 u5 rfl (u8_id (by omega))) rfl (Jg (Ea u87 sz5 rfl rfl rfl (by omega)) rfl (EV rfl rfl sz5 (by simp [*];omega) At.z (Jf (Ja (hK15 (Ed (Rs:=[_,_]) 15 [[], [], [], [2], [], [], [], [], [6,7], [6,7,8], [5,6,7,8,9], [4,5,6,7,8,9,10], [], [0,1,2,3,4,5,6,7,8,9,10,11,12], [0,1,2,3,4,5,6,7,8,9,10,11,12,13]] [[], [15], [], [], [], [], [], [], [], [], [], [], [], [], []] [[], [], [], [], [], [], [], [], [], [], [], [], [], [16], []] rfl rfl (by kernel_rfl) ?_)))))))))))))));apply Jm 1 rfl
     iterate 3 focus (intros;(conv=>lhs;simp only [Jh,Js,JO,Ju,JI,eq_self,reduceEqDiff,reduceIte,reduceSub,reduceAdd,JxA,JxB]);all_goals rfl)
     ·
      intro gh X K zq zc zq2 zc2 zb zv hK;refine Jg (Jc rfl) rfl (Jj ?_);exact hK zq zc zq2 zc2 zb zv
     ·
      intro gh gh' h
      rfl
     apply Jm 2 rfl
     iterate 3 focus (intros;(conv=>lhs;simp only [Jh,Js,JO,Ju,JI,eq_self,reduceEqDiff,reduceIte,reduceSub,reduceAdd,JxA,JxB]);all_goals rfl)
     ·
      intro gh X K zq zc zq2 zc2 zb zv hK;refine Jg (Jl rfl At.z (by simpa [*] using ag87)) rfl (Jj ?_);exact hK zq zc zq2 zc2 zb zv
     ·
      intro gh gh' h
      rfl
     apply Jm 3 rfl
     iterate 3 focus (intros;(conv=>lhs;simp only [Jh,Js,JO,Ju,JI,eq_self,reduceEqDiff,reduceIte,reduceSub,reduceAdd,JxA,JxB]);all_goals rfl)
     ·
      intro gh X K zq zc zq2 zc2 zb zv hK;refine Jg (Jc rfl) rfl (Jj ?_);exact hK zq zc zq2 zc2 zb zv
     ·
      intro gh gh' h
      rfl
     apply Jm 4 rfl
     iterate 3 focus (intros;(conv=>lhs;simp only [Jh,Js,JO,Ju,JI,eq_self,reduceEqDiff,reduceIte,reduceSub,reduceAdd,JxA,JxB]);all_goals rfl)
     ·
      intro gh X K zq zc zq2 zc2 zb zv hK;refine Jg (JF rfl rfl (by first | exact nw _ (by omega) | rfl)) rfl (Jj ?_);exact hK zq zc zq2 zc2 zb zv
     ·
      intro gh gh' h
      rfl
     apply Jm 5 rfl
     iterate 3 focus (intros;(conv=>lhs;simp only [Jh,Js,JO,Ju,JI,eq_self,reduceEqDiff,reduceIte,reduceSub,reduceAdd,JxA,JxB]);all_goals rfl)
     ·
      intro gh X K zq zc zq2 zc2 zb zv hK;refine Jg (Jc rfl) rfl (Jj ?_);exact hK zq zc zq2 zc2 zb zv
     ·
      intro gh gh' h
      rfl
     apply Jm 6 rfl
     iterate 3 focus (intros;(conv=>lhs;simp only [Jh,Js,JO,Ju,JI,eq_self,reduceEqDiff,reduceIte,reduceSub,reduceAdd,JxA,JxB]);all_goals rfl)
     ·
      intro gh X K zq zc zq2 zc2 zb zv hK;refine Jg (Jc rfl) rfl (Jj ?_);exact hK zq zc zq2 zc2 zb zv
     ·
      intro gh gh' h
      rfl
     apply Jm 7 rfl
     iterate 3 focus (intros;(conv=>lhs;simp only [Jh,Js,JO,Ju,JI,eq_self,reduceEqDiff,reduceIte,reduceSub,reduceAdd,JxA,JxB]);all_goals rfl)
     ·
      intro gh X K zq zc zq2 zc2 zb zv hK;refine Jg (Jc rfl) rfl (Jj ?_);exact hK zq zc zq2 zc2 zb zv
     ·
      intro gh gh' h
      rfl
     apply Jm 8 rfl
     iterate 3 focus (intros;(conv=>lhs;simp only [Jh,Js,JO,Ju,JI,eq_self,reduceEqDiff,reduceIte,reduceSub,reduceAdd,JxA,JxB]);all_goals rfl)
     ·
      intro gh X K zq zc zq2 zc2 zb zv hK;refine Jg (Jc rfl) rfl (Jj ?_);exact hK zq zc zq2 zc2 zb zv
     ·
      intro gh gh' h
      rfl
     apply Jm 9 rfl
     iterate 3 focus (intros;(conv=>lhs;simp only [Jh,Js,JO,Ju,JI,eq_self,reduceEqDiff,reduceIte,reduceSub,reduceAdd,JxA,JxB]);all_goals rfl)
     ·
      intro gh X K zq zc zq2 zc2 zb zv hK;refine Jg (Eg u24 sz2 rfl rfl rfl hil hds.sm) rfl (Jj ?_);exact hK zq zc zq2 zc2 zb zv
     ·
      intro gh gh' h
      rfl
     apply Jm 10 rfl
     iterate 3 focus (intros;(conv=>lhs;simp only [Jh,Js,JO,Ju,JI,eq_self,reduceEqDiff,reduceIte,reduceSub,reduceAdd,JxA,JxB]);all_goals rfl)
     ·
      intro gh X K zq zc zq2 zc2 zb zv hK;refine Jg (JX rfl (hds _ hil) pl2) rfl (Jj ?_);exact hK zq zc zq2 zc2 zb zv
     ·
      intro gh gh' h
      rfl
     apply Jm 11 rfl
     iterate 3 focus (intros;(conv=>lhs;simp only [Jh,Js,JO,Ju,JI,eq_self,reduceEqDiff,reduceIte,reduceSub,reduceAdd,JxA,JxB]);all_goals rfl)
     ·
      intro gh X K zq zc zq2 zc2 zb zv hK;refine Jg (EZ rfl rfl (nw _ (by omega))) rfl (Jj ?_);exact hK zq zc zq2 zc2 zb zv
     ·
      intro gh gh' h
      rfl
     apply Jm 12 rfl
     iterate 3 focus (intros;(conv=>lhs;simp only [Jh,Js,JO,Ju,JI,eq_self,reduceEqDiff,reduceIte,reduceSub,reduceAdd,JxA,JxB]);all_goals rfl)
     ·
      intro gh X K zq zc zq2 zc2 zb zv hK;refine Jg (ET rfl rfl (nw _ (by omega))) rfl (Jj ?_);exact hK zq zc zq2 zc2 zb zv
     ·
      intro gh gh' h
      rfl
     apply Jm 13 rfl
     iterate 3 focus (intros;(conv=>lhs;simp only [Jh,Js,JO,Ju,JI,eq_self,reduceEqDiff,reduceIte,reduceSub,reduceAdd,JxA,JxB]);all_goals rfl)
     ·
      intro gh X K zq zc zq2 zc2 zb zv hK;refine Jg (Jc rfl) rfl (Jj ?_);exact hK zq zc zq2 zc2 zb zv
     ·
      intro gh gh' h
      rfl
     apply Eb 14 rfl
     iterate 3 focus (intros;(conv=>lhs;simp only [Jh,Js,JO,Ju,JI,eq_self,reduceEqDiff,reduceIte,reduceSub,reduceAdd,JxA,JxB]);all_goals rfl)
     ·
      intro gh X K zq zc zq2 zc2 zb zv hK;refine Jz fn129 rfl rfl fun w hH=>(hrec hil (mm.set i e) (n - e * ds.getD i 0) (capL 401 acc A) qo1 co1 hmo hlb.2 (by omega) _ _ (hH.front .z)).mono ?_;rintro _ w ⟨qo66,co66,rfl,hH⟩;refine ⟨_,rfl,fun a hF=>JL hF hH ?_⟩;refine Jj ?_;exact hK qo66 co66 zq2 zc2 zb zv
     ·
      intro gh gh' h;refine ⟨?_,?_⟩ <;> rfl
     apply Jm 15 rfl
     iterate 3 focus (intros;(conv=>lhs;simp only [Jh,Js,JO,Ju,JI,eq_self,reduceEqDiff,reduceIte,reduceSub,reduceAdd,JxA,JxB]);all_goals rfl)
     ·
      intro gh X K zq zc zq2 zc2 zb zv hK;refine Jg (Je rfl) rfl (Jj ?_);exact hK zq zc zq2 zc2 zb zv
     ·
      intro gh gh' h
      first | simp only [h 13 rfl] | rfl
     apply Ec [0,1,2,3,4,5,6,7,8,9,10,11,12,13,14] [0,1,2,3,4,5,6,7,8,9,10,11,12,13,14,15] foll0 rfl rfl rfl (by rfl)
     iterate 2 focus (intros;(conv=>lhs;simp only [Jh,Js,JO,Ju,JI,eq_self,reduceEqDiff,reduceIte,reduceSub,reduceAdd,JxA,JxB]);all_goals rfl)
     intro gh;generalize (gh 13).c=co66;generalize (gh 13).q=qo66;clear gh;refine JJ (Ja (hK14 (Jb (Jg (Jc rfl) rfl (Jg (ET rfl rfl (by first | exact nw _ (by omega) | rfl)) rfl (Jg (Je rfl) rfl (Jf (Ja (Ji .z (Ji (.s .z) ?_))))))))));exact hAg0 (e - 1,A++enG ds i m n e,mm.set i e,qo66,co66) ⟨hen.next h41p,hmo⟩ (by show (e - 1+1).toNat<(e+1).toNat;omega) 31 rfl rfl ⟨rfl,⟨(by rw [← capL_app,← enG_set hen.set];rfl),trivial⟩⟩ rfl (by dsimp only;rw [← capL_app,← enG_set hen.set])
    ·
     refine JR (Jw (Jw (JY (Ja (hK10 (Jd fun _ hK16 _=>(Jb (Jg (Jc rfl) rfl (Jg (Je rfl) rfl (Jf (Ja (hK16 (Jt (Jy rfl (Res.tmp rfl) fun w hH=>?_))))))))))))));replace hH:=hH.sublist (.cons _ (.cons_cons _ (List.Sublist.refl _)));rw [← hen.stop (by omega)];exact ⟨_,_,rfl,hH⟩
   ·
    try have h41p:=of_decide_eq_false h41
    refine JE rfl rfl rfl h41 (JE rfl rfl rfl h41 (JE rfl rfl rfl h41 (Jg (JM rfl h41 rfl) rfl (Jf (Ja (hK13 (Ey rfl (JR (Jw (Jw (JY (Ja (hK10 (Jd fun _ hK17 _=>(Jb (Jg (Jc rfl) rfl ?_))))))))))))))));refine Jg (Je rfl) rfl (Jf (Ja (hK17 (Jt (Jy rfl (Res.tmp rfl) fun w hH=>?_)))));replace hH:=hH.sublist (.cons _ (.cons_cons _ (List.Sublist.refl _)));rw [← hen.stop2 h41p];exact ⟨_,_,rfl,hH⟩
theorem l01Fill_n {B:World} {H0 H:HP} {qds:Option Addr} {cds:Nat} {ds:List Int} (hds:Ints H qds ds) (hd : ∀j,j<ds.length→1≤ds.getD j 0∧ds.getD j 0≤12) (h8:ds.length≤8) : ∀(k i:Nat) (m:Pw) (n:Int) (acc:List Pw) (qo:Option Addr) (co:Nat),ds.length - i≤k→i≤ds.length→Mono m→ -1000000≤n∧n≤1000000→acc.length≤400→∀(L:List SA) (w:World),Hp B H0 H (own 87 8 qo acc.length co (msC acc)::L) w→Calls Tryz.prog 129 [.slice qds ds.length cds,.agg (bytesC m).toArray,.int .i64 (i:Int),.int .i64 n,.slice qo acc.length co].toArray w fun r w'=>∃q c,r = .returned (.slice q (capL 401 acc (enS ds i m n)).length c)∧Hp B H0 H (own 87 8 q (capL 401 acc (enS ds i m n)).length c (msC (capL 401 acc (enS ds i m n)))::L) w'
 | 0,i,m,n,acc,qo,co,hk,hi,hm,hn,ha,L,w,hH=>l01FillX_c hds hm hd hi h8 hn ha (fun h=>by omega) hH
 | k+1,i,m,n,acc,qo,co,hk,hi,hm,hn,ha,L,w,hH=>l01FillX_c hds hm hd hi h8 hn ha (fun h m' n' acc' qo' co' h1 h2 h3 L w hH=>l01Fill_n hds hd h8 k (i+1) m' n' acc' qo' co' (by omega) (by omega) h1 h2 h3 L w hH) hH
def monT (ds:List Int) (n:Int):List Pw:=(monS ds n).take 401
theorem mon_capS (ds:List Int) (n:Int) (m:Pw) (hm:m=zP):capL 401 [] (enS ds 0 m n)=monT ds n:=by
 subst hm;rw [capL_zero]
 rfl
theorem monT_len (ds:List Int) (n:Int):(monT ds n).length≤401:=by unfold monT;rw [List.length_take];omega
theorem Mono.zP:Mono zP:=⟨rfl,fun j=>by rw [show G.zP=List.replicate 8 0 from rfl,rep_get];omega⟩
theorem l01Monomials_c {B:World} {H0 H:HP} {L:List SA} {w:World} {qds:Option Addr} {cds:Nat} {ds:List Int} {n:Int} (hds:Ints H qds ds) (hd : ∀j,j<ds.length→1≤ds.getD j 0∧ds.getD j 0≤12) (h8:ds.length≤8) (hn : -1000000≤n∧n≤1000000) (hH:Hp B H0 H L w):Calls Tryz.prog 113 [.slice qds ds.length cds,.int .i64 n].toArray w fun e w'=>∃q c,e = .returned (.slice q (monT ds n).length c)∧Hp B H0 H (own 87 8 q (monT ds n).length c (msC (monT ds n))::L) w':=by
 refine JD Tryz.func113 rfl 9 rfl rfl [(0,.slice qds ds.length cds),(1,.int .i64 n)] rfl hH ?_;clear hH;refine Jd fun _ hK1 _=>(Jb (Jg (Je rfl) rfl (Jf (Ja (hK1 (Jd fun _ hK2 _=>(Jb (Jg (Jc rfl) rfl (Jg (JQ bz87) rfl (Jg (Jc rfl) rfl (EG 87 8 (Jz fn129 rfl rfl fun w hH=>(l01Fill_n hds hd h8 ds.length 0 zP n [] none 0 (by omega) (by omega) Mono.zP hn (by simp) _ _ hH).mono ?_))))))))))));rintro _ w ⟨qo2,co2,rfl,hH⟩;refine ⟨_,rfl,fun a hF=>JL hF hH ?_⟩;refine Jg (Je rfl) rfl (Jf (Ja (hK2 (Jt (Jy rfl (Res.tmp rfl) fun w hH=>?_)))));replace hH:=hH.sublist (.cons_cons _ (List.Sublist.refl _));rw [mon_capS _ _ _ rfl] at hH ⊢;exact ⟨qo2,co2,rfl,hH⟩
abbrev sV (l:List UInt8):Value:=.string ⟨l.toArray⟩
section
variable {P : Program} {ops : Array Oper} {Q : Exit → Act → World → Prop} {n : Nat} {B : World} {H0 H : HP} {rest : List Oper} {us : List (Nat × Value)} {L L' : List SA} {t xt yt : TypeId} {p : String} {af : Array Edge} {d : Nat} {x y : Operand}
theorem Em {a b:List UInt8} (hx:opv us x=some (sV a)) (hy:opv us y=some (sV b)) (hl:a.length+b.length≤9223372036854775807):PR P n B H0 us H L (.binOp .add xt x y yt) t (sV (a++b)):=
 fun _ _ _ _ ac w hF _=>by
  have h1:=run_string_add_sum (P:=P) w ⟨a.toArray⟩ ⟨b.toArray⟩ (by simp [ByteArray.size];omega)
  rw [ByteArray.mk_append_mk] at h1
  simp only [execOp,hF.ev hx,hF.ev hy,binOp_string_add]
  simp [eqGuard,h1]
theorem EU {a b:List UInt8} (hx:opv us x=some (sV a)) (hy:opv us y=some (sV b)):PR P n B H0 us H L (.binOp .eql xt x y yt) t (.bool (decide (a=b))):=
 fun _ _ _ _ ac w hF _=>by
  simp only [execOp,hF.ev hx,hF.ev hy,binOp_string_eql,ByteArray.toList_mk]
  have he:(a == b)=decide (a=b):=by by_cases h:a=b <;> simp [h]
  simp [eqGuard,he]
theorem PR.strNeq {a b:List UInt8} (hx:opv us x=some (sV a)) (hy:opv us y=some (sV b)):PR P n B H0 us H L (.binOp .neq xt x y yt) t (.bool (decide (a≠b))):=
 fun _ _ _ _ ac w hF _=>by
  have hb:binOp .neq xt (sV a) (sV b)=pure (.bool !(a == b)):=by simp [binOp,Op.stringOp]
  simp only [execOp,hF.ev hx,hF.ev hy,hb]
  have he:(!(a == b))=decide (a≠b):=by by_cases h:a=b <;> simp [h]
  rw [he]
  simp [eqGuard]
theorem PR.str1 {e:TypeId} {q:Option Addr} {c:Nat} {v:Int} (hs:P.underlying xt=some (.slice e)) (he:P.underlying e=some (.int .u8)) (hd:P.underlying yt=some .string) (hx:opv us x=some (.slice q 1 c)) (hat:At L (own e 1 q 1 c [.int .u8 v]) (own e 1 q 1 c [.int .u8 v]) L) (hv:0≤v∧v≤255):PR P n B H0 us H L (.convert xt yt x) t (sV [UInt8.ofNat v.toNat]):=
 fun _ _ _ _ ac w hF hH=>by
  have h1:=own_reads (hH.objs _ hat.mem).1 0 _ rfl
  cases q with
  | none=>simp [cellO] at h1
  | some a=>
   have h2:=run_convert_bytes_back (P:=P) w xt yt e a c [UInt8.ofNat v.toNat] hs he hd fun j hj=>by
    obtain rfl:j=0:=by simpa using hj
    have h3:w.cell? (a.add 0)=some (.int .u8 v):=h1
    rw [h3]
    have h4:v.toNat % 256=v.toNat:=by omega
    simp [UInt8.toNat_ofNat,h4]
    omega
   simp only [List.length_singleton] at h2
   simp [execOp,hF.ev hx,h2]
theorem PR.strRune {k:IntKind} {v:Int} {ds:TypeDesc} (hs:P.underlying xt=some ds) (hd:P.underlying yt=some .string) (hx:opv us x=some (.int k v)) (hv:0≤v∧v<128):PR P n B H0 us H L (.convert xt yt x) t (sV [UInt8.ofNat v.toNat]):=
 fun _ _ _ _ ac w hF _=>by
  have h1:Utf8.encode v=⟨[UInt8.ofNat v.toNat].toArray⟩:=by
   have hval:Utf8.valid v=true:=by simp [Utf8.valid];omega
   have hlt:v.toNat<128:=by omega
   simp [Utf8.encode,hval,hlt]
  simp [execOp,hF.ev hx,convert,run_underlying hs,run_underlying hd,Conv.intToString,h1]
end
def TabOk (P:Program) (nm:String) (H:HP):Prop:=∀w:World,(∀b o,H b=some o→hp w b=some o)→Lib.TabIs P w nm .u64 Lib.pow10Tab
theorem TabOk.le {P:Program} {nm:String} {H H':HP} (h:TabOk P nm H) (hle:Le H H'):TabOk P nm H':=fun w hw=>h w fun b o hb=>hw b o (hle b o hb)
theorem Hp.belowOf {B:World} {H0 H:HP} {L:List SA} {w w':World} (h:Hp B H0 H L w) (hb:Below w.heap.size w w'):Hp B H0 H L w':=
 h.chg0 ⟨hb.os,hb.tape,hb.output,hb.size,fun b hb' _=>hb.block b hb'⟩
theorem stm_eq {xs:List Term} {j:Nat} (hj:j<xs.length):xs[j]=tm xs j:=by simp [tm,List.getD_eq_getElem?_getD,List.getElem?_eq_getElem hj]
theorem stm_take {ts:List Term} {k:Nat} (hk:k<ts.length):ts.take (k+1)=ts.take k++[tm ts k]:=by rw [List.take_succ_eq_append_getElem hk,stm_eq hk]
def decL (n:Int):List UInt8:=Lib.decDigits n.toNat
theorem decL_small {n:Int} (h:0≤n) (h1:n<10):decL n=[UInt8.ofNat (48+n).toNat]:=by
 unfold decL;rw [Lib.decDigits_one (by omega)]
 congr 2
 omega
theorem decL_big {n:Int} (h:0≤n) (h1 : ¬n<10):decL n=decL (n.tdiv 10)++[UInt8.ofNat (48+n.tmod 10).toNat]:=by
 have e1:(n.tdiv 10).toNat=n.toNat / 10:=by rw [Int.tdiv_eq_ediv_of_nonneg h];omega
 have e2:(48+n.tmod 10).toNat=48+n.toNat % 10:=by rw [Int.tmod_eq_emod_of_nonneg h];omega
 unfold decL;rw [e1,e2,Lib.decDigits,dif_neg (by omega)]
theorem decL_itoa {n:Int} (h:0≤n):Lib.itoa n=decL n:=by
 unfold Lib.itoa decL;rw [if_neg (by omega)]
theorem nDigits_le : ∀(k u:Nat),u<10 ^ k→1≤k→Lib.nDigits u≤k
 | 0,_,_,h=>by omega
 | k+1,u,h,_=>by
  by_cases hu:u<10
  ·rw [Lib.nDigits_small hu];omega
  ·rw [Lib.nDigits_big hu]
   rw [Nat.pow_succ] at h
   have hk:1≤k:=by
    rcases Nat.eq_zero_or_pos k with h0 | h0
    ·subst h0;simp at h;omega
    ·exact h0
   have:=nDigits_le k (u / 10) (by omega) hk
   omega
theorem decL_len {n:Int} (h:0≤n) (h1:n≤9223372036854775807):(decL n).length≤19:=by
 unfold decL;rw [Lib.decDigits_length];exact nDigits_le 19 _ (by have h9:(10:Nat) ^ 19=10000000000000000000:=(by decide);omega) (by omega)
def letT (m:List Int) (i:Nat):List UInt8:=(if 0<m.getD i 0 then [UInt8.ofNat (97+(i:Int)).toNat] else [])++(if 1<m.getD i 0 then decL (m.getD i 0) else [])
def mnT (m:List Int):Nat→List UInt8
 | 0=>[]
 | i+1=>mnT m i++letT m i
theorem mnT_len {m:List Int} (h : ∀j,0≤m.getD j 0∧m.getD j 0≤255) : ∀k,(mnT m k).length≤20 * k
 | 0=>by simp [mnT]
 | k+1=>by
  have h1:=mnT_len h k
  have h2:=decL_len (h k).1 (by have:=h k;omega)
  have h3:(letT m k).length≤20:=by
   unfold letT
   rw [List.length_append]
   split <;> split <;> simp only [List.length_singleton,List.length_nil] <;> omega
  simp only [mnT,List.length_append]
  omega
theorem mnT_yy {m:List Int} {i:Nat} (h1:0<m.getD i 0) (h2:1<m.getD i 0):(mnT m i++[UInt8.ofNat (97+(i:Int)).toNat])++decL (m.getD i 0)=mnT m (i+1):=by
 simp only [mnT,letT];rw [if_pos h1,if_pos h2,List.append_assoc]
theorem mnT_yn {m:List Int} {i:Nat} (h1:0<m.getD i 0) (h2 : ¬1<m.getD i 0):mnT m i++[UInt8.ofNat (97+(i:Int)).toNat]=mnT m (i+1):=by
 simp only [mnT,letT];rw [if_pos h1,if_neg h2,List.append_nil]
theorem mnT_nn {m:List Int} {i:Nat} (h1 : ¬0<m.getD i 0):mnT m i=mnT m (i+1):=by
 simp only [mnT,letT];rw [if_neg h1,if_neg (by omega),List.append_nil,List.append_nil]
def nameT (m:List Int):List UInt8:=if mnT m 8=[] then [49] else mnT m 8
theorem nameT_len {m:List Int} (h : ∀j,0≤m.getD j 0∧m.getD j 0≤255):(nameT m).length≤160:=by
 unfold nameT
 split
 ·simp
 ·exact mnT_len h 8
def termT (t:Term):List UInt8:=(decL t.fac++[42])++nameT t.mono
def textT (ts:List Term):List UInt8:=if ts.length=0 then [48] else Lib.join (ts.map termT) [43]
def preT (ts:List Term):Nat→List UInt8
 | 0=>[]
 | k+1=>(if 0<k then preT ts k++[43] else preT ts k)++termT (tm ts k)
theorem joinTail_app (sep:List UInt8) : ∀(r:List (List UInt8)) (x:List UInt8),Lib.joinTail sep (r++[x])=Lib.joinTail sep r++sep++x:=fun r x=>by
 unfold Lib.joinTail
 rw [List.map_append,List.flatten_append]
 simp
theorem join_app (sep x:List UInt8) : ∀{r:List (List UInt8)},r≠ []→Lib.join (r++[x]) sep=Lib.join r sep++sep++x
 | [],h=>absurd rfl h
 | a::r,_=>by
  rw [JxA,Lib.join_cons,Lib.join_cons,joinTail_app]
  simp [List.append_assoc]
theorem preT_join {ts:List Term} : ∀{k:Nat},k≤ts.length→preT ts k=Lib.join ((ts.take k).map termT) [43]
 | 0,_=>by simp [preT,Lib.join_nil]
 | k+1,h=>by
  rw [stm_take (by omega),List.map_append,List.map_singleton]
  simp only [preT]
  by_cases hk:0<k
  ·rw [if_pos hk,join_app _ _ (by intro e;have h9:=congrArg List.length e;rw [List.length_map,List.length_take_of_le (by omega)] at h9;simp only [List.length_nil] at h9;omega),← preT_join (k:=k) (by omega)]
  ·obtain rfl:k=0:=by omega
   rw [if_neg hk]
   simp [preT,Lib.join_one]
theorem preT_end (ts:List Term) (h : ¬ts.length=0):preT ts ts.length=textT ts:=by
 rw [preT_join (Nat.le_refl _),List.take_length];unfold textT;rw [if_neg h]
theorem termT_len {ts:List Term} (hw:Wfs ts) (hf : ∀i,i<ts.length→0≤(tm ts i).fac) {i:Nat} (hi:i<ts.length):(termT (tm ts i)).length≤200:=by
 have hm:=hw (tm ts i) (by rw [← stm_eq hi];exact List.getElem_mem hi);have h1:=decL_len (hf i hi) hm.fac.2;have h2:=nameT_len hm.mono.bd;unfold termT;simp only [List.length_append,List.length_singleton]
 omega
theorem preT_len {ts:List Term} (hw:Wfs ts) (hf : ∀i,i<ts.length→0≤(tm ts i).fac) : ∀{k:Nat},k≤ts.length→(preT ts k).length≤201 * k
 | 0,_=>by simp [preT]
 | k+1,h=>by
  have h1:=preT_len hw hf (k:=k) (by omega)
  have h2:=termT_len hw hf (i:=k) (by omega)
  simp only [preT,List.length_append]
  split
  ·simp only [List.length_append,List.length_singleton];omega
  ·omega
theorem u9:Tryz.prog.underlying 9=some (TypeDesc.string):=by kernel_rfl
theorem ze5:Zero Tryz.prog 5 [.int .u8 0]:=by unfold Zero;kernel_rfl
theorem fn112:Fn Tryz.prog 112:=⟨_,Tryz.func112,by kernel_rfl,rfl⟩
theorem fn68:Fn Tryz.prog 68:=⟨_,Tryz.func68,by kernel_rfl,rfl⟩
theorem su8_id {x:Int} (h:0≤x∧x≤255):IntKind.u8.wrap x=x:=by simp [IntKind.wrap,IntKind.signed,IntKind.bits];omega
theorem l01DecX_c {B:World} {H0 H:HP} {L:List SA} {w:World} {x:Int} (hx:0≤x∧x≤9223372036854775807) (hrec : ∀y:Int,y=x.tdiv 10→10≤x→∀(L:List SA) (w:World),Hp B H0 H L w→Calls Tryz.prog 68 [.int .i64 y].toArray w fun r w'=>r = .returned (sV (decL y))∧Hp B H0 H L w') (hH:Hp B H0 H L w):Calls Tryz.prog 68 [.int .i64 x].toArray w fun e w'=>e = .returned (sV (decL x))∧Hp B H0 H L w':=by
 refine JD Tryz.func68 rfl 20 rfl rfl [(0,.int .i64 x)] rfl hH ?_;clear hH
 have hr0:0≤x.tmod 10∧x.tmod 10≤9:=by rw [Int.tmod_eq_emod_of_nonneg hx.1];omega
 have hq0:0≤x.tdiv 10∧x.tdiv 10≤x:=by rw [Int.tdiv_eq_ediv_of_nonneg hx.1];omega
 have hl9:=decL_len (n:=x.tdiv 10) hq0.1 (by omega);refine Jd fun _ hK1 _=>(Jb (Jg (Je rfl) rfl (Jf (Ja (hK1 (Jd fun _ hK2 _=>(Jd fun _ hK3 _=>(Jb (Jg (Jc rfl) rfl (Jg (JZ rfl rfl) rfl (Jf (Ja (hK3 (Jp rfl (fun h4=>?_) (fun h4=>?_)))))))))))))))
 ·
  refine Jd fun _ hK4 _=>(Jb (Jg (Jc rfl) rfl (Jg (JF rfl rfl (by first | exact nw _ (by omega) | rfl)) rfl (Jg (EE u2 u5 rfl (su8_id (by omega))) rfl (EX (EI u22 ze5 sz5 rfl rfl) rfl fun qo8 co8=>(Jg (PR.str1 u22 u5 u9 rfl At.z (by omega)) rfl (Jg (Je rfl) rfl (Jf (Ja (hK4 (Jt (Jn (Jy rfl (Res.tmp rfl) fun w hH=>?_)))))))))))));replace hH:=hH.tail;exact ⟨by rw [decL_small hx.1 (by omega)],hH⟩
 ·
  refine Jo (Ja (hK2 (Jd fun _ hK5 _=>(Ed (Rs:=[]) 11 [[], [0], [0,1], [], [3], [3,4], [3,4,5], [3,4,5,6], [3,4,5,6,7], [0,1,2,3,4,5,6,7,8], [0,1,2,3,4,5,6,7,8,9]] [[], [], [], [], [], [], [], [], [7], [], []] [[], [], [], [], [], [], [], [], [], [], []] rfl rfl (by kernel_rfl) ?_))));apply Jm 1 rfl
  iterate 3 focus (intros;(conv=>lhs;simp only [Jh,Js,JO,Ju,JI,eq_self,reduceEqDiff,reduceIte,reduceSub,reduceAdd,JxA,JxB]);all_goals rfl)
  ·
   intro gh X K zq zc zq2 zc2 zb zv hK;refine Jg (Jc rfl) rfl (Jj ?_);exact hK zq zc zq2 zc2 zb zv
  ·
   intro gh gh' h
   rfl
  apply Jm 2 rfl
  iterate 3 focus (intros;(conv=>lhs;simp only [Jh,Js,JO,Ju,JI,eq_self,reduceEqDiff,reduceIte,reduceSub,reduceAdd,JxA,JxB]);all_goals rfl)
  ·
   intro gh X K zq zc zq2 zc2 zb zv hK;refine Jg (PR.quo rfl rfl (by decide) (nw _ (by omega))) rfl (Jj ?_);exact hK zq zc zq2 zc2 zb zv
  ·
   intro gh gh' h
   rfl
  apply Jm 3 rfl
  iterate 3 focus (intros;(conv=>lhs;simp only [Jh,Js,JO,Ju,JI,eq_self,reduceEqDiff,reduceIte,reduceSub,reduceAdd,JxA,JxB]);all_goals rfl)
  ·
   intro gh X K zq zc zq2 zc2 zb zv hK;refine Jz fn68 rfl rfl fun w hH=>(hrec _ rfl (by omega) _ _ hH).mono ?_;rintro _ w ⟨rfl,hH⟩;refine ⟨_,rfl,fun a hF=>JL hF hH ?_⟩;refine Jj ?_;exact hK zq zc zq2 zc2 zb zv
  ·
   intro gh gh' h
   rfl
  apply Jm 4 rfl
  iterate 3 focus (intros;(conv=>lhs;simp only [Jh,Js,JO,Ju,JI,eq_self,reduceEqDiff,reduceIte,reduceSub,reduceAdd,JxA,JxB]);all_goals rfl)
  ·
   intro gh X K zq zc zq2 zc2 zb zv hK;refine Jg (Jc rfl) rfl (Jj ?_);exact hK zq zc zq2 zc2 zb zv
  ·
   intro gh gh' h
   rfl
  apply Jm 5 rfl
  iterate 3 focus (intros;(conv=>lhs;simp only [Jh,Js,JO,Ju,JI,eq_self,reduceEqDiff,reduceIte,reduceSub,reduceAdd,JxA,JxB]);all_goals rfl)
  ·
   intro gh X K zq zc zq2 zc2 zb zv hK;refine Jg (ER rfl rfl (by decide) rfl) rfl (Jj ?_);exact hK zq zc zq2 zc2 zb zv
  ·
   intro gh gh' h
   rfl
  apply Jm 6 rfl
  iterate 3 focus (intros;(conv=>lhs;simp only [Jh,Js,JO,Ju,JI,eq_self,reduceEqDiff,reduceIte,reduceSub,reduceAdd,JxA,JxB]);all_goals rfl)
  ·
   intro gh X K zq zc zq2 zc2 zb zv hK;refine Jg (JF rfl rfl (by first | exact nw _ (by omega) | rfl)) rfl (Jj ?_);exact hK zq zc zq2 zc2 zb zv
  ·
   intro gh gh' h
   rfl
  apply Jm 7 rfl
  iterate 3 focus (intros;(conv=>lhs;simp only [Jh,Js,JO,Ju,JI,eq_self,reduceEqDiff,reduceIte,reduceSub,reduceAdd,JxA,JxB]);all_goals rfl)
  ·
   intro gh X K zq zc zq2 zc2 zb zv hK;refine Jg (EE u2 u5 rfl (su8_id (by omega))) rfl (Jj ?_);exact hK zq zc zq2 zc2 zb zv
  ·
   intro gh gh' h
   rfl
  apply Eb 8 rfl
  iterate 3 focus (intros;(conv=>lhs;simp only [Jh,Js,JO,Ju,JI,eq_self,reduceEqDiff,reduceIte,reduceSub,reduceAdd,JxA,JxB]);all_goals rfl)
  ·
   intro gh X K zq zc zq2 zc2 zb zv hK;refine EX (EI u22 ze5 sz5 rfl rfl) rfl fun qo17 co17=>(Jj ?_);exact hK qo17 co17 zq2 zc2 zb zv
  ·
   intro gh gh' h;refine ⟨?_,?_⟩ <;> rfl
  apply Jm 9 rfl
  iterate 3 focus (intros;(conv=>lhs;simp only [Jh,Js,JO,Ju,JI,eq_self,reduceEqDiff,reduceIte,reduceSub,reduceAdd,JxA,JxB]);all_goals rfl)
  ·
   intro gh X K zq zc zq2 zc2 zb zv hK;refine Jg (PR.str1 u22 u5 u9 rfl At.z (by omega)) rfl (Jj ?_);exact hK zq zc zq2 zc2 zb zv
  ·
   intro gh gh' h
   first | simp only [h 7 rfl] | rfl
  apply Jm 10 rfl
  iterate 3 focus (intros;(conv=>lhs;simp only [Jh,Js,JO,Ju,JI,eq_self,reduceEqDiff,reduceIte,reduceSub,reduceAdd,JxA,JxB]);all_goals rfl)
  ·
   intro gh X K zq zc zq2 zc2 zb zv hK;refine Jg (Em rfl rfl (by simp only [List.length_append,List.length_cons,List.length_nil] at *;omega)) rfl (Jj ?_);exact hK zq zc zq2 zc2 zb zv
  ·
   intro gh gh' h
   first | simp only [h 7 rfl] | rfl
  apply Jm 11 rfl
  iterate 3 focus (intros;(conv=>lhs;simp only [Jh,Js,JO,Ju,JI,eq_self,reduceEqDiff,reduceIte,reduceSub,reduceAdd,JxA,JxB]);all_goals rfl)
  ·
   intro gh X K zq zc zq2 zc2 zb zv hK;refine Jg (Je rfl) rfl (Jj ?_);exact hK zq zc zq2 zc2 zb zv
  ·
   intro gh gh' h
   first | simp only [h 7 rfl] | rfl
  apply Ec [0,1,2,3,4,5,6,7,8,9,10] [0,1,2,3,4,5,6,7,8,9,10] foll0 rfl rfl rfl (by rfl)
  iterate 2 focus (intros;(conv=>lhs;simp only [Jh,Js,JO,Ju,JI,eq_self,reduceEqDiff,reduceIte,reduceSub,reduceAdd,JxA,JxB]);all_goals rfl)
  intro gh;generalize (gh 7).c=co17;generalize (gh 7).q=qo17;clear gh;refine Ja (hK5 (Jt (Jy rfl (Res.tmp rfl) fun w hH=>?_)));replace hH:=hH.tail;exact ⟨by rw [decL_big hx.1 (by omega)],hH⟩
theorem l01Dec_n {B:World} {H0 H:HP} : ∀(n:Nat) (x:Int),x.toNat≤n→0≤x∧x≤9223372036854775807→∀(L:List SA) (w:World),Hp B H0 H L w→Calls Tryz.prog 68 [.int .i64 x].toArray w fun r w'=>r = .returned (sV (decL x))∧Hp B H0 H L w'
 | 0,x,h,hx,L,w,hH=>l01DecX_c hx (fun y _ h10=>by omega) hH
 | n+1,x,h,hx,L,w,hH=>l01DecX_c hx (fun y hy h10 L w hH=>by
  have hq0:0≤x.tdiv 10∧x.tdiv 10 * 10≤x:=by rw [Int.tdiv_eq_ediv_of_nonneg hx.1];omega
  exact l01Dec_n n y (by omega) (by omega) L w hH) hH
theorem l01Dec_c {B:World} {H0 H:HP} {L:List SA} {w:World} {x:Int} (hx:0≤x∧x≤9223372036854775807) (hH:Hp B H0 H L w):Calls Tryz.prog 68 [.int .i64 x].toArray w fun r w'=>r = .returned (sV (decL x))∧Hp B H0 H L w':=l01Dec_n _ x (Nat.le_refl _) hx L w hH
theorem vS {a b:List UInt8} (h:a=b):some (sV a)=some (sV b):=by rw [h]
theorem preT_p {ts:List Term} {k:Nat} (h:0<k):preT ts k++[43]++decL (tm ts k).fac++[42]++nameT (tm ts k).mono=preT ts (k+1):=by
 simp only [preT,termT];rw [if_pos h];simp only [List.append_assoc]
theorem preT_z {ts:List Term} {k:Nat} (h : ¬0<k):preT ts k++decL (tm ts k).fac++[42]++nameT (tm ts k).mono=preT ts (k+1):=by
 simp only [preT,termT];rw [if_neg h];simp only [List.append_assoc]
theorem l01Name_c {B:World} {H0 H:HP} {L:List SA} {w:World} {m:List Int} (hm:Mono m) (hH:Hp B H0 H L w):Calls Tryz.prog 112 [.agg (bytesC m).toArray].toArray w fun e w'=>e = .returned (sV (nameT m))∧Hp B H0 H L w':=by
 refine JD Tryz.func112 rfl 34 rfl rfl [(0,.agg (bytesC m).toArray)] rfl hH ?_;have hml:=hm.len;clear hH;have hmb:=hm.bd;have hml9:=fun k=>mnT_len hmb k;refine Jd fun _ hK1 _=>(Jb (Eo rfl rfl rfl fun g1=>(Jg (Je rfl) rfl (Jf (Ja (hK1 (Jd fun _ hK2 _=>(Jb (Jg (Je rfl) rfl (Jf (Ja (hK2 (Jd fun _ hK3 _=>(Jd fun _ hK4 _=>(Jb (Jg (Je rfl) rfl ?_))))))))))))))));refine Jf (Ja (hK4 (Jx (JP (σ:=Nat) (fun (i:Nat)=>[(4,.int .i64 (i:Int)),(3,sV (mnT m i))]) (fun (i:Nat)=>H) (fun (i:Nat)=>obj g1 (.cells (bytesC m).toArray 87 (0,0))::L) (fun (i:Nat)=>i≤8) (fun (i:Nat)=>8 - i) 0 (by omega) ⟨rfl,⟨rfl,trivial⟩⟩ rfl rfl ?_))));rintro i hi _ hAg0;have hli:=hml9 i;have hmi:=hmb i;have hdl:=decL_len (n:=m.getD i 0) hmi.1 (by omega);refine Jd fun _ hK5 _=>(Jd fun _ hK6 _=>(Jb (Jg (Jc rfl) rfl (Jg (JZ rfl rfl) rfl (Jf (Ja (hK6 (Jp rfl (fun hc6=>?_) (fun hc6=>?_)))))))))
 ·
  refine Jo (Ja (hK5 (Jd fun _ hK7 _=>(Jx (Jd fun _ hK8 _=>(Jd fun _ hK9 _=>(Jb (Jg (Jc rfl) rfl (Jg (Ea u87 sz5 rfl rfl rfl (by omega)) rfl (Jg (Jv rfl At.z (by first | exact bytesC_get (by simp [*];omega) | exact intsC_get (by simp [*];omega)) pl5) rfl (Jg (Eq rfl rfl) rfl (Jf (Ja (hK9 (Jp rfl (fun h12=>?_) (fun h12=>?_))))))))))))))))
  ·
   refine Jb (Jg (Jc rfl) rfl (Jg (Jc rfl) rfl (Jg (JF rfl rfl (by first | exact nw _ (by omega) | rfl)) rfl (Jg (EE u3 u5 rfl (su8_id (by omega))) rfl (EX (EI u22 ze5 sz5 rfl rfl) rfl fun qo17 co17=>(Jg (PR.str1 u22 u5 u9 rfl At.z (by omega)) rfl (Jg (Em rfl rfl (by first | omega | (simp only [List.length_append,List.length_singleton];omega))) rfl (Jg (Je rfl) rfl (Jf (Ja (hK8 (Jd fun _ hK10 _=>(Jb (Jg (Jc rfl) rfl (Jg (Ea u87 sz5 rfl rfl rfl (by omega)) rfl ?_)))))))))))))));refine Jg (Jv rfl (.s .z) (by first | exact bytesC_get (by simp [*];omega) | exact intsC_get (by simp [*];omega)) pl5) rfl (Jg (Eq rfl rfl) rfl (Jf (Ja (hK10 (Jp rfl (fun h23=>?_) (fun h23=>?_))))))
   ·
    refine Jb (Jg (Jc rfl) rfl (Jg (Jc rfl) rfl (Jg (Ea u87 sz5 rfl rfl rfl (by omega)) rfl (Jg (Jv rfl (.s .z) (by first | exact bytesC_get (by simp [*];omega) | exact intsC_get (by simp [*];omega)) pl5) rfl (Jg (EE u5 u2 rfl (by first | exact nw _ (by omega) | rfl)) rfl (Jz fn68 rfl rfl fun w hH=>(l01Dec_c (by omega) hH).mono ?_))))));rintro _ w ⟨rfl,hH⟩;refine ⟨_,rfl,fun a hF=>JL hF hH ?_⟩;refine Jg (Em rfl rfl (by first | omega | (simp only [List.length_append,List.length_singleton];omega))) rfl (Jg (Je rfl) rfl (Jf (JJ (Ja (hK7 (Jb (Jg (Jc rfl) rfl (Jg (JF rfl rfl (by first | exact nw _ (by omega) | rfl)) rfl (Jg (Je rfl) rfl (Jf (Ja (JC .z ?_))))))))))));exact hAg0 (i+1) (by omega) (by omega) 31 rfl rfl ⟨rfl,⟨(vS (mnT_yy h12 h23)),trivial⟩⟩ rfl rfl
   ·
    refine Jo (JJ (Ja (hK7 (Jb (Jg (Jc rfl) rfl (Jg (JF rfl rfl (by first | exact nw _ (by omega) | rfl)) rfl (Jg (Je rfl) rfl (Jf (Ja (JC .z ?_))))))))));exact hAg0 (i+1) (by omega) (by omega) 23 rfl rfl ⟨rfl,⟨(vS (mnT_yn h12 h23)),trivial⟩⟩ rfl rfl
  ·
   refine Jo (Ja (hK8 (Jd fun _ hK11 _=>(Jb (Jg (Jc rfl) rfl (Jg (Ea u87 sz5 rfl rfl rfl (by omega)) rfl (Jg (Jv rfl At.z (by first | exact bytesC_get (by simp [*];omega) | exact intsC_get (by simp [*];omega)) pl5) rfl (Jg (Eq rfl rfl) rfl (Jf (Ja (hK11 (Jp rfl (fun h23=>?_) (fun h23=>?_)))))))))))))
   ·
    refine Jb (Jg (Jc rfl) rfl (Jg (Jc rfl) rfl (Jg (Ea u87 sz5 rfl rfl rfl (by omega)) rfl (Jg (Jv rfl At.z (by first | exact bytesC_get (by simp [*];omega) | exact intsC_get (by simp [*];omega)) pl5) rfl (Jg (EE u5 u2 rfl (by first | exact nw _ (by omega) | rfl)) rfl (Jz fn68 rfl rfl fun w hH=>(l01Dec_c (by omega) hH).mono ?_))))));rintro _ w ⟨rfl,hH⟩;refine ⟨_,rfl,fun a hF=>JL hF hH ?_⟩;refine Jg (Em rfl rfl (by first | omega | (simp only [List.length_append,List.length_singleton];omega))) rfl (Jg (Je rfl) rfl (Jf (JJ (Ja (hK7 (Jb (Jg (Jc rfl) rfl (Jg (JF rfl rfl (by first | exact nw _ (by omega) | rfl)) rfl (Jg (Je rfl) rfl (Jf (Ja ?_)))))))))));exact hAg0 (i+1) (by omega) (by omega) 23 rfl rfl ⟨rfl,⟨(by exfalso;omega),trivial⟩⟩ rfl rfl
   ·
    refine Jo (JJ (Ja (hK7 (Jb (Jg (Jc rfl) rfl (Jg (JF rfl rfl (by first | exact nw _ (by omega) | rfl)) rfl (Jg (Je rfl) rfl (Jf (Ja ?_)))))))));exact hAg0 (i+1) (by omega) (by omega) 15 rfl rfl ⟨rfl,⟨(vS (mnT_nn h12)),trivial⟩⟩ rfl rfl
 ·
  refine JR (Jw (Jw (JY (Ja (hK3 (Jd fun _ hK12 _=>(Jd fun _ hK13 _=>(Jb (Jg (Jc rfl) rfl (Jg (EU rfl rfl) rfl (Jf (Ja (hK13 (Jp rfl (fun h32=>?_) (fun h32=>?_)))))))))))))))
  ·
   refine Jd fun _ hK14 _=>(Jb (Jg (Je rfl) rfl (Jf (Ja (hK14 (Jt (Jn (Jy rfl (Res.tmp rfl) fun w hH=>?_))))))));replace hH:=hH.tail
   obtain rfl:i=8:=by omega
   exact ⟨by unfold nameT;rw [if_pos h32],hH⟩
  ·
   refine Jo (Ja (hK12 (Jd fun _ hK15 _=>(Jb (Jg (Jc rfl) rfl (Jg (Je rfl) rfl (Jf (Ja (hK15 (Jt (Jy rfl (Res.tmp rfl) fun w hH=>?_)))))))))));replace hH:=hH.tail
   obtain rfl:i=8:=by omega
   exact ⟨by unfold nameT;rw [if_neg h32],hH⟩
theorem l01Text_c {B:World} {H0 H:HP} {L:List SA} {w:World} {qts:Option Addr} {cts:Nat} {ts:List Term} (hts:Terms H qts ts) (hl:ts.length≤400) (hf : ∀i,i<ts.length→0≤(tm ts i).fac) (hH:Hp B H0 H L w):Calls Tryz.prog 69 [.agg [.slice qts ts.length cts].toArray].toArray w fun e w'=>e = .returned (sV (textT ts))∧Hp B H0 H L w':=by
 refine JD Tryz.func69 rfl 39 rfl rfl [(0,.agg [.slice qts ts.length cts].toArray)] rfl hH ?_;clear hH;have hp9:=fun k (h:k≤ts.length)=>preT_len hts.wfs hf h;refine Jd fun _ hK1 _=>(Jb (Eo rfl rfl rfl fun g1=>(Jg (Je rfl) rfl (Jf (Ja (hK1 (Jd fun _ hK2 _=>(Jd fun _ hK3 _=>(Jb (Jg (Jq u42 rfl sz40 rfl) rfl (Jg (Jv rfl At.z rfl pl40) rfl (Jg (Jr u40 rfl rfl) rfl (Jg (En rfl rfl) rfl (Jf (Ja (hK3 ?_))))))))))))))));refine Jp rfl (fun h8=>?_) (fun h8=>?_)
 ·
  refine Jd fun _ hK4 _=>(Jb (Jg (Je rfl) rfl (Jf (Ja (hK4 (Jt (Jn (Jy rfl (Res.tmp rfl) fun w hH=>?_))))))));replace hH:=hH.tail;exact ⟨by unfold textT;rw [if_pos (by omega)],hH⟩
 ·
  refine Jo (Ja (hK2 (Jd fun _ hK5 _=>(Jb (Jg (Je rfl) rfl (Jf (Ja (hK5 (Jd fun _ hK6 _=>(Jd fun _ hK7 _=>(Jb (Jg (Je rfl) rfl (Jf (Ja (hK7 (Jx (JP (σ:=Nat) (fun (i:Nat)=>[(4,.int .i64 (i:Int)),(3,sV (preT ts i))]) (fun (i:Nat)=>H) (fun (i:Nat)=>obj g1 (.cells [.slice qts ts.length cts].toArray 42 (0,0))::L) (fun (i:Nat)=>i≤ts.length) (fun (i:Nat)=>ts.length - i) 0 (by omega) ⟨rfl,⟨rfl,trivial⟩⟩ rfl rfl ?_)))))))))))))))));rintro i hi _ hAg0;have hpl:=hp9 i hi;refine Jd fun _ hK8 _=>(Jd fun _ hK9 _=>(Jb (Jg (Jc rfl) rfl (Jg (Jq u42 rfl sz40 rfl) rfl (Jg (Jv rfl At.z rfl pl40) rfl (Jg (Jr u40 rfl rfl) rfl (Jg (JZ rfl rfl) rfl (Jf (Ja (hK9 (Jp rfl (fun h13=>?_) (fun h13=>?_))))))))))))
  ·
   have hil:i<ts.length:=by omega
   have hfi:=hf i hil;have hmw:=(hts.wf i hil);have hfu:=hmw.fac.2;have hdl:=decL_len hfi hmw.fac.2;have hnl:=nameT_len hmw.mono.bd;refine Jo (Ja (hK8 (Jd fun _ hK10 _=>(Jx (Jd fun _ hK11 _=>(Jd fun _ hK12 _=>(Jb (Jg (Jc rfl) rfl (Jg (Eq rfl rfl) rfl (Jf (Ja (hK12 (Jp rfl (fun h17=>?_) (fun h17=>?_))))))))))))))
   ·
    refine Jb (Jg (Jc rfl) rfl (Jg (Em rfl rfl (by first | omega | (simp only [List.length_append,List.length_singleton];omega))) rfl (Jg (Je rfl) rfl (Jf (Ja (hK11 (Ev [[], [], [1], [], [2,3], [4], [5], [6], [0,7], [8], [], [10], [], [11,12], [13], [14], [15]] (by kernel_rfl) (JB (fun gh=>Jc rfl) (JB (fun gh=>Jq u42 rfl sz40 rfl) (JB (fun gh=>Jv rfl At.z rfl pl40) (JB (fun gh=>Jc rfl) (JB (fun gh=>EA u40 sz89 rfl rfl rfl (by omega) hts.sm) (JB (fun gh=>EC u89 rfl sz2 rfl (hts.sm (i:=i) (by omega))) (JB (fun gh=>JX rfl (hts.fac (by omega)) pl2) (ES fn68 (fun gh=>rfl) (fun w X hH=>l01Dec_c (by omega) hH) ?_)))))))))))))));refine JB (fun gh=>Em rfl rfl (by first | omega | (simp only [List.length_append,List.length_singleton];omega))) (JB (fun gh=>Em rfl rfl (by first | omega | (simp only [List.length_append,List.length_singleton];omega))) (JB (fun gh=>Jq u42 rfl sz40 rfl) (JB (fun gh=>Jv rfl At.z rfl pl40) (JB (fun gh=>Jc rfl) (JB (fun gh=>EA u40 sz89 rfl rfl rfl (by omega) hts.sm) (JB (fun gh=>EC u89 rfl sz87 rfl (hts.sm (i:=i) (by omega))) (JB (fun gh=>JT rfl (hts.mono (by omega)) (hts.sm (i:=i) (by omega)) (by rw [bytesC_length,(hts.wf _ (by omega)).mono.len];exact ag87)) (ES fn112 (fun gh=>rfl) (fun w X hH=>l01Name_c (hts.wf i (by omega)).mono hH) (Ee 17 0 foll0 (by kernel_rfl) rfl rfl fun gh=>(Eu (us':=(20,_)::(21,_)::(22,_)::(23,_)::(24,_)::(25,_)::(26,_)::(27,_)::(28,_)::(29,_)::(30,_)::(31,_)::(32,_)::(33,_)::(34,_)::(35,_)::(36,_)::_) (L':=_) rfl rfl (Jf (Ef (JH (Em rfl rfl (by first | omega | (simp only [List.length_append,List.length_singleton];omega))) rfl (JH (Je rfl) rfl ?_))))))))))))));refine Ej (JJ (Ja (hK10 (Jb (Jg (Jc rfl) rfl (Jg (JF rfl rfl (by first | exact nw _ (by omega) | rfl)) rfl (Jg (Je rfl) rfl (Jf (Ja ?_)))))))));exact hAg0 (i+1) (by omega) (by omega) 34 rfl rfl ⟨rfl,⟨(vS (preT_p (by omega))),trivial⟩⟩ rfl rfl
   ·
    refine Jo (Ja (hK11 (Ev [[], [], [1], [], [2,3], [4], [5], [6], [0,7], [8], [], [10], [], [11,12], [13], [14], [15]] (by kernel_rfl) (JB (fun gh=>Jc rfl) (JB (fun gh=>Jq u42 rfl sz40 rfl) (JB (fun gh=>Jv rfl At.z rfl pl40) (JB (fun gh=>Jc rfl) (JB (fun gh=>EA u40 sz89 rfl rfl rfl (by omega) hts.sm) (JB (fun gh=>EC u89 rfl sz2 rfl (hts.sm (i:=i) (by omega))) (JB (fun gh=>JX rfl (hts.fac (by omega)) pl2) (ES fn68 (fun gh=>rfl) (fun w X hH=>l01Dec_c (by omega) hH) (JB (fun gh=>Em rfl rfl (by first | omega | (simp only [List.length_append,List.length_singleton];omega))) (JB (fun gh=>Em rfl rfl (by first | omega | (simp only [List.length_append,List.length_singleton];omega))) (JB (fun gh=>Jq u42 rfl sz40 rfl) (JB (fun gh=>Jv rfl At.z rfl pl40) ?_)))))))))))))));refine JB (fun gh=>Jc rfl) (JB (fun gh=>EA u40 sz89 rfl rfl rfl (by omega) hts.sm) (JB (fun gh=>EC u89 rfl sz87 rfl (hts.sm (i:=i) (by omega))) (JB (fun gh=>JT rfl (hts.mono (by omega)) (hts.sm (i:=i) (by omega)) (by rw [bytesC_length,(hts.wf _ (by omega)).mono.len];exact ag87)) (ES fn112 (fun gh=>rfl) (fun w X hH=>l01Name_c (hts.wf i (by omega)).mono hH) (Ee 17 0 foll0 (by kernel_rfl) rfl rfl fun gh=>(Eu (us':=(20,_)::(21,_)::(22,_)::(23,_)::(24,_)::(25,_)::(26,_)::(27,_)::(28,_)::(29,_)::(30,_)::(31,_)::(32,_)::(33,_)::(34,_)::(35,_)::(36,_)::_) (L':=_) rfl rfl (Jf (Ef (JH (Em rfl rfl (by first | omega | (simp only [List.length_append,List.length_singleton];omega))) rfl (JH (Je rfl) rfl (Ej (JJ (Ja (hK10 (Jb ?_)))))))))))))));refine Jg (Jc rfl) rfl (Jg (JF rfl rfl (by first | exact nw _ (by omega) | rfl)) rfl (Jg (Je rfl) rfl (Jf (Ja ?_))));exact hAg0 (i+1) (by omega) (by omega) 31 rfl rfl ⟨rfl,⟨(vS (preT_z (by omega))),trivial⟩⟩ rfl rfl
  ·
   refine JR (Jw (Jw (JY (Ja (hK6 (Jd fun _ hK13 _=>(Jb (Jg (Jc rfl) rfl (Jg (Je rfl) rfl (Jf (Ja (hK13 (Jt (Jy rfl (Res.tmp rfl) fun w hH=>?_))))))))))))));replace hH:=hH.tail
   obtain rfl:i=ts.length:=by omega
   exact ⟨by rw [preT_end ts (by omega)],hH⟩
def att (x:List UInt8):List (List UInt8)→List (List UInt8)
 | []=>[x]
 | y::ys=>(x++y)::ys
def spl (c:UInt8):List UInt8→List (List UInt8)
 | []=>[[]]
 | b::s=>if b=c then []::spl c s else att [b] (spl c s)
theorem att_ne (x:List UInt8) (l:List (List UInt8)):att x l≠ []:=by cases l <;> simp [att]
theorem spl_ne (c:UInt8) : ∀s,spl c s≠ []
 | []=>by simp [spl]
 | b::s=>by
  simp only [spl]
  split
  ·simp
  ·exact att_ne _ _
theorem att_len (x:List UInt8) {l:List (List UInt8)} (h:l≠ []):(att x l).length=l.length:=by
 cases l with
 | nil=>exact absurd rfl h
 | cons y ys=>rfl
theorem spl_len (c:UInt8) : ∀s:List UInt8,(spl c s).length≤s.length+1
 | []=>by simp [spl]
 | b::s=>by
  have ih:=spl_len c s
  simp only [spl]
  split
  ·simp only [List.length_cons]
   omega
  ·rw [att_len _ (spl_ne c s)]
   simp only [List.length_cons]
   omega
theorem att_att (x y:List UInt8) (l:List (List UInt8)):att x (att y l)=att (x++y) l:=by cases l <;> simp [att]
theorem att_nil {l:List (List UInt8)} (h:l≠ []):att [] l=l:=by
 cases l with
 | nil=>exact absurd rfl h
 | cons y ys=>rfl
theorem spl_att {c:UInt8} (s:List UInt8) : ∀{x:List UInt8},(∀b∈x,b≠c)→spl c (x++s)=att x (spl c s)
 | [],_=>(att_nil (spl_ne c s)).symm
 | b::x,h=>by
  rw [JxA,spl,if_neg (h b (by simp)),spl_att s fun y hy=>h y (by simp [hy]),att_att]
  rfl
theorem spl_clean {c:UInt8} {x:List UInt8} (h : ∀b∈x,b≠c):spl c x=[x]:=by
 have:=spl_att (c:=c) [] h;rw [List.append_nil] at this;rw [this]
 simp [spl,att]
theorem spl_app {c:UInt8} {x:List UInt8} (s:List UInt8) (h : ∀b∈x,b≠c):spl c (x++c::s)=x::spl c s:=by
 rw [spl_att _ h,spl,if_pos rfl]
 simp [att]
theorem joinTail_cons (sep b:List UInt8) (r:List (List UInt8)):Lib.joinTail sep (b::r)=sep++b++Lib.joinTail sep r:=by
 unfold Lib.joinTail
 simp
theorem spl_join {c:UInt8} : ∀{xs:List (List UInt8)},xs≠ []→(∀x∈xs,∀b∈x,b≠c)→spl c (Lib.join xs [c])=xs
 | [],h,_=>absurd rfl h
 | [x],_,h=>by
  rw [Lib.join_one]
  exact spl_clean (h x (by simp))
 | x::y::xs,_,h=>by
  have ih:=spl_join (c:=c) (xs:=y::xs) (by simp) fun z hz=>h z (by simp [hz])
  rw [Lib.join_cons] at ih
  rw [Lib.join_cons,joinTail_cons,List.append_assoc,List.singleton_append,spl_app _ (h x (by simp)),ih]
theorem join_spl (c:UInt8) : ∀s:List UInt8,Lib.join (spl c s) [c]=s
 | []=>by simp [spl,Lib.join_one]
 | b::s=>by
  have ih:=join_spl c s
  have hn:=spl_ne c s
  simp only [spl]
  cases hs:spl c s with
  | nil=>exact absurd hs hn
  | cons y ys=>
   rw [hs,Lib.join_cons] at ih
   split
   ·rename_i e
    rw [Lib.join_cons,joinTail_cons,List.append_assoc,ih,e]
    rfl
   ·simp only [att]
    rw [Lib.join_cons,List.append_assoc,ih]
    rfl
theorem index_cons1 (c b:UInt8) (l:List UInt8):Lib.index (b::l) [c]=if b=c then 0 else if Lib.index l [c] = -1 then -1 else Lib.index l [c]+1:=by
 rw [Lib.index]
 by_cases h:b=c
 ·subst h;rw [if_pos rfl]
  simp [List.isPrefixOf]
 ·rw [if_neg h]
  have hp:([c]:List UInt8).isPrefixOf (b::l)=false:=by simp [List.isPrefixOf,Ne.symm h]
  rw [hp]
  by_cases h2:Lib.index l [c] = -1
  ·simp [h2]
  ·rw [if_neg h2,if_neg (by decide),if_neg (by simpa using h2)]
theorem split_spl (c:UInt8) : ∀s:List UInt8,Lib.split s [c]=spl c s
 | []=>by
  unfold Lib.split
  rw [Lib.count_miss (by simp [Lib.index])]
  rfl
 | b::l=>by
  have ih:=split_spl c l
  unfold Lib.split at ih ⊢
  by_cases h:b=c
  ·subst h
   rw [Lib.count_cons_eq,Nat.add_comm,Lib.splitK,index_cons1,if_pos rfl]
   simp only [spl,if_true]
   rw [← ih]
   simp
  ·rw [Lib.count_cons_ne b c l h]
   simp only [spl]
   rw [if_neg h,← ih]
   cases hk:Lib.count l [c] with
   | zero=>rfl
   | succ k=>
    have hm:Lib.index l [c]≠ -1:=fun hm=>by
     rw [Lib.count_miss hm] at hk
     cases hk
    have hge:=Lib.index_ge l [c]
    obtain ⟨j,hj⟩ : ∃j:Nat,Lib.index l [c]=j:=⟨(Lib.index l [c]).toNat,by omega⟩
    rw [Lib.splitK,Lib.splitK,index_cons1,if_neg h,if_neg hm,hj]
    have e1:(((j:Int)+1 == -1)=true)↔False:=⟨fun h=>by have:=beq_iff_eq.1 h;omega,fun h=>h.elim⟩
    have e2:(((j:Int) == -1)=true)↔False:=⟨fun h=>by have:=beq_iff_eq.1 h;omega,fun h=>h.elim⟩
    rw [if_neg (by rw [e1];exact id),if_neg (by rw [e2];exact id)]
    have e3:((j:Int)+1).toNat=j+1:=by omega
    simp only [att,e3,Int.toNat_natCast,List.length_singleton,Nat.add_zero,List.take_succ_cons,List.drop_succ_cons,List.singleton_append]
theorem index_app {c:UInt8} (t:List UInt8) : ∀{x:List UInt8},(∀b∈x,b≠c)→Lib.index (x++c::t) [c]=(x.length:Int)
 | [],_=>by rw [JxB,index_cons1,if_pos rfl];rfl
 | b::x,h=>by
  have ih:=index_app t (x:=x) fun y hy=>h y (by simp [hy])
  rw [JxA,index_cons1,if_neg (h b (by simp)),ih,if_neg (by omega),List.length_cons]
  omega
theorem cut_app {c:UInt8} (t:List UInt8) {x:List UInt8} (h : ∀b∈x,b≠c):Lib.cut (x++c::t) [c]=(x,t,true):=by
 unfold Lib.cut;rw [index_app t h,if_pos (by omega)]
 simp
def isDig (b:UInt8):Bool:=decide (48≤b.toNat) && decide (b.toNat≤57)
def dgV (b:UInt8):Int:=(b.toNat:Int) - 48
def numF:List UInt8→Int→Int
 | [],n=>n
 | b::s,n=>if isDig b then numF s (n * 10+dgV b) else -1
def numS (s:List UInt8):Int:=if s.length=0∨9<s.length∨(1<s.length∧s.getD 0 0=48) then -1 else numF s 0
theorem isDig_iff {b:UInt8}:isDig b=true↔48≤b.toNat∧b.toNat≤57:=by unfold isDig;simp
theorem numF_app (b:UInt8) (hb:isDig b=true) : ∀(s:List UInt8) (n:Int),(∀x∈s,isDig x=true)→numF (s++[b]) n=numF s n * 10+dgV b
 | [],n,_=>by simp [numF,hb]
 | x::s,n,h=>by
  simp only [JxA,numF]
  rw [if_pos (h x (by simp)),if_pos (h x (by simp)),numF_app b hb s _ fun y hy=>h y (by simp [hy])]
theorem numF_bad : ∀(s:List UInt8) (n:Int),0≤n→0≤numF s n→∀x∈s,isDig x=true
 | [],_,_,_=>fun x h=>by simp at h
 | b::s,n,hn,h=>by
  simp only [numF] at h
  split at h
  ·rename_i hb
   have h1:=isDig_iff.1 hb
   have h2:=numF_bad s _ (by unfold dgV;omega) h
   intro x hx
   rcases List.mem_cons.1 hx with rfl | hx
   ·exact hb
   ·exact h2 x hx
  ·omega
theorem dg_ok {d:Nat} (h:d<10):isDig (UInt8.ofNat (48+d))=true∧dgV (UInt8.ofNat (48+d))=d:=by
 have e:(UInt8.ofNat (48+d)).toNat=48+d:=by rw [UInt8.toNat_ofNat'];omega
 unfold isDig dgV;rw [e];exact ⟨by simp;omega,by omega⟩
theorem decD_step {u:Nat} (h : ¬u<10):Lib.decDigits u=Lib.decDigits (u / 10)++[UInt8.ofNat (48+u % 10)]:=by
 rw [Lib.decDigits,dif_neg h]
theorem decD_num : ∀u:Nat,(∀b∈Lib.decDigits u,isDig b=true)∧numF (Lib.decDigits u) 0=u∧Lib.decDigits u≠ []∧(0<u→(Lib.decDigits u).getD 0 0≠48):=fun u=>by
 induction u using Nat.strongRecOn with
 | _ u ih=>
  by_cases h:u<10
  ·have hd:=dg_ok h
   rw [Lib.decDigits_one h]
   refine ⟨fun b hb=>by rw [List.mem_singleton.1 hb];exact hd.1,?_,by simp,fun h0 e=>?_⟩
   ·simp only [numF]
    rw [if_pos hd.1,hd.2]
    omega
   ·have e2:UInt8.ofNat (48+u)=48:=e
    have e3:=congrArg UInt8.toNat e2
    rw [UInt8.toNat_ofNat'] at e3
    have:(48:UInt8).toNat=48:=rfl
    omega
  ·obtain ⟨h1,h2,h3,h4⟩:=ih (u / 10) (by omega)
   have hd:=dg_ok (show u % 10<10 by omega)
   rw [decD_step h]
   refine ⟨fun b hb=>?_,?_,by simp,fun _=>?_⟩
   ·rcases List.mem_append.1 hb with hb | hb
    ·exact h1 b hb
    ·rw [List.mem_singleton.1 hb]
     exact hd.1
   ·rw [numF_app _ hd.1 _ _ h1,h2,hd.2]
    omega
   ·cases hl:Lib.decDigits (u / 10) with
    | nil=>exact absurd hl h3
    | cons a l=>
     have:=h4 (by omega)
     rw [hl] at this
     simpa using this
theorem numS_dec {n:Int} (h:0≤n) (h2:n≤999999999):numS (decL n)=n:=by
 obtain ⟨h1,h3,h4,h5⟩:=decD_num n.toNat
 have hl:(Lib.decDigits n.toNat).length≤9:=by
  rw [Lib.decDigits_length];exact nDigits_le 9 _ (by have h9:(10:Nat) ^ 9=1000000000:=(by decide);omega) (by omega)
 unfold numS decL;rw [if_neg,h3]
 ·omega
 ·rintro (h6 | h6 | ⟨h6,h7⟩)
  ·exact h4 (List.length_eq_zero_iff.1 h6)
  ·omega
  ·by_cases h0:0<n.toNat
   ·exact h5 h0 h7
   ·rw [show n.toNat=0 by omega,Lib.decDigits_one (by omega)] at h6
    simp at h6
theorem dec_of : ∀(s:List UInt8),s≠ []→(∀x∈s,isDig x=true)→(1<s.length→s.getD 0 0≠48)→0≤numF s 0∧Lib.decDigits (numF s 0).toNat=s∧(s.getD 0 0≠48→0<numF s 0):=fun s=>by
 induction h:s.length using Nat.strongRecOn generalizing s with
 | _ k ih=>
  intro hs hd h0
  have hb : ∀b:UInt8,isDig b=true→UInt8.ofNat (48+(dgV b).toNat)=b∧0≤dgV b∧dgV b≤9:=fun b hb=>by
   have h1:=isDig_iff.1 hb
   have e:48+(dgV b).toNat=b.toNat:=by unfold dgV;omega
   rw [e]
   exact ⟨UInt8.ofNat_toNat,by unfold dgV;omega,by unfold dgV;omega⟩
  rcases List.eq_nil_or_concat s with e | ⟨t,b,e⟩
  ·exact absurd e hs
  ·rw [List.concat_eq_append] at e
   subst e
   have hdb:=hd b (by simp)
   obtain ⟨b1,b2,b3⟩:=hb b hdb
   have hdt : ∀x∈t,isDig x=true:=fun x hx=>hd x (by simp [hx])
   rw [numF_app b hdb t 0 hdt]
   by_cases ht:t=[]
   ·subst ht
    simp only [numF,JxB]
    rw [Int.zero_mul,Int.zero_add]
    refine ⟨b2,?_,fun h=>?_⟩
    ·rw [Lib.decDigits_one (by omega),b1]
    ·have h1:b≠48:=h
     have h2:=isDig_iff.1 hdb
     have h3:b.toNat≠48:=fun e=>h1 (by rw [← UInt8.ofNat_toNat (x:=b),e];rfl)
     unfold dgV
     omega
   ·have htl:0<t.length:=List.length_pos_iff.2 ht
    have hg:(t++[b]).getD 0 0=t.getD 0 0:=by
     cases t with
     | nil=>exact absurd rfl ht
     | cons a t=>rfl
    have hne:t.getD 0 0≠48:=by
     rw [← hg]
     exact h0 (by have h9:=h;rw [List.length_append,List.length_singleton] at h9;omega)
    obtain ⟨i1,i2,i3⟩:=ih t.length (by rw [← h,List.length_append,List.length_singleton];omega) t rfl ht hdt fun _=>hne
    have i4:=i3 hne
    refine ⟨by omega,?_,fun _=>by omega⟩
    have e1:(numF t 0 * 10+dgV b).toNat / 10=(numF t 0).toNat:=by omega
    have e2:(numF t 0 * 10+dgV b).toNat % 10=(dgV b).toNat:=by omega
    rw [decD_step (by omega),e1,e2,i2,b1]
theorem dec_num {s:List UInt8} (h:0≤numS s):decL (numS s)=s:=by
 unfold numS at h ⊢
 split at h
 ·omega
 ·rename_i hc
  rw [if_neg hc];have hs:s≠ []:=fun e=>hc (.inl (by rw [e];rfl));exact (dec_of s hs (numF_bad s 0 (by omega) h) fun h1 h2=>hc (.inr (.inr ⟨h1,h2⟩))).2.1
theorem p10_le {i:Nat} (h:i≤9):(10:Int) ^ i≤1000000000:=by
 have h4:(10:Nat) ^ i≤10 ^ 9:=Nat.pow_le_pow_right (by omega) h
 have h5:((10 ^ i:Nat):Int)≤((10 ^ 9:Nat):Int):=by omega
 rw [Int.natCast_pow] at h5
 simpa using h5
theorem decF_num : ∀(l:List UInt8) (acc:Nat),(∀b∈l,isDig b=true)→Lib.decFrom acc l=some (numF l (acc:Int)).toNat
 | [],acc,_=>by simp [Lib.decFrom,numF]
 | b::l,acc,h=>by
  have hb:=h b (by simp)
  have h1:=isDig_iff.1 hb
  simp only [Lib.decFrom,Lib.digitVal,numF]
  rw [if_pos h1,if_pos hb]
  simp only
  rw [decF_num l _ fun x hx=>h x (by simp [hx])]
  have e:((acc * 10+(b.toNat - 48):Nat):Int)=(acc:Int) * 10+dgV b:=by unfold dgV;omega
  rw [e]
theorem atoi_dec {u:Nat}:Lib.atoi (Lib.decDigits u)=some (u:Int):=by
 obtain ⟨h1,h2,h3,_⟩:=decD_num u
 have hd:Lib.decNat (Lib.decDigits u)=some u:=by
  unfold Lib.decNat
  rw [if_neg (by cases h:Lib.decDigits u with
   | nil=>exact absurd h h3
   | cons a l=>simp),decF_num _ 0 h1]
  congr 1
  have e:((0:Nat):Int)=0:=rfl;rw [e,h2]
  omega
 cases h:Lib.decDigits u with
 | nil=>exact absurd h h3
 | cons a l=>
  have ha:=isDig_iff.1 (h1 a (by rw [h];simp));rw [h] at hd;simp only [Lib.atoi]
  have n1:(a == 45)=false:=by
   rw [beq_eq_false_iff_ne];intro e;rw [e] at ha;exact absurd ha (by decide)
  have n2:(a == 43)=false:=by
   rw [beq_eq_false_iff_ne];intro e;rw [e] at ha;exact absurd ha (by decide)
  rw [n1,n2,hd]
  rfl
theorem parse_dec {n:Int} (h:0≤n) (h2:n≤999999999):Lib.parseIntB 64 (decL n) = .ok n:=by
 have hl:(Lib.decDigits n.toNat).length≤9:=by
  rw [Lib.decDigits_length];exact nDigits_le 9 _ (by have h9:(10:Nat) ^ 9=1000000000:=(by decide);omega) (by omega)
 unfold decL;rw [Lib.parseIntB_64,Lib.atoiAll_short _ (by omega),atoi_dec]
 show Lib.NumEnd.ok _=_
 congr 1
 omega
theorem atoiAll_dec {n:Int} (h:0≤n) (h2:n≤999999999):Lib.atoiAll (decL n) = .ok n:=by
 rw [← Lib.parseIntB_64];exact parse_dec h h2
def digs (s:List UInt8):List UInt8:=s.takeWhile isDig
def rst (s:List UInt8):List UInt8:=s.dropWhile isDig
theorem rst_len (s:List UInt8):(rst s).length≤s.length:=by
 have:=congrArg List.length (List.takeWhile_append_dropWhile (p:=isDig) (l:=s));rw [List.length_append] at this;unfold rst
 omega
theorem digs_rst (s:List UInt8):digs s++rst s=s:=List.takeWhile_append_dropWhile
theorem digs_app {a:List UInt8} (b:List UInt8) (ha : ∀x∈a,isDig x=true) (hb : ∀x t,b=x::t→isDig x=false):digs (a++b)=a∧rst (a++b)=b:=by
 induction a with
 | nil=>
  cases b with
  | nil=>exact ⟨rfl,rfl⟩
  | cons x t=>
   have:=hb x t rfl
   simp [digs,rst,this]
 | cons x a ih=>
  have hx:=ha x (by simp);obtain ⟨h1,h2⟩:=ih fun y hy=>ha y (by simp [hy]);unfold digs rst at *;simp only [JxA,List.takeWhile_cons,List.dropWhile_cons,hx,if_true];exact ⟨by rw [h1],h2⟩
def ltr (b:UInt8):Bool:=decide (97≤b.toNat) && decide (b.toNat≤104)
def zer8:List Int:=List.replicate 8 0
def expS (d:List UInt8):Int:=if d.length=0 then 1 else numS d
def namF:Nat→List UInt8→List Int→Option (List Int)
 | 0,_,_=>none
 | _+1, [],m=>some m
 | f+1,b::s,m=>if ltr b && (decide (1≤expS (digs s)) && decide (expS (digs s)≤20)) then namF f (rst s) (m.set (b.toNat - 97) (expS (digs s))) else none
def namS (t:List UInt8):Option (List Int):=if t=[49] then some zer8 else if t=[] then none else namF (t.length+1) t zer8
def atV (d:List UInt8):Int:=match Lib.atoiAll d with
 | .ok v=>v
 | .range=>Lib.atoiSat d
 | _=>0
def expI (d:List UInt8):Int:=if d.length=0 then 1 else atV d
def min255 (x:Int):Int:=if x>255 then 255 else x
def monF:Nat→List UInt8→List Int→List Int
 | 0,_,m=>m
 | _+1, [],m=>m
 | f+1,b::s,m=>monF f (rst s) (if ltr b then m.set (b.toNat - 97) (min255 (expI (digs s))) else m)
def monR (t:List UInt8):List Int:=monF (t.length+1) t zer8
theorem set_mn {m:List Int} {i:Nat} {x:Int} (h:Mono m) (hx:0≤x∧x≤255):Mono (m.set i x):=⟨by rw [List.length_set];exact h.len,fun j=>by
 rw [getD_set8]
 split
 ·exact hx
 ·exact h.bd j⟩
theorem zer8_get (j:Nat):zer8.getD j 0=0:=by
 unfold zer8;rw [List.getD_eq_getElem?_getD,List.getElem?_replicate]
 split <;> rfl
theorem zer8_mn:Mono zer8:=⟨by simp [zer8],fun j=>by rw [zer8_get];omega⟩
theorem namF_mn : ∀(f:Nat) (s:List UInt8) (m m':List Int),Mono m→namF f s m=some m' →Mono m'
 | 0,_,_,_,_,h=>by simp [namF] at h
 | f+1, [],m,m',hm,h=>by
  simp only [namF,Option.some.injEq] at h
  rw [← h]
  exact hm
 | f+1,b::s,m,m',hm,h=>by
  simp only [namF] at h
  split at h
  ·rename_i hc
   simp only [Bool.and_eq_true,decide_eq_true_eq] at hc
   exact namF_mn f _ _ _ (set_mn hm (by omega)) h
  ·cases h
theorem namS_mn {t:List UInt8} {m:List Int} (h:namS t=some m):Mono m:=by
 unfold namS at h
 split at h
 ·cases h
  exact zer8_mn
 ·split at h
  ·cases h
  ·exact namF_mn _ _ _ _ zer8_mn h
def sufT (m:List Int):Nat→Nat→List UInt8
 | _,0=>[]
 | i,k+1=>letT m i++sufT m (i+1) k
theorem sufT_mon (m:List Int) : ∀(k i:Nat),mnT m i++sufT m i k=mnT m (i+k)
 | 0,i=>by simp [sufT]
 | k+1,i=>by
  have:=sufT_mon m k (i+1)
  simp only [mnT] at this
  simp only [sufT]
  rw [← List.append_assoc,this]
  congr 1
  omega
theorem u8_97 {i:Nat} (h:i<8):(UInt8.ofNat (97+(i:Int)).toNat).toNat=97+i:=by
 rw [UInt8.toNat_ofNat']
 omega
theorem sufT_head {m:List Int} : ∀{k i:Nat},i+k≤8→∀x t,sufT m i k=x::t→isDig x=false
 | 0,_,_,x,t,h=>by simp [sufT] at h
 | k+1,i,hk,x,t,h=>by
  simp only [sufT,letT] at h
  by_cases h1:0<m.getD i 0
  ·rw [if_pos h1] at h
   simp only [List.singleton_append,JxA,List.cons.injEq] at h
   rw [← h.1]
   unfold isDig
   rw [u8_97 (by omega)]
   simp
   omega
  ·rw [if_neg h1,if_neg (show ¬1<m.getD i 0 by omega),JxB,JxB] at h
   exact sufT_head (by omega) x t h
theorem fill_set {m a:List Int} {i:Nat} (ha:a.length=8) (hm:m.length=8) (hi:i<8) (h0 : ∀j,j<i→a.getD j 0=m.getD j 0) (hz : ∀j,i≤j→a.getD j 0=0):(∀j,j<i+1→(a.set i (m.getD i 0)).getD j 0=m.getD j 0)∧∀j,i+1≤j→(a.set i (m.getD i 0)).getD j 0=0:=⟨fun j hj=>by
 rw [getD_set8]
 by_cases e:i=j
 ·rw [if_pos ⟨e,by omega⟩,e]
 ·rw [if_neg fun h=>e h.1]
  exact h0 j (by omega),fun j hj=>by
 rw [getD_set8,if_neg fun h=>by omega]
 exact hz j (by omega)⟩
theorem let_one {m:List Int} {i k:Nat} (hi:i+(k+1)≤8) (h1:m.getD i 0=1) : ∃s,sufT m i (k+1)=UInt8.ofNat (97+(i:Int)).toNat::s∧digs s=[]∧rst s=sufT m (i+1) k:=by
 refine ⟨sufT m (i+1) k,by
  simp only [sufT,letT];rw [if_pos (show 0<m.getD i 0 by omega),if_neg (show ¬1<m.getD i 0 by omega),List.append_nil]
  rfl,?_⟩
 have:=digs_app (a:=[]) (sufT m (i+1) k) (by simp) (sufT_head (by omega))
 simpa using this
theorem let_two {m:List Int} {i k:Nat} (hi:i+(k+1)≤8) (h1:1<m.getD i 0) : ∃s,sufT m i (k+1)=UInt8.ofNat (97+(i:Int)).toNat::s∧digs s=decL (m.getD i 0)∧rst s=sufT m (i+1) k:=by
 refine ⟨decL (m.getD i 0)++sufT m (i+1) k,?_,digs_app _ (decD_num _).1 (sufT_head (by omega))⟩;simp only [sufT,letT];rw [if_pos (by omega),if_pos h1]
 simp
theorem nam_suf {m:List Int} (hm:m.length=8) (hb : ∀j,0≤m.getD j 0∧m.getD j 0≤20) : ∀(k i f:Nat) (a:List Int),i+k=8→(sufT m i k).length<f→a.length=8→(∀j,j<i→a.getD j 0=m.getD j 0)→(∀j,i≤j→a.getD j 0=0)→namF f (sufT m i k) a=some m∧monF f (sufT m i k) a=m
 | 0,i,0,a,_,hf,_,_,_=>by omega
 | 0,i,f+1,a,hk,_,ha,h0,_=>by
  have e:a=m:=list_eq_of (by omega) fun j hj=>h0 j (by omega)
  simp only [sufT,namF,monF]
  exact ⟨by rw [e],e⟩
 | k+1,i,f,a,hk,hf,ha,h0,hz=>by
  have hbi:=hb i
  rcases (show m.getD i 0=0∨m.getD i 0=1∨1<m.getD i 0 by omega) with h1 | h1 | h1
  ·have e:sufT m i (k+1)=sufT m (i+1) k:=by
    simp only [sufT,letT]
    rw [if_neg (show ¬0<m.getD i 0 by omega),if_neg (show ¬1<m.getD i 0 by omega)]
    rfl
   rw [e] at hf ⊢
   refine nam_suf hm hb k (i+1) f a (by omega) hf ha (fun j hj=>?_) fun j hj=>hz j (by omega)
   by_cases e2:j=i
   ·rw [e2,hz i (Nat.le_refl _),h1]
   ·exact h0 j (by omega)
  ·obtain ⟨s,e,e1,e2⟩:=let_one (m:=m) (i:=i) (k:=k) (by omega) h1
   obtain ⟨g1,g2⟩:=fill_set ha hm (show i<8 by omega) h0 hz
   rw [e] at hf ⊢
   have hl:ltr (UInt8.ofNat (97+(i:Int)).toNat)=true:=by
    unfold ltr
    rw [u8_97 (by omega)]
    simp
    omega
   cases f with
   | zero=>omega
   | succ f=>
    have hlen:(sufT m (i+1) k).length<f:=by
     have:=rst_len s
     rw [e2] at this
     simp only [List.length_cons] at hf
     omega
    have ih:=nam_suf hm hb k (i+1) f (a.set i (m.getD i 0)) (by omega) hlen (by simp [ha]) g1 g2
    simp only [namF,monF]
    rw [hl,e1,e2,u8_97 (by omega),show 97+i - 97=i by omega]
    have x1:expS []=m.getD i 0:=h1.symm
    have x2:min255 (expI [])=m.getD i 0:=h1.symm
    rw [x1,x2,if_pos (by rw [decide_eq_true (show 1≤m.getD i 0 by omega),decide_eq_true hbi.2];rfl),if_pos rfl]
    exact ih
  ·obtain ⟨s,e,e1,e2⟩:=let_two (m:=m) (i:=i) (k:=k) (by omega) h1
   obtain ⟨g1,g2⟩:=fill_set ha hm (show i<8 by omega) h0 hz
   rw [e] at hf ⊢
   have hl:ltr (UInt8.ofNat (97+(i:Int)).toNat)=true:=by
    unfold ltr
    rw [u8_97 (by omega)]
    simp
    omega
   cases f with
   | zero=>omega
   | succ f=>
    have hlen:(sufT m (i+1) k).length<f:=by
     have:=rst_len s
     rw [e2] at this
     simp only [List.length_cons] at hf
     omega
    have ih:=nam_suf hm hb k (i+1) f (a.set i (m.getD i 0)) (by omega) hlen (by simp [ha]) g1 g2
    have hdn:(decL (m.getD i 0)).length≠0:=fun h=>(decD_num (m.getD i 0).toNat).2.2.1 (List.length_eq_zero_iff.1 h)
    simp only [namF,monF]
    rw [hl,e1,e2,u8_97 (by omega),show 97+i - 97=i by omega]
    have x1:expS (decL (m.getD i 0))=m.getD i 0:=by
     unfold expS
     rw [if_neg hdn]
     exact numS_dec (n:=m.getD i 0) (by omega) (by omega)
    have x2:min255 (expI (decL (m.getD i 0)))=m.getD i 0:=by
     unfold expI atV
     rw [if_neg hdn,atoiAll_dec (n:=m.getD i 0) (by omega) (by omega)]
     simp only
     unfold min255
     rw [if_neg (by omega)]
    rw [x1,x2,if_pos (by rw [decide_eq_true (show 1≤m.getD i 0 by omega),decide_eq_true hbi.2];rfl),if_pos rfl]
    exact ih
theorem name_read {m:List Int} (hm:m.length=8) (hb : ∀j,0≤m.getD j 0∧m.getD j 0≤20):namS (nameT m)=some m∧monR (nameT m)=m:=by
 have e:sufT m 0 8=mnT m 8:=by
  have h:=sufT_mon m 8 0;rw [show mnT m 0=[] from rfl,JxB] at h;exact h
 have h:=fun f hf=>nam_suf hm hb 8 0 f zer8 (by omega) hf (by simp [zer8]) (fun j hj=>by omega) fun j _=>zer8_get j;unfold nameT
 by_cases hn:mnT m 8=[]
 ·rw [if_pos hn];rw [hn] at e;have h1:=h 1 (by rw [e];simp);rw [e] at h1;simp only [namF,monF] at h1;refine ⟨by unfold namS;rw [if_pos rfl];exact h1.1,?_⟩;unfold monR
  have:ltr 49=false:=by decide
  simp only [List.length_singleton,monF,this];exact h1.2
 ·rw [if_neg hn];have h1:=h ((mnT m 8).length+1) (by rw [e];omega);rw [e] at h1;refine ⟨?_,h1.2⟩;unfold namS;rw [if_neg,if_neg hn]
  ·exact h1.1
  ·intro h49;rw [← e] at h49;have:=sufT_head (m:=m) (k:=8) (i:=0) (by omega) 49 [] h49;exact absurd this (by decide)
theorem atV_nn {d:List UInt8} (h : ∀x∈d,isDig x=true):0≤atV d∧atV d≤9223372036854775807:=by
 unfold atV
 cases d with
 | nil=>
  simp [Lib.atoiAll]
 | cons a l=>
  have ha:=isDig_iff.1 (h a (by simp));have e:=Lib.atoiAll_plain a l (by omega) (by omega)
  rcases hh:Lib.atoiAll (a::l) with v | _ | _
  ·have hb:=Lib.atoiAll_bounds hh;refine ⟨?_,hb.2⟩;rw [e] at hh
   rcases hp:Lib.parseMag (a::l) with u | _ | _
   ·rw [hp] at hh;simp only [Lib.signless] at hh
    by_cases hu:9223372036854775808≤u
    ·rw [if_pos hu] at hh
     cases hh
    ·rw [if_neg hu] at hh
     cases hh
     simp only
     omega
   ·rw [hp] at hh
    cases hh
   ·rw [hp] at hh
    cases hh
  ·simp
  ·simp only;rw [Lib.atoiSat_other a l (by omega)]
   omega
def wrdI (w:List UInt8):Option Term:=match Lib.parseIntB 64 (Lib.cut w [42]).1 with
 | .ok n=>some ⟨monR (Lib.cut w [42]).2.1,n⟩
 | _=>none
def wrdS (w:List UInt8):Option Term:=match spl 42 w with
 | [a,b]=>(namS b).map fun m=>⟨m,numS a⟩
 | _=>none
def allO {α:Type} (f:List UInt8→Option α):List (List UInt8)→Option (List α)
 | []=>some []
 | w::ws=>match f w with
  | none=>none
  | some x=>(allO f ws).map fun xs=>x::xs
def chkT (ds:List Int) (t:List UInt8) (f:List Term):Bool:=isForm ds f && decide (textT f=t)
def rdI (ds:List Int) (t:List UInt8):List Term × Bool:=if t=[48] then ([],true) else match allO wrdI (spl 43 t) with
 | none=>([],false)
 | some f=>(f,chkT ds t f)
def rdS (ds:List Int) (t:List UInt8):List Term × Bool:=if t=[48] then ([],true) else if 400<(spl 43 t).length then ([],false) else match allO wrdS (spl 43 t) with
 | none=>([],false)
 | some f=>(f,chkT ds t f)
def okBy (b:UInt8):Bool:=isDig b || ltr b
theorem okBy_ne {b c:UInt8} (h:okBy b=true) (hc:c.toNat<48∨c.toNat=58∨c.toNat=59):b≠c:=fun e=>by
 subst e
 unfold okBy isDig ltr at h
 simp only [Bool.or_eq_true,Bool.and_eq_true,decide_eq_true_eq] at h
 omega
theorem dec_okB (n:Int) : ∀b∈decL n,okBy b=true:=fun b hb=>by
 unfold okBy
 rw [(decD_num n.toNat).1 b hb]
 rfl
theorem let_okB (m:List Int) {i:Nat} (hi:i<8) : ∀b∈letT m i,okBy b=true:=fun b hb=>by
 unfold letT at hb
 rcases List.mem_append.1 hb with h | h
 ·split at h
  ·rw [List.mem_singleton.1 h]
   unfold okBy ltr
   rw [u8_97 hi]
   simp
   omega
  ·simp at h
 ·split at h
  ·exact dec_okB _ b h
  ·simp at h
theorem mon_okB (m:List Int) : ∀k,k≤8→∀b∈mnT m k,okBy b=true
 | 0,_,b,h=>by simp [mnT] at h
 | k+1,hk,b,h=>by
  simp only [mnT] at h
  rcases List.mem_append.1 h with h | h
  ·exact mon_okB m k (by omega) b h
  ·exact let_okB m (by omega) b h
theorem name_okB (m:List Int) : ∀b∈nameT m,okBy b=true:=fun b hb=>by
 unfold nameT at hb
 split at hb
 ·rw [List.mem_singleton.1 hb]
  decide
 ·exact mon_okB m 8 (by omega) b hb
theorem term_ne (t:Term) {c:UInt8} (hc:c.toNat=43∨c.toNat=58∨c.toNat=59) : ∀b∈termT t,b≠c:=fun b hb=>by
 unfold termT at hb
 rcases List.mem_append.1 hb with h | h
 ·rcases List.mem_append.1 h with h | h
  ·exact okBy_ne (dec_okB _ b h) (by omega)
  ·rw [List.mem_singleton.1 h]
   intro e
   rw [← e] at hc
   have:(42:UInt8).toNat=42:=rfl
   omega
 ·exact okBy_ne (name_okB _ b h) (by omega)
theorem join_ne {c s:UInt8} (hs:s≠c) : ∀{xs:List (List UInt8)},(∀x∈xs,∀b∈x,b≠c)→∀b∈Lib.join xs [s],b≠c
 | [],_,b,h=>by simp [Lib.join_nil] at h
 | [x],h,b,hb=>by
  rw [Lib.join_one] at hb
  exact h x (by simp) b hb
 | x::y::xs,h,b,hb=>by
  have ih:=join_ne hs (xs:=y::xs) fun z hz=>h z (by simp [hz])
  rw [Lib.join_cons,joinTail_cons,List.append_assoc] at hb
  rcases List.mem_append.1 hb with hb | hb
  ·exact h x (by simp) b hb
  ·rcases List.mem_append.1 hb with hb | hb
   ·rw [List.mem_singleton.1 hb]
    exact hs
   ·refine ih b ?_
    rw [Lib.join_cons]
    exact hb
theorem text_ne (f:List Term) {c:UInt8} (hc:c.toNat=58∨c.toNat=59) : ∀b∈textT f,b≠c:=fun b hb=>by
 unfold textT at hb
 split at hb
 ·rw [List.mem_singleton.1 hb]
  intro e
  rw [← e] at hc
  have:(48:UInt8).toNat=48:=rfl
  omega
 ·refine join_ne (fun e=>by
   rw [← e] at hc
   have:(43:UInt8).toNat=43:=rfl
   omega) (fun x hx=>?_) b hb
  obtain ⟨t,_,rfl⟩:=List.mem_map.1 hx
  exact term_ne t (by omega)
structure TmOk (t:Term):Prop where
 len:t.mono.length=8
 bd : ∀j,0≤t.mono.getD j 0∧t.mono.getD j 0≤20
 fac:1≤t.fac∧t.fac≤10006
theorem form_tmOk {ds:List Int} {f:List Term} (hf:isForm ds f=true) (hw:Wfs f) : ∀t∈f,TmOk t:=fun t ht=>by
 have hs:=isForm_sok hw hf
 have hm:(t.mono,t.fac)∈toS f:=List.mem_map.2 ⟨t,ht,rfl⟩
 have h1:=hs.key _ hm
 exact ⟨h1.len,h1.bd,hs.val _ hm⟩
theorem wrdI_term {t:Term} (h:TmOk t):wrdI (termT t)=some t:=by
 unfold wrdI termT;rw [List.append_assoc,List.singleton_append,cut_app _ fun b hb=>okBy_ne (dec_okB _ b hb) (by decide),parse_dec (by have:=h.fac;omega) (by have:=h.fac;omega)];simp only;rw [(name_read h.len h.bd).2]
theorem wrdS_term {t:Term} (h:TmOk t):wrdS (termT t)=some t:=by
 unfold wrdS termT;rw [List.append_assoc,List.singleton_append,spl_app _ fun b hb=>okBy_ne (dec_okB _ b hb) (by decide),spl_clean fun b hb=>okBy_ne (name_okB _ b hb) (by decide)];simp only;rw [(name_read h.len h.bd).1,numS_dec (by have:=h.fac;omega) (by have:=h.fac;omega)]
 rfl
theorem allO_map {α β:Type} {f:List UInt8→Option α} {g:β→List UInt8} {h:β→α} : ∀{l:List β},(∀x∈l,f (g x)=some (h x))→allO f (l.map g)=some (l.map h)
 | [],_=>rfl
 | x::l,hx=>by
  simp only [List.map_cons,allO]
  rw [hx x (by simp),allO_map fun y hy=>hx y (by simp [hy])]
  rfl
theorem spl_text {f:List Term} (h:f≠ []):spl 43 (textT f)=f.map termT:=by
 unfold textT;rw [if_neg fun e=>h (List.length_eq_zero_iff.1 e)];refine spl_join (by simpa using h) fun x hx=>?_;obtain ⟨t,_,rfl⟩:=List.mem_map.1 hx;exact term_ne t (.inl (by decide))
theorem term_long (t:Term):3≤(termT t).length:=by
 have h1:(decL t.fac)≠ []:=(decD_num t.fac.toNat).2.2.1;have h2:=List.length_pos_iff.2 h1
 have h3:0<(nameT t.mono).length:=by
  unfold nameT
  split
  ·simp
  ·rename_i h
   exact List.length_pos_iff.2 h
 unfold termT;simp only [List.length_append,List.length_singleton]
 omega
theorem text_48 {f:List Term} (h:f≠ []):textT f≠ [48]:=fun e=>by
 have h1:=spl_text h
 rw [e] at h1
 have h2:spl 43 [48]=[[48]]:=by decide
 rw [h2] at h1
 cases f with
 | nil=>exact h rfl
 | cons t f=>
  simp only [List.map_cons,List.cons.injEq] at h1
  have:=term_long t
  rw [← h1.1] at this
  simp at this
def okR (ds:List Int) (t:List UInt8) (f:List Term):Prop:=isForm ds f=true∧Wfs f∧textT f=t
theorem isForm_nil (ds:List Int):isForm ds []=true:=by unfold isForm;simp
theorem rd_yes {ds:List Int} {t:List UInt8} {f:List Term} (h:okR ds t f):rdI ds t=(f,true)∧rdS ds t=(f,true):=by
 obtain ⟨h1,h2,h3⟩:=h;unfold rdI rdS
 by_cases hf:f=[]
 ·subst hf
  have:t=[48]:=by rw [← h3];rfl
  rw [if_pos this,if_pos this];exact ⟨rfl,rfl⟩
 ·have ht:t≠ [48]:=by rw [← h3];exact text_48 hf
  have hk:=form_tmOk h1 h2;have e:=spl_text hf;rw [h3] at e;have h4:=isForm_len4 h1
  have hc:chkT ds t f=true:=by unfold chkT;rw [h1,decide_eq_true h3];rfl
  have a1:allO wrdI (f.map termT)=some (f.map id):=allO_map fun x hx=>wrdI_term (hk x hx);have a2:allO wrdS (f.map termT)=some (f.map id):=allO_map fun x hx=>wrdS_term (hk x hx);rw [List.map_id] at a1 a2;rw [if_neg ht,if_neg ht,e,if_neg (by rw [List.length_map];omega),a1,a2];simp only [hc];exact ⟨trivial,trivial⟩
theorem chkT_y {ds:List Int} {t:List UInt8} {f:List Term} (h:chkT ds t f=true):isForm ds f=true∧textT f=t:=by
 unfold chkT at h;exact ⟨(Bool.and_eq_true_iff.1 h).1,of_decide_eq_true (Bool.and_eq_true_iff.1 h).2⟩
theorem allO_wf {f:List UInt8→Option Term} (hf : ∀w t,f w=some t→Term.wf t) : ∀{ws:List (List UInt8)} {ts:List Term},allO f ws=some ts→Wfs ts
 | [],ts,h=>by
  simp only [allO,Option.some.injEq] at h
  rw [← h]
  exact Wfs.nil
 | w::ws,ts,h=>by
  simp only [allO] at h
  cases hw:f w with
  | none=>rw [hw] at h;cases h
  | some x=>
   rw [hw] at h
   cases hr:allO f ws with
   | none=>rw [hr] at h;cases h
   | some xs=>
    rw [hr] at h
    simp only [Option.map_some,Option.some.injEq] at h
    rw [← h]
    intro t ht
    rcases List.mem_cons.1 ht with rfl | ht
    ·exact hf w _ hw
    ·exact allO_wf hf hr t ht
end Go.Proofs.YtffgojlocbafhaaGreatDoor.G
namespace Go.Proofs
open Go.Shelf
def Tryz.lays156_ren:Go.Shelf.Ren:=⟨fun | 156=>66 | 165=>108 | 166=>109 | 169=>110 | 240=>127 | 241=>128 | 276=>145 | 277=>146 | n=>n,fun | 31=>95 | 9=>9 | 3=>3 | 4=>4 | 0=>0 | 20=>20 | 72=>141 | 76=>143 | 70=>139 | 37=>22 | 75=>107 | 127=>162 | 164=>180 | 5=>5 | 80=>145 | n=>n,fun | n=>n⟩
theorem Tryz.lays156:Go.Proofs.Lays.n156 Tryz.prog Tryz.lays156_ren:={
 mixed:=by kernel_rfl
 f156:=Tryz.func66.trans (congrArg some (by kernel_rfl))
 f165:=Tryz.func108.trans (congrArg some (by kernel_rfl))
 f166:=Tryz.func109.trans (congrArg some (by kernel_rfl))
 f169:=Tryz.func110.trans (congrArg some (by kernel_rfl))
 f240:=Tryz.func127.trans (congrArg some (by kernel_rfl))
 f241:=Tryz.func128.trans (congrArg some (by kernel_rfl))
 f276:=Tryz.func145.trans (congrArg some (by kernel_rfl))
 f277:=Tryz.func146.trans (congrArg some (by kernel_rfl))
 t0:=Tryz.underlying0
 a0:=Tryz.isAgg0
 z0:=Tryz.sizeOf0
 v0:=Tryz.zeroValue0
 t3:=Tryz.underlying3
 a3:=Tryz.isAgg3
 z3:=Tryz.sizeOf3
 v3:=Tryz.zeroValue3
 t4:=Tryz.underlying4
 a4:=Tryz.isAgg4
 z4:=Tryz.sizeOf4
 v4:=Tryz.zeroValue4
 t9:=Tryz.underlying9
 a9:=Tryz.isAgg9
 z9:=Tryz.sizeOf9
 v9:=Tryz.zeroValue9
 t20:=Tryz.underlying20
 a20:=Tryz.isAgg20
 z20:=Tryz.sizeOf20
 v20:=Tryz.zeroValue20
 t31:=Tryz.underlying95
 a31:=Tryz.isAgg95
 z31:=Tryz.sizeOf95
 v31:=Tryz.zeroValue95
 t37:=Tryz.underlying22
 a37:=Tryz.isAgg22
 z37:=Tryz.sizeOf22
 v37:=Tryz.zeroValue22
 t70:=Tryz.underlying139
 a70:=Tryz.isAgg139
 z70:=Tryz.sizeOf139
 v70:=Tryz.zeroValue139
 t72:=Tryz.underlying141
 a72:=Tryz.isAgg141
 z72:=Tryz.sizeOf141
 v72:=Tryz.zeroValue141
 t75:=Tryz.underlying107
 a75:=Tryz.isAgg107
 z75:=Tryz.sizeOf107
 v75:=Tryz.zeroValue107
 t76:=Tryz.underlying143
 a76:=Tryz.isAgg143
 z76:=Tryz.sizeOf143
 v76:=Tryz.zeroValue143
 t127:=Tryz.underlying162
 a127:=Tryz.isAgg162
 z127:=Tryz.sizeOf162
 v127:=Tryz.zeroValue162
 t164:=Tryz.underlying180
 a164:=Tryz.isAgg180
 z164:=Tryz.sizeOf180
 v164:=Tryz.zeroValue180}
theorem Tryz.Builder_Extra_156:Builder.Extra Tryz.prog Tryz.lays156_ren:={
 sizeBuilder:=by kernel_rfl
 liesBuilder:=by kernel_rfl
 t5:=Tryz.underlying5
 a5:=Tryz.isAgg5
 z5:=Tryz.sizeOf5
 v5:=Tryz.zeroValue5
 infoByte:=by kernel_rfl
 cellsByte:=by kernel_rfl
 sizeByte:=by kernel_rfl
 neB5:=by decide}
open Go.RowKit in
theorem Tryz.strings_Join_none (a:Option Addr) (c:Nat) (sep:ByteArray) (w:World) :
 Calls Tryz.prog 66 #[.slice a 0 c,.string sep] w fun e w'=>e = .returned (.string ⟨#[]⟩)∧w'=w:=Any.strings_Join_none Tryz.lays156 Tryz.Builder_Extra_156 a c sep w
open Go.RowKit in
theorem Tryz.strings_Join (bk o c:Nat) (xs:List ByteArray) (sep:ByteArray) (w:World) (hcells : ∀(j:Nat) x,xs[j]? = some x→w.cell? ⟨bk,o+j,none⟩=some (.string x)) (hbk:bk<w.heap.size) (hN:xs.length≤140737488355328) (hcap:xs.length≤c) (hlen:(Lib.join (xs.map (·.data.toList)) sep.data.toList).length≤140737488355328) :
 Calls Tryz.prog 66 #[.slice (some ⟨bk,o,none⟩) xs.length c,.string sep] w fun e w'=>e = .returned (.string ⟨(Lib.join (xs.map (·.data.toList)) sep.data.toList).toArray⟩)∧Below w.heap.size w w':=Any.strings_Join Tryz.lays156 Tryz.Builder_Extra_156 bk o c xs sep w hcells hbk hN hcap hlen
def Tryz.laysM173_ren:Go.Shelf.Ren:=⟨fun | 173=>106 | 246=>126 | 283=>141 | 284=>142 | 285=>143 | 286=>144 | 129=>161 | 317=>160 | 318=>162 | 319=>163 | 320=>164 | 337=>169 | 338=>170 | n=>n,fun | 2=>2 | 3=>3 | 9=>9 | 4=>4 | 171=>175 | 0=>0 | 53=>92 | 37=>22 | 5=>5 | 173=>178 | 212=>195 | 51=>196 | 20=>20 | 213=>197 | 46=>102 | 232=>210 | 233=>211 | n=>n,fun | 17=>3 | 18=>6 | 19=>7 | n=>n⟩
theorem Tryz.laysM173:Go.Proofs.LaysM.n173 Tryz.prog Tryz.laysM173_ren:={
 mixed:=by kernel_rfl
 f129:=Tryz.func161.trans (congrArg some (by kernel_rfl))
 f173:=Tryz.func106.trans (congrArg some (by kernel_rfl))
 f246:=Tryz.func126.trans (congrArg some (by kernel_rfl))
 f283:=Tryz.func141.trans (congrArg some (by kernel_rfl))
 f284:=Tryz.func142.trans (congrArg some (by kernel_rfl))
 f285:=Tryz.func143.trans (congrArg some (by kernel_rfl))
 f286:=Tryz.func144.trans (congrArg some (by kernel_rfl))
 f317:=Tryz.func160.trans (congrArg some (by kernel_rfl))
 f318:=Tryz.func162.trans (congrArg some (by kernel_rfl))
 f319:=Tryz.func163.trans (congrArg some (by kernel_rfl))
 f320:=Tryz.func164.trans (congrArg some (by kernel_rfl))
 f337:=Tryz.func169.trans (congrArg some (by kernel_rfl))
 f338:=Tryz.func170.trans (congrArg some (by kernel_rfl))
 t0:=Tryz.underlying0
 a0:=Tryz.isAgg0
 z0:=Tryz.sizeOf0
 v0:=Tryz.zeroValue0
 t2:=Tryz.underlying2
 a2:=Tryz.isAgg2
 z2:=Tryz.sizeOf2
 v2:=Tryz.zeroValue2
 t3:=Tryz.underlying3
 a3:=Tryz.isAgg3
 z3:=Tryz.sizeOf3
 v3:=Tryz.zeroValue3
 t4:=Tryz.underlying4
 a4:=Tryz.isAgg4
 z4:=Tryz.sizeOf4
 v4:=Tryz.zeroValue4
 t5:=Tryz.underlying5
 a5:=Tryz.isAgg5
 z5:=Tryz.sizeOf5
 v5:=Tryz.zeroValue5
 t9:=Tryz.underlying9
 a9:=Tryz.isAgg9
 z9:=Tryz.sizeOf9
 v9:=Tryz.zeroValue9
 t20:=Tryz.underlying20
 a20:=Tryz.isAgg20
 z20:=Tryz.sizeOf20
 v20:=Tryz.zeroValue20
 t37:=Tryz.underlying22
 a37:=Tryz.isAgg22
 z37:=Tryz.sizeOf22
 v37:=Tryz.zeroValue22
 t46:=Tryz.underlying102
 a46:=Tryz.isAgg102
 z46:=Tryz.sizeOf102
 v46:=Tryz.zeroValue102
 t51:=Tryz.underlying196
 a51:=Tryz.isAgg196
 z51:=Tryz.sizeOf196
 v51:=Tryz.zeroValue196
 t53:=Tryz.underlying92
 a53:=Tryz.isAgg92
 z53:=Tryz.sizeOf92
 v53:=Tryz.zeroValue92
 t171:=Tryz.underlying175
 a171:=Tryz.isAgg175
 z171:=Tryz.sizeOf175
 v171:=Tryz.zeroValue175
 t173:=Tryz.underlying178
 a173:=Tryz.isAgg178
 z173:=Tryz.sizeOf178
 v173:=Tryz.zeroValue178
 t212:=Tryz.underlying195
 a212:=Tryz.isAgg195
 z212:=Tryz.sizeOf195
 v212:=Tryz.zeroValue195
 t213:=Tryz.underlying197
 a213:=Tryz.isAgg197
 z213:=Tryz.sizeOf197
 t232:=Tryz.underlying210
 a232:=Tryz.isAgg210
 z232:=Tryz.sizeOf210
 v232:=Tryz.zeroValue210
 t233:=Tryz.underlying211
 a233:=Tryz.isAgg211
 z233:=Tryz.sizeOf211
 v233:=Tryz.zeroValue211
 g17:=by kernel_rfl
 g18:=by kernel_rfl
 g19:=by kernel_rfl
 i0:=by kernel_rfl
 i2:=by kernel_rfl
 i3:=by kernel_rfl
 i4:=by kernel_rfl
 i5:=by kernel_rfl
 i9:=by kernel_rfl
 i20:=by kernel_rfl
 i37:=by kernel_rfl
 i46:=by kernel_rfl
 i51:=by kernel_rfl
 i53:=by kernel_rfl
 i171:=by kernel_rfl
 i173:=by kernel_rfl
 i212:=by kernel_rfl
 i232:=by kernel_rfl
 i233:=by kernel_rfl
 m17:=by kernel_rfl
 m18:=by kernel_rfl
 m19:=by kernel_rfl}
open Go.RowKit Go.Sort Go.Lib in
theorem Tryz.strconv_FormatInt_10 (n:Int) (h0 : -9223372036854775808≤n) (h1:n≤9223372036854775807) (w:World) (htab:Lib.TabIs Tryz.prog w "internal/strconv.uint64pow10" .u64 Lib.pow10Tab) :
 Calls Tryz.prog 106 #[.int .i64 n,.int .i64 10] w fun e w'=>e = .returned (.string ⟨(Lib.itoa n).toArray⟩)∧∃k os,w'=grow (w.drewN k) os:=Any.strconv_FormatInt_10 Tryz.laysM173 n h0 h1 w htab
def Tryz.laysC172_ren:Go.Shelf.Ren:=⟨fun | 172=>140 | 244=>159 | 245=>118 | 247=>117 | 279=>136 | 280=>137 | 281=>138 | 282=>139 | 287=>135 | 316=>156 | 171=>158 | 205=>157 | 321=>154 | 322=>155 | 243=>168 | 246=>126 | 283=>141 | 284=>142 | 285=>143 | 286=>144 | 129=>161 | 317=>160 | 318=>162 | 319=>163 | 320=>164 | 337=>169 | 338=>170 | n=>n,fun | 9=>9 | 3=>3 | 75=>107 | 76=>143 | 4=>4 | 5=>5 | 167=>168 | 37=>22 | 0=>0 | 85=>108 | 2=>2 | 168=>171 | 53=>92 | 175=>169 | 46=>102 | 210=>192 | 127=>162 | 145=>204 | 143=>202 | 21=>21 | 171=>175 | 173=>178 | 212=>195 | 51=>196 | 20=>20 | 213=>197 | 232=>210 | 233=>211 | 80=>145 | n=>n,fun | 15=>1 | 16=>2 | 17=>3 | 18=>6 | 19=>7 | n=>n⟩
theorem Tryz.laysC172:Go.Proofs.LaysC.n172 Tryz.prog Tryz.laysC172_ren:={
 mixed:=by kernel_rfl
 f129:=Tryz.func161.trans (congrArg some (by kernel_rfl))
 f171:=Tryz.func158.trans (congrArg some (by kernel_rfl))
 f172:=Tryz.func140.trans (congrArg some (by kernel_rfl))
 f205:=Tryz.func157.trans (congrArg some (by kernel_rfl))
 f243:=Tryz.func168.trans (congrArg some (by kernel_rfl))
 f244:=Tryz.func159.trans (congrArg some (by kernel_rfl))
 f245:=Tryz.func118.trans (congrArg some (by kernel_rfl))
 f246:=Tryz.func126.trans (congrArg some (by kernel_rfl))
 f247:=Tryz.func117.trans (congrArg some (by kernel_rfl))
 f279:=Tryz.func136.trans (congrArg some (by kernel_rfl))
 f280:=Tryz.func137.trans (congrArg some (by kernel_rfl))
 f281:=Tryz.func138.trans (congrArg some (by kernel_rfl))
 f282:=Tryz.func139.trans (congrArg some (by kernel_rfl))
 f283:=Tryz.func141.trans (congrArg some (by kernel_rfl))
 f284:=Tryz.func142.trans (congrArg some (by kernel_rfl))
 f285:=Tryz.func143.trans (congrArg some (by kernel_rfl))
 f286:=Tryz.func144.trans (congrArg some (by kernel_rfl))
 f287:=Tryz.func135.trans (congrArg some (by kernel_rfl))
 f316:=Tryz.func156.trans (congrArg some (by kernel_rfl))
 f317:=Tryz.func160.trans (congrArg some (by kernel_rfl))
 f318:=Tryz.func162.trans (congrArg some (by kernel_rfl))
 f319:=Tryz.func163.trans (congrArg some (by kernel_rfl))
 f320:=Tryz.func164.trans (congrArg some (by kernel_rfl))
 f321:=Tryz.func154.trans (congrArg some (by kernel_rfl))
 f322:=Tryz.func155.trans (congrArg some (by kernel_rfl))
 f337:=Tryz.func169.trans (congrArg some (by kernel_rfl))
 f338:=Tryz.func170.trans (congrArg some (by kernel_rfl))
 t0:=Tryz.underlying0
 a0:=Tryz.isAgg0
 z0:=Tryz.sizeOf0
 v0:=Tryz.zeroValue0
 t2:=Tryz.underlying2
 a2:=Tryz.isAgg2
 z2:=Tryz.sizeOf2
 v2:=Tryz.zeroValue2
 t3:=Tryz.underlying3
 a3:=Tryz.isAgg3
 z3:=Tryz.sizeOf3
 v3:=Tryz.zeroValue3
 t4:=Tryz.underlying4
 a4:=Tryz.isAgg4
 z4:=Tryz.sizeOf4
 v4:=Tryz.zeroValue4
 t5:=Tryz.underlying5
 a5:=Tryz.isAgg5
 z5:=Tryz.sizeOf5
 v5:=Tryz.zeroValue5
 t9:=Tryz.underlying9
 a9:=Tryz.isAgg9
 z9:=Tryz.sizeOf9
 v9:=Tryz.zeroValue9
 t20:=Tryz.underlying20
 a20:=Tryz.isAgg20
 z20:=Tryz.sizeOf20
 v20:=Tryz.zeroValue20
 t21:=Tryz.underlying21
 a21:=Tryz.isAgg21
 z21:=Tryz.sizeOf21
 v21:=Tryz.zeroValue21
 t37:=Tryz.underlying22
 a37:=Tryz.isAgg22
 z37:=Tryz.sizeOf22
 v37:=Tryz.zeroValue22
 t46:=Tryz.underlying102
 a46:=Tryz.isAgg102
 z46:=Tryz.sizeOf102
 v46:=Tryz.zeroValue102
 t51:=Tryz.underlying196
 a51:=Tryz.isAgg196
 z51:=Tryz.sizeOf196
 v51:=Tryz.zeroValue196
 t53:=Tryz.underlying92
 a53:=Tryz.isAgg92
 z53:=Tryz.sizeOf92
 v53:=Tryz.zeroValue92
 t75:=Tryz.underlying107
 a75:=Tryz.isAgg107
 z75:=Tryz.sizeOf107
 v75:=Tryz.zeroValue107
 t76:=Tryz.underlying143
 a76:=Tryz.isAgg143
 z76:=Tryz.sizeOf143
 v76:=Tryz.zeroValue143
 t85:=Tryz.underlying108
 a85:=Tryz.isAgg108
 z85:=Tryz.sizeOf108
 v85:=Tryz.zeroValue108
 t127:=Tryz.underlying162
 a127:=Tryz.isAgg162
 z127:=Tryz.sizeOf162
 v127:=Tryz.zeroValue162
 t143:=Tryz.underlying202
 a143:=Tryz.isAgg202
 z143:=Tryz.sizeOf202
 v143:=Tryz.zeroValue202
 t145:=Tryz.underlying204
 a145:=Tryz.isAgg204
 z145:=Tryz.sizeOf204
 v145:=Tryz.zeroValue204
 t167:=Tryz.underlying168
 a167:=Tryz.isAgg168
 z167:=Tryz.sizeOf168
 v167:=Tryz.zeroValue168
 t168:=Tryz.underlying171
 a168:=Tryz.isAgg171
 z168:=Tryz.sizeOf171
 v168:=Tryz.zeroValue171
 t171:=Tryz.underlying175
 a171:=Tryz.isAgg175
 z171:=Tryz.sizeOf175
 v171:=Tryz.zeroValue175
 t173:=Tryz.underlying178
 a173:=Tryz.isAgg178
 z173:=Tryz.sizeOf178
 v173:=Tryz.zeroValue178
 t175:=Tryz.underlying169
 a175:=Tryz.isAgg169
 z175:=Tryz.sizeOf169
 v175:=Tryz.zeroValue169
 t210:=Tryz.underlying192
 a210:=Tryz.isAgg192
 z210:=Tryz.sizeOf192
 v210:=Tryz.zeroValue192
 t212:=Tryz.underlying195
 a212:=Tryz.isAgg195
 z212:=Tryz.sizeOf195
 v212:=Tryz.zeroValue195
 t213:=Tryz.underlying197
 a213:=Tryz.isAgg197
 z213:=Tryz.sizeOf197
 t232:=Tryz.underlying210
 a232:=Tryz.isAgg210
 z232:=Tryz.sizeOf210
 v232:=Tryz.zeroValue210
 t233:=Tryz.underlying211
 a233:=Tryz.isAgg211
 z233:=Tryz.sizeOf211
 v233:=Tryz.zeroValue211
 g15:=by kernel_rfl
 g16:=by kernel_rfl
 g17:=by kernel_rfl
 g18:=by kernel_rfl
 g19:=by kernel_rfl
 t80:=Tryz.underlying145
 a80:=Tryz.isAgg145
 z80:=Tryz.sizeOf145
 v80:=Tryz.zeroValue145
 i0:=by kernel_rfl
 i2:=by kernel_rfl
 i3:=by kernel_rfl
 i4:=by kernel_rfl
 i5:=by kernel_rfl
 i9:=by kernel_rfl
 i20:=by kernel_rfl
 i21:=by kernel_rfl
 i37:=by kernel_rfl
 i46:=by kernel_rfl
 i51:=by kernel_rfl
 i53:=by kernel_rfl
 i75:=by kernel_rfl
 i76:=by kernel_rfl
 i80:=by kernel_rfl
 i85:=by kernel_rfl
 i127:=by kernel_rfl
 i143:=by kernel_rfl
 i145:=by kernel_rfl
 i167:=by kernel_rfl
 i168:=by kernel_rfl
 i171:=by kernel_rfl
 i173:=by kernel_rfl
 i175:=by kernel_rfl
 i210:=by kernel_rfl
 i212:=by kernel_rfl
 i232:=by kernel_rfl
 i233:=by kernel_rfl
 m15:=by kernel_rfl
 m16:=by kernel_rfl
 m17:=by kernel_rfl
 m18:=by kernel_rfl
 m19:=by kernel_rfl
 c0:=by kernel_rfl
 c2:=by kernel_rfl
 c3:=by kernel_rfl
 c4:=by kernel_rfl
 c5:=by kernel_rfl
 c9:=by kernel_rfl
 c20:=by kernel_rfl
 c21:=by kernel_rfl
 c37:=by kernel_rfl
 c46:=by kernel_rfl
 c51:=by kernel_rfl
 c53:=by kernel_rfl
 c75:=by kernel_rfl
 c76:=by kernel_rfl
 c80:=by kernel_rfl
 c85:=by kernel_rfl
 c127:=by kernel_rfl
 c143:=by kernel_rfl
 c145:=by kernel_rfl
 c167:=by kernel_rfl
 c168:=by kernel_rfl
 c171:=by kernel_rfl
 c173:=by kernel_rfl
 c175:=by kernel_rfl
 c210:=by kernel_rfl
 c212:=by kernel_rfl
 c213:=by kernel_rfl
 c232:=by kernel_rfl
 c233:=by kernel_rfl}
open Go.RowKit in
theorem Tryz.strconv_Atoi_ok (s:ByteArray) (hmax:s.size≤9223372036854775806) (v:Int) (h:Lib.atoiAll s.data.toList = .ok v) (w:World) :
 Calls Tryz.prog 140 #[.string s] w fun e w'=>e = .returned (.tuple #[.int .i64 v,.nilIface])∧(w'=w∨∃t,w'=Lib.bytesWorld w 5 t):=Any.strconv_Atoi_ok Tryz.laysC172 s hmax v h w
open Go.RowKit in
theorem Tryz.strconv_Atoi_syntax (s:ByteArray) (hlim:s.size≤281474976710656) (h:Lib.atoiAll s.data.toList=Lib.atoiAll []) (ev:Value) (w:World) (hv:w.cell? ⟨1,0,none⟩=some ev) (hev:ev = .nilIface∨∃te pe,ev = .iface te pe) :
 Calls Tryz.prog 140 #[.string s] w fun e w'=>∃N,e = .returned (.tuple #[.int .i64 (0),.iface 171 (.pointer (some ⟨N,0,none⟩))])∧w.heap.size≤N∧w'.heap[N]? = some (.cells #[.string ⟨#[65,116,111,105]⟩,.string s,ev] 192 (0,0))∧Below w.heap.size w w':=Any.strconv_Atoi_syntax Tryz.laysC172 s hlim h ev w hv hev
open Go.RowKit in
theorem Tryz.strconv_Atoi_range (s:ByteArray) (hlim:s.size≤281474976710656) (h:Lib.atoiAll s.data.toList = .range) (ev:Value) (w:World) (hv:w.cell? ⟨2,0,none⟩=some ev) (hev:ev = .nilIface∨∃te pe,ev = .iface te pe) :
 Calls Tryz.prog 140 #[.string s] w fun e w'=>∃N,e = .returned (.tuple #[.int .i64 (Lib.atoiSat s.data.toList),.iface 171 (.pointer (some ⟨N,0,none⟩))])∧w.heap.size≤N∧w'.heap[N]? = some (.cells #[.string ⟨#[65,116,111,105]⟩,.string s,ev] 192 (0,0))∧Below w.heap.size w w':=Any.strconv_Atoi_range Tryz.laysC172 s hlim h ev w hv hev
def Tryz.laysC174_ren:Go.Shelf.Ren:=⟨fun | 174=>75 | 247=>117 | 245=>118 | 287=>135 | 279=>136 | 280=>137 | 281=>138 | 282=>139 | 321=>154 | 322=>155 | 316=>156 | 171=>158 | 205=>157 | 243=>168 | 246=>126 | 283=>141 | 284=>142 | 285=>143 | 286=>144 | 129=>161 | 317=>160 | 318=>162 | 319=>163 | 320=>164 | 337=>169 | 338=>170 | n=>n,fun | 9=>9 | 3=>3 | 2=>2 | 75=>107 | 85=>108 | 4=>4 | 167=>168 | 5=>5 | 53=>92 | 175=>169 | 46=>102 | 168=>171 | 37=>22 | 0=>0 | 210=>192 | 21=>21 | 127=>162 | 145=>204 | 143=>202 | 171=>175 | 173=>178 | 212=>195 | 51=>196 | 20=>20 | 213=>197 | 232=>210 | 233=>211 | 80=>145 | n=>n,fun | 15=>1 | 16=>2 | 17=>3 | 18=>6 | 19=>7 | n=>n⟩
theorem Tryz.laysC174:Go.Proofs.LaysC.n174 Tryz.prog Tryz.laysC174_ren:={
 mixed:=by kernel_rfl
 f129:=Tryz.func161.trans (congrArg some (by kernel_rfl))
 f171:=Tryz.func158.trans (congrArg some (by kernel_rfl))
 f174:=Tryz.func75.trans (congrArg some (by kernel_rfl))
 f205:=Tryz.func157.trans (congrArg some (by kernel_rfl))
 f243:=Tryz.func168.trans (congrArg some (by kernel_rfl))
 f245:=Tryz.func118.trans (congrArg some (by kernel_rfl))
 f246:=Tryz.func126.trans (congrArg some (by kernel_rfl))
 f247:=Tryz.func117.trans (congrArg some (by kernel_rfl))
 f279:=Tryz.func136.trans (congrArg some (by kernel_rfl))
 f280:=Tryz.func137.trans (congrArg some (by kernel_rfl))
 f281:=Tryz.func138.trans (congrArg some (by kernel_rfl))
 f282:=Tryz.func139.trans (congrArg some (by kernel_rfl))
 f283:=Tryz.func141.trans (congrArg some (by kernel_rfl))
 f284:=Tryz.func142.trans (congrArg some (by kernel_rfl))
 f285:=Tryz.func143.trans (congrArg some (by kernel_rfl))
 f286:=Tryz.func144.trans (congrArg some (by kernel_rfl))
 f287:=Tryz.func135.trans (congrArg some (by kernel_rfl))
 f316:=Tryz.func156.trans (congrArg some (by kernel_rfl))
 f317:=Tryz.func160.trans (congrArg some (by kernel_rfl))
 f318:=Tryz.func162.trans (congrArg some (by kernel_rfl))
 f319:=Tryz.func163.trans (congrArg some (by kernel_rfl))
 f320:=Tryz.func164.trans (congrArg some (by kernel_rfl))
 f321:=Tryz.func154.trans (congrArg some (by kernel_rfl))
 f322:=Tryz.func155.trans (congrArg some (by kernel_rfl))
 f337:=Tryz.func169.trans (congrArg some (by kernel_rfl))
 f338:=Tryz.func170.trans (congrArg some (by kernel_rfl))
 t0:=Tryz.underlying0
 a0:=Tryz.isAgg0
 z0:=Tryz.sizeOf0
 v0:=Tryz.zeroValue0
 t2:=Tryz.underlying2
 a2:=Tryz.isAgg2
 z2:=Tryz.sizeOf2
 v2:=Tryz.zeroValue2
 t3:=Tryz.underlying3
 a3:=Tryz.isAgg3
 z3:=Tryz.sizeOf3
 v3:=Tryz.zeroValue3
 t4:=Tryz.underlying4
 a4:=Tryz.isAgg4
 z4:=Tryz.sizeOf4
 v4:=Tryz.zeroValue4
 t5:=Tryz.underlying5
 a5:=Tryz.isAgg5
 z5:=Tryz.sizeOf5
 v5:=Tryz.zeroValue5
 t9:=Tryz.underlying9
 a9:=Tryz.isAgg9
 z9:=Tryz.sizeOf9
 v9:=Tryz.zeroValue9
 t20:=Tryz.underlying20
 a20:=Tryz.isAgg20
 z20:=Tryz.sizeOf20
 v20:=Tryz.zeroValue20
 t21:=Tryz.underlying21
 a21:=Tryz.isAgg21
 z21:=Tryz.sizeOf21
 v21:=Tryz.zeroValue21
 t37:=Tryz.underlying22
 a37:=Tryz.isAgg22
 z37:=Tryz.sizeOf22
 v37:=Tryz.zeroValue22
 t46:=Tryz.underlying102
 a46:=Tryz.isAgg102
 z46:=Tryz.sizeOf102
 v46:=Tryz.zeroValue102
 t51:=Tryz.underlying196
 a51:=Tryz.isAgg196
 z51:=Tryz.sizeOf196
 v51:=Tryz.zeroValue196
 t53:=Tryz.underlying92
 a53:=Tryz.isAgg92
 z53:=Tryz.sizeOf92
 v53:=Tryz.zeroValue92
 t75:=Tryz.underlying107
 a75:=Tryz.isAgg107
 z75:=Tryz.sizeOf107
 v75:=Tryz.zeroValue107
 t85:=Tryz.underlying108
 a85:=Tryz.isAgg108
 z85:=Tryz.sizeOf108
 v85:=Tryz.zeroValue108
 t127:=Tryz.underlying162
 a127:=Tryz.isAgg162
 z127:=Tryz.sizeOf162
 v127:=Tryz.zeroValue162
 t143:=Tryz.underlying202
 a143:=Tryz.isAgg202
 z143:=Tryz.sizeOf202
 v143:=Tryz.zeroValue202
 t145:=Tryz.underlying204
 a145:=Tryz.isAgg204
 z145:=Tryz.sizeOf204
 v145:=Tryz.zeroValue204
 t167:=Tryz.underlying168
 a167:=Tryz.isAgg168
 z167:=Tryz.sizeOf168
 v167:=Tryz.zeroValue168
 t168:=Tryz.underlying171
 a168:=Tryz.isAgg171
 z168:=Tryz.sizeOf171
 v168:=Tryz.zeroValue171
 t171:=Tryz.underlying175
 a171:=Tryz.isAgg175
 z171:=Tryz.sizeOf175
 v171:=Tryz.zeroValue175
 t173:=Tryz.underlying178
 a173:=Tryz.isAgg178
 z173:=Tryz.sizeOf178
 v173:=Tryz.zeroValue178
 t175:=Tryz.underlying169
 a175:=Tryz.isAgg169
 z175:=Tryz.sizeOf169
 v175:=Tryz.zeroValue169
 t210:=Tryz.underlying192
 a210:=Tryz.isAgg192
 z210:=Tryz.sizeOf192
 v210:=Tryz.zeroValue192
 t212:=Tryz.underlying195
 a212:=Tryz.isAgg195
 z212:=Tryz.sizeOf195
 v212:=Tryz.zeroValue195
 t213:=Tryz.underlying197
 a213:=Tryz.isAgg197
 z213:=Tryz.sizeOf197
 t232:=Tryz.underlying210
 a232:=Tryz.isAgg210
 z232:=Tryz.sizeOf210
 v232:=Tryz.zeroValue210
 t233:=Tryz.underlying211
 a233:=Tryz.isAgg211
 z233:=Tryz.sizeOf211
 v233:=Tryz.zeroValue211
 g15:=by kernel_rfl
 g16:=by kernel_rfl
 g17:=by kernel_rfl
 g18:=by kernel_rfl
 g19:=by kernel_rfl
 t80:=Tryz.underlying145
 a80:=Tryz.isAgg145
 z80:=Tryz.sizeOf145
 v80:=Tryz.zeroValue145
 i0:=by kernel_rfl
 i2:=by kernel_rfl
 i3:=by kernel_rfl
 i4:=by kernel_rfl
 i5:=by kernel_rfl
 i9:=by kernel_rfl
 i20:=by kernel_rfl
 i21:=by kernel_rfl
 i37:=by kernel_rfl
 i46:=by kernel_rfl
 i51:=by kernel_rfl
 i53:=by kernel_rfl
 i75:=by kernel_rfl
 i80:=by kernel_rfl
 i85:=by kernel_rfl
 i127:=by kernel_rfl
 i143:=by kernel_rfl
 i145:=by kernel_rfl
 i167:=by kernel_rfl
 i168:=by kernel_rfl
 i171:=by kernel_rfl
 i173:=by kernel_rfl
 i175:=by kernel_rfl
 i210:=by kernel_rfl
 i212:=by kernel_rfl
 i232:=by kernel_rfl
 i233:=by kernel_rfl
 m15:=by kernel_rfl
 m16:=by kernel_rfl
 m17:=by kernel_rfl
 m18:=by kernel_rfl
 m19:=by kernel_rfl
 c0:=by kernel_rfl
 c2:=by kernel_rfl
 c3:=by kernel_rfl
 c4:=by kernel_rfl
 c5:=by kernel_rfl
 c9:=by kernel_rfl
 c20:=by kernel_rfl
 c21:=by kernel_rfl
 c37:=by kernel_rfl
 c46:=by kernel_rfl
 c51:=by kernel_rfl
 c53:=by kernel_rfl
 c75:=by kernel_rfl
 c80:=by kernel_rfl
 c85:=by kernel_rfl
 c127:=by kernel_rfl
 c143:=by kernel_rfl
 c145:=by kernel_rfl
 c167:=by kernel_rfl
 c168:=by kernel_rfl
 c171:=by kernel_rfl
 c173:=by kernel_rfl
 c175:=by kernel_rfl
 c210:=by kernel_rfl
 c212:=by kernel_rfl
 c213:=by kernel_rfl
 c232:=by kernel_rfl
 c233:=by kernel_rfl}
open Go.RowKit in
theorem Tryz.strconv_ParseInt_10_at64_ok (s:ByteArray) (hmax:s.size≤9223372036854775806) (v:Int) (h:Lib.parseIntB 64 s.data.toList = .ok v) (w:World) :
 Calls Tryz.prog 75 #[.string s,.int .i64 10,.int .i64 64] w fun e w'=>e = .returned (.tuple #[.int .i64 v,.nilIface])∧(w'=w∨∃t,w'=Lib.bytesWorld w 5 t):=Any.strconv_ParseInt_10_at64_ok Tryz.laysC174 s hmax v h w
open Go.RowKit in
theorem Tryz.strconv_ParseInt_10_at64_syntax (s:ByteArray) (hlim:s.size≤281474976710656) (h:Lib.parseIntB 64 s.data.toList=Lib.parseIntB 64 []) (ev:Value) (w:World) (hv:w.cell? ⟨1,0,none⟩=some ev) (hev:ev = .nilIface∨∃te pe,ev = .iface te pe) :
 Calls Tryz.prog 75 #[.string s,.int .i64 10,.int .i64 64] w fun e w'=>∃N,e = .returned (.tuple #[.int .i64 (0),.iface 171 (.pointer (some ⟨N,0,none⟩))])∧w.heap.size≤N∧w'.heap[N]? = some (.cells #[.string ⟨#[80,97,114,115,101,73,110,116]⟩,.string s,ev] 192 (0,0))∧Below w.heap.size w w':=Any.strconv_ParseInt_10_at64_syntax Tryz.laysC174 s hlim h ev w hv hev
open Go.RowKit in
theorem Tryz.strconv_ParseInt_10_at64_range (s:ByteArray) (hlim:s.size≤281474976710656) (h:Lib.parseIntB 64 s.data.toList = .range) (ev:Value) (w:World) (hv:w.cell? ⟨2,0,none⟩=some ev) (hev:ev = .nilIface∨∃te pe,ev = .iface te pe) :
 Calls Tryz.prog 75 #[.string s,.int .i64 10,.int .i64 64] w fun e w'=>∃N,e = .returned (.tuple #[.int .i64 (Lib.intSat 64 s.data.toList),.iface 171 (.pointer (some ⟨N,0,none⟩))])∧w.heap.size≤N∧w'.heap[N]? = some (.cells #[.string ⟨#[80,97,114,115,101,73,110,116]⟩,.string s,ev] 192 (0,0))∧Below w.heap.size w w':=Any.strconv_ParseInt_10_at64_range Tryz.laysC174 s hlim h ev w hv hev
def Tryz.lays145_ren:Go.Shelf.Ren:=⟨fun | 145=>74 | 220=>116 | 219=>134 | 217=>150 | 225=>151 | 224=>152 | 267=>153 | 266=>166 | 314=>167 | n=>n,fun | 9=>9 | 4=>4 | 59=>104 | 3=>3 | 5=>5 | 46=>102 | 146=>200 | 51=>196 | n=>n,fun | 1=>0 | n=>n⟩
theorem Tryz.lays145:Go.Proofs.Lays.n145 Tryz.prog Tryz.lays145_ren:={
 mixed:=by kernel_rfl
 f145:=Tryz.func74.trans (congrArg some (by kernel_rfl))
 f217:=Tryz.func150.trans (congrArg some (by kernel_rfl))
 f219:=Tryz.func134.trans (congrArg some (by kernel_rfl))
 f220:=Tryz.func116.trans (congrArg some (by kernel_rfl))
 f224:=Tryz.func152.trans (congrArg some (by kernel_rfl))
 f225:=Tryz.func151.trans (congrArg some (by kernel_rfl))
 f266:=Tryz.func166.trans (congrArg some (by kernel_rfl))
 f267:=Tryz.func153.trans (congrArg some (by kernel_rfl))
 f314:=Tryz.func167.trans (congrArg some (by kernel_rfl))
 t3:=Tryz.underlying3
 a3:=Tryz.isAgg3
 z3:=Tryz.sizeOf3
 v3:=Tryz.zeroValue3
 t4:=Tryz.underlying4
 a4:=Tryz.isAgg4
 z4:=Tryz.sizeOf4
 v4:=Tryz.zeroValue4
 t5:=Tryz.underlying5
 a5:=Tryz.isAgg5
 z5:=Tryz.sizeOf5
 v5:=Tryz.zeroValue5
 t9:=Tryz.underlying9
 a9:=Tryz.isAgg9
 z9:=Tryz.sizeOf9
 v9:=Tryz.zeroValue9
 t46:=Tryz.underlying102
 a46:=Tryz.isAgg102
 z46:=Tryz.sizeOf102
 v46:=Tryz.zeroValue102
 t51:=Tryz.underlying196
 a51:=Tryz.isAgg196
 z51:=Tryz.sizeOf196
 v51:=Tryz.zeroValue196
 t59:=Tryz.underlying104
 a59:=Tryz.isAgg104
 z59:=Tryz.sizeOf104
 v59:=Tryz.zeroValue104
 t146:=Tryz.underlying200
 a146:=Tryz.isAgg200
 z146:=Tryz.sizeOf200
 v146:=Tryz.zeroValue200
 g1:=by kernel_rfl}
open Go.RowKit Go.Lib in
theorem Tryz.strings_Cut (s sep:ByteArray) (m:Int) (w:World) (hs:s.size<4294967281) (hm:w.cell? ⟨0,0,none⟩=some (.int .i64 m)) :
 Calls Tryz.prog 74 #[.string s,.string sep] w fun e w'=>e = .returned (.tuple #[.string ⟨(Lib.cut s.data.toList sep.data.toList).1.toArray⟩,.string ⟨(Lib.cut s.data.toList sep.data.toList).2.1.toArray⟩,.bool (Lib.cut s.data.toList sep.data.toList).2.2])∧∃n,w'=w.drewN n:=Any.strings_Cut Tryz.lays145 s sep m w hs hm
def Tryz.lays146_ren:Go.Shelf.Ren:=⟨fun | 146=>73 | 221=>115 | 268=>131 | 138=>132 | 143=>133 | 195=>147 | 197=>148 | 218=>149 | 219=>134 | 260=>165 | 217=>150 | 225=>151 | 224=>152 | 267=>153 | 266=>166 | 314=>167 | n=>n,fun | 9=>9 | 31=>95 | 3=>3 | 4=>4 | 0=>0 | 105=>184 | 21=>21 | 5=>5 | 46=>102 | 119=>206 | 139=>209 | 138=>208 | 146=>200 | 51=>196 | n=>n,fun | 1=>0 | 3=>4 | 4=>5 | n=>n⟩
theorem Tryz.lays146:Go.Proofs.Lays.n146 Tryz.prog Tryz.lays146_ren:={
 mixed:=by kernel_rfl
 f138:=Tryz.func132.trans (congrArg some (by kernel_rfl))
 f143:=Tryz.func133.trans (congrArg some (by kernel_rfl))
 f146:=Tryz.func73.trans (congrArg some (by kernel_rfl))
 f195:=Tryz.func147.trans (congrArg some (by kernel_rfl))
 f197:=Tryz.func148.trans (congrArg some (by kernel_rfl))
 f217:=Tryz.func150.trans (congrArg some (by kernel_rfl))
 f218:=Tryz.func149.trans (congrArg some (by kernel_rfl))
 f219:=Tryz.func134.trans (congrArg some (by kernel_rfl))
 f221:=Tryz.func115.trans (congrArg some (by kernel_rfl))
 f224:=Tryz.func152.trans (congrArg some (by kernel_rfl))
 f225:=Tryz.func151.trans (congrArg some (by kernel_rfl))
 f260:=Tryz.func165.trans (congrArg some (by kernel_rfl))
 f266:=Tryz.func166.trans (congrArg some (by kernel_rfl))
 f267:=Tryz.func153.trans (congrArg some (by kernel_rfl))
 f268:=Tryz.func131.trans (congrArg some (by kernel_rfl))
 f314:=Tryz.func167.trans (congrArg some (by kernel_rfl))
 t0:=Tryz.underlying0
 a0:=Tryz.isAgg0
 z0:=Tryz.sizeOf0
 v0:=Tryz.zeroValue0
 t3:=Tryz.underlying3
 a3:=Tryz.isAgg3
 z3:=Tryz.sizeOf3
 v3:=Tryz.zeroValue3
 t4:=Tryz.underlying4
 a4:=Tryz.isAgg4
 z4:=Tryz.sizeOf4
 v4:=Tryz.zeroValue4
 t5:=Tryz.underlying5
 a5:=Tryz.isAgg5
 z5:=Tryz.sizeOf5
 v5:=Tryz.zeroValue5
 t9:=Tryz.underlying9
 a9:=Tryz.isAgg9
 z9:=Tryz.sizeOf9
 v9:=Tryz.zeroValue9
 t21:=Tryz.underlying21
 a21:=Tryz.isAgg21
 z21:=Tryz.sizeOf21
 v21:=Tryz.zeroValue21
 t31:=Tryz.underlying95
 a31:=Tryz.isAgg95
 z31:=Tryz.sizeOf95
 v31:=Tryz.zeroValue95
 t46:=Tryz.underlying102
 a46:=Tryz.isAgg102
 z46:=Tryz.sizeOf102
 v46:=Tryz.zeroValue102
 t51:=Tryz.underlying196
 a51:=Tryz.isAgg196
 z51:=Tryz.sizeOf196
 v51:=Tryz.zeroValue196
 t105:=Tryz.underlying184
 a105:=Tryz.isAgg184
 z105:=Tryz.sizeOf184
 v105:=Tryz.zeroValue184
 t119:=Tryz.underlying206
 a119:=Tryz.isAgg206
 z119:=Tryz.sizeOf206
 t138:=Tryz.underlying208
 a138:=Tryz.isAgg208
 z138:=Tryz.sizeOf208
 v138:=Tryz.zeroValue208
 t139:=Tryz.underlying209
 a139:=Tryz.isAgg209
 z139:=Tryz.sizeOf209
 v139:=Tryz.zeroValue209
 t146:=Tryz.underlying200
 a146:=Tryz.isAgg200
 z146:=Tryz.sizeOf200
 v146:=Tryz.zeroValue200
 g1:=by kernel_rfl
 g3:=by kernel_rfl
 g4:=by kernel_rfl}
open Go.RowKit Go.Lib in
theorem Tryz.strings_Split (s sep:ByteArray) (m:Int) (w:World) (hs:s.size<4294967281) (hm:w.cell? ⟨0,0,none⟩=some (.int .i64 m)) (h1:1≤sep.size) :
 Calls Tryz.prog 73 #[.string s,.string sep] w fun e w'=>
  e = .returned (.slice (some ⟨w.heap.size,0,none⟩) (Lib.countB s sep+1) (Lib.countB s sep+1))∧w'=w.alloc (.cells ((Lib.splitB sep 0 (Lib.countB s sep) s).map Value.string).toArray 9):=Any.strings_Split Tryz.lays146 (by kernel_rfl) s sep m w hs hm h1
end Go.Proofs
