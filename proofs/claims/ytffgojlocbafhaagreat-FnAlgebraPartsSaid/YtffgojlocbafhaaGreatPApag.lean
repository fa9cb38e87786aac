/- A part of the walk of one law: what the functions compute. No condition. -/
import Derived.Test.YtffgojlocbafhaaGreatRows
import Derived.Test.YtffgojlocbafhaaGreatProg
import Derived.WalkKit
import Derived.KernelRfl
import Derived.JoinedOf
import Derived.Maps.AppendAt
import Derived.Still
import Derived.ProofKit
import Derived.OpenShut
import Derived.StillTail
import Derived.Deep.Upon
import Derived.WalkSpells
import Derived.Maps.Range
import Derived.Laws.Entries
import Derived.DeepKeys4
import Derived.Laws.Concat
import Derived.Laws.IdiomStrings
import Derived.Laws.Strings
import Derived.Lib.ItoaNum
import Derived.Lib.Join
import Derived.Lib.LaidTab
import Derived.Lib.SplitLaws
import Derived.Lib.AtoiTie
import Derived.Lib.ParseIntBTie
import Derived.Laws.Strings2
import Derived.Laws.Strings3
import Derived.Laws.Slices
import Derived.Laws.StructEq
import Derived.ChangeOld
import Derived.Below
import Derived.SizedLaws
import Derived.Test.YtffgojlocbafhaaGreatPApaf
set_option linter.unusedVariables false
set_option linter.unusedSimpArgs false
set_option maxRecDepth 10000
set_option maxHeartbeats 8000000
open Nat (reduceEqDiff reduceSub reduceAdd)
namespace Go.Proofs.YtffgojlocbafhaaGreat.G
open Go Go.RowKit
theorem fn65:Fn Tryz.prog 65:=⟨_,Tryz.func65,by kernel_rfl,rfl⟩
theorem fn67:Fn Tryz.prog 67:=⟨_,Tryz.func67,by kernel_rfl,rfl⟩
theorem fn68:Fn Tryz.prog 68:=⟨_,Tryz.func68,by kernel_rfl,rfl⟩
theorem fn70:Fn Tryz.prog 70:=⟨_,Tryz.func70,by kernel_rfl,rfl⟩
section
variable {P : Program} {Q : Exit → Act → World → Prop} {n : Nat} {B : World} {H0 H : HP} {us : List (Nat × Value)} {L L1 : List SA}
theorem CJ.ownLen {c0:Code} {E:TypeId} {sz m c:Nat} {q:Option Addr} {cells:List Value} (hr:Rm L (own E sz q m c cells) L1) (h:m≤9223372036854775807→CJ P c0 Q n B H0 us H L):CJ P c0 Q n B H0 us H L:=fun a w hF hH=>by
 refine h ?_ a w hF hH
 have h1:=((hH.front hr).objs _ List.mem_cons_self).1
 rcases h1.2 with ⟨_,h2,_⟩ | ⟨g,cur,_,_,h2,h3,_⟩
 ·omega
 ·unfold maxLen at h3
  omega
theorem J.ofs0 {ops:Array Oper} {rest:List Oper} (E T:TypeId) (k:J P ops Q n B H0 rest us H (ownFs E T none 0 nilVs []::L)):J P ops Q n B H0 rest us H L:=fun a w hF hH=>k a w hF (hH.ownFsNil E T)
end
theorem Ex.ext {ds p:List Int} {n:Int} (h:Ex ds p):Ex (ds++[n]) p:=by
 refine ⟨fun i hi=>h.out i (by rw [List.length_append] at hi;omega),fun i hi ho=>?_⟩
 rcases Nat.lt_or_ge i ds.length with h1 | h1
 ·have e:(ds++[n]).getD i 0=ds.getD i 0:=by rw [List.getD_eq_getElem?_getD,List.getElem?_append_left h1,← List.getD_eq_getElem?_getD]
  rw [e] at ho;exact h.odd i h1 ho
 ·rw [h.out i h1]
  omega
theorem KEx.ext {ds:List Int} {s:Sm} {n:Int} (h:KEx ds s):KEx (ds++[n]) s:=fun x hx=>(h x hx).ext
theorem fm_left {fs:List (List Term)} {f:List Term} {i:Nat} (h:i<fs.length):fm (fs++[f]) i=fm fs i:=by unfold fm;rw [List.getD_eq_getElem?_getD,List.getElem?_append_left h,← List.getD_eq_getElem?_getD]
theorem fm_right {fs:List (List Term)} {f:List Term}:fm (fs++[f]) fs.length=f:=by unfold fm;rw [List.getD_eq_getElem?_getD,List.getElem?_append_right (Nat.le_refl _)];simp
theorem DrA.snoc {ds:List Int} {fs:List (List Term)} {n:Int} {f:List Term} (h:DrA ds fs) (h8:ds.length<8) (hn:1≤n∧n≤12) (hf:DrF ds 400 f):DrA (ds++[n]) (fs++[f]):=by
 have key : ∀i,i<(fs++[f]).length→i<fs.length∧fm (fs++[f]) i=fm fs i∨fm (fs++[f]) i=f:=fun i hi=>by
  rcases Nat.lt_or_ge i fs.length with h1 | h1
  ·exact .inl ⟨h1,fm_left h1⟩
  ·obtain rfl:i=fs.length:=by simp at hi;omega
   exact .inr fm_right
 refine ⟨by simp;omega,by simp [h.hl],fun j hj=>?_,fun i hi=>?_,fun i hi=>?_,fun i hi=>?_,fun g hg=>(List.mem_append.1 hg).elim (h.wf g) fun h9=>by rw [List.mem_singleton.1 h9];exact hf.wf⟩
 ·rcases Nat.lt_or_ge j ds.length with h1 | h1
  ·rw [List.getD_eq_getElem?_getD,List.getElem?_append_left h1,← List.getD_eq_getElem?_getD];exact h.hd j h1
  ·obtain rfl:j=ds.length:=by simp at hj;omega
   rw [List.getD_eq_getElem?_getD,List.getElem?_append_right (Nat.le_refl _)]
   simpa using hn
 ·rcases key i hi with ⟨h1,e⟩ | e
  ·rw [e];exact h.sok i h1
  ·rw [e];exact ⟨hf.sok,by have:=hf.len;omega⟩
 ·rcases key i hi with ⟨h1,e⟩ | e
  ·rw [e];exact (h.kex i h1).ext
  ·rw [e];exact hf.kex.ext
 ·rcases key i hi with ⟨h1,e⟩ | e
  ·rw [e];exact h.len i h1
  ·rw [e];exact hf.len
theorem degF_bd {ds:List Int} {ts:List Term} (hn:ds.length≤8) (hd : ∀j,0≤ds.getD j 0∧ds.getD j 0≤12) (hw:Wfs ts) : -1≤degF ds ts∧degF ds ts≤24480:=by
 unfold degF
 split
 ·unfold outAt
  split
  ·omega
  ·rename_i h0
   have h2:0<ts.length:=by omega
   have h3:Mono (tm ts 0).mono:=(hw _ (by rw [← tm_eq h2];exact List.getElem_mem h2)).mono;have h1:=wd_bd (ds:=ds) (ts:=ts) (i:=0) hn hd h3
   omega
 ·omega
theorem l02Draw_c {B:World} {H0 H:HP} {L:List SA} {w:World} {gs:Nat} {qb:Option Addr} {cb:Nat} {code:List Int} {s:Src} {most:Int} (hbt:Bts H qb code) (hbk:BtOk code) (hm:0≤most∧most≤8) (hcl:code.length≤1048576) (hH:Hp B H0 H (srcO qb cb code gs s::L) w):Calls Tryz.prog 40 [.pointer (some ⟨gs,0,none⟩),.int .i64 most].toArray w fun e w'=>∃ad af s1 qd cd qf cf vs,DrA ad af∧(ad.length:Int)≤most∧e = .returned (.agg [.slice qd ad.length cd,.slice qf af.length cf].toArray)∧Hp B H0 H (own 2 1 qd ad.length cd (intsC ad)::ownFs 43 52 qf cf vs af::srcO qb cb code gs s1::L) w':=by
 refine JB Tryz.func40 rfl 147 rfl rfl [(0,.pointer (some ⟨gs,0,none⟩)),(1,.int .i64 most)] rfl hH ?_;clear hH;refine Je fun _ hK1 _=>(Jb (JM ze27 rfl fun g4=>(Jf (Ja (hK1 (ER (σ:=Src) (fun (s5:Src)=>[]) (fun (s5:Src)=>H) (fun (s5:Src)=>srcO qb cb code gs s5::obj g4 (.cells [.slice none 0 0,.slice none 0 0].toArray 27 (0,0))::L) (fun (s5:Src)=>True) ?_ ?_))))))
 ·
  intro _ hMt1;refine Je fun _ hK2 _=>(Jb (Jg (Jc rfl) rfl (Jx fn41 rfl rfl fun w hH=>(l01Next_c hbt hbk hcl (hH.front (.s .z))).mono ?_)));rintro _ w ⟨rfl,hH⟩;refine ⟨_,rfl,fun a hF=>JQ hF hH ?_⟩;refine Jg (Ef rfl rfl) rfl (Jf (Ja (hK2 (Jm rfl (fun h17=>?_) (fun h17=>?_)))))
  ·
   refine Je fun _ hK3 _=>(Jb (Jg (Jc rfl) rfl (Jx fn67 rfl rfl fun w hH=>(l02Known_c hbt hbk hcl (hH.front .z)).mono ?_)));rintro _ w ⟨ka19,kf19,ks19,qd19,cd19,qf19,cf19,vs19,hk19,rfl,hH⟩;refine ⟨_,rfl,fun a hF=>JQ hF hH ?_⟩;refine JM ze27 rfl fun g5=>(Jr rfl rfl (by first | exact bytesC_one _ | exact intsC_one _ | exact Term.c_one _ | simp [Value.oneCell']) (by simpa [*] using sz27) (by simp [*]) At.z (Jf (Ja (hK3 (Je fun _ hK4 _=>(Jb (Jg (Jt u27 rfl sz24 rfl) rfl (Jg (Jv rfl At.z rfl pl24) rfl (Jg (Jq u24 rfl rfl) rfl (Jg (Jc rfl) rfl (Jg (PR.leq rfl rfl) rfl (Jf (Ja (hK4 (Jm rfl (fun h24=>?_) (fun h24=>?_))))))))))))))))
   ·
    refine Je fun _ hK5 _=>(Jb (Jg (Jn rfl At.z (by simpa [*] using ag27)) rfl (Jr rfl rfl (by first | exact bytesC_one _ | exact intsC_one _ | exact Term.c_one _ | simp [Value.oneCell']) (by simpa [*] using sz27) (by simp [*]) (.s (.s (.s (.s .z)))) (Jf (Ja (hK5 (Js (Ji (Ju rfl (Res.agg rfl (.s (.s (.s (.s .z)))) (by simpa [*] using ag27)) fun w hH=>?_)))))))));replace hH:=hH.sublist (.cons _ (.cons_cons _ (.cons_cons _ (.cons_cons _ (.cons _ (List.Sublist.refl _))))));exact ⟨_,_,_,_,_,_,_,_,hk19,(by omega),rfl,hH⟩
   ·
    refine Jk (Ja (JF .z (JF .z (JF .z ?_))));exact hMt1 ks19 trivial 11 rfl rfl trivial rfl rfl
  ·
   refine Jk (Ja ?_);exact hMt1 (nxS code s 3) trivial 3 rfl rfl trivial rfl rfl
 ·
  rintro s5 _;have hDA:=DrA.nil;have hdl:=ddV_bd hbk s5 (most:=most) (by omega);refine Je fun _ hK6 _=>(Jb (Jg (Jc rfl) rfl (Jg (Jc rfl) rfl (Jx fn68 rfl rfl fun w hH=>(l01DrawDegrees_c hbt hbk (by omega) hcl (hH.front .z)).mono ?_))));rintro _ w ⟨qo28,co28,rfl,hH⟩;refine ⟨_,rfl,fun a hF=>JQ hF hH ?_⟩;refine Jg (Jd rfl) rfl (Jf (Ja (hK6 (Je fun _ hK7 _=>(Jb (J.ofs0 43 52 (ED 2 1 (Jg (Ea bz27) rfl (JM ze27 rfl fun g7=>(Jr rfl rfl (by first | exact bytesC_one _ | exact intsC_one _ | exact Term.c_one _ | simp [Value.oneCell']) (by simpa [*] using sz27) (by simp [*]) At.z (Jf (Ja (hK7 (Je fun _ hK8 _=>(Je fun _ hK9 _=>(Jb ?_))))))))))))))));refine Jg (Jd rfl) rfl (Jf (Ja (hK9 (Jp (JH (σ:=Option Addr × Nat × List Int × Option Addr × Nat × Vs × List (List Term) × Src × Nat) (fun ⟨qd,cd,ad,qf,cf,vs,af,s8,i⟩=>[(8,.int .i64 (i:Int))]) (fun ⟨qd,cd,ad,qf,cf,vs,af,s8,i⟩=>H) (fun ⟨qd,cd,ad,qf,cf,vs,af,s8,i⟩=>obj g7 (.cells [.slice qd ad.length cd,.slice qf af.length cf].toArray 27 (0,0))::own 2 1 qd ad.length cd (intsC ad)::ownFs 43 52 qf cf vs af::own 2 1 qo28 (ddV code s5 most).length co28 (intsC (ddV code s5 most))::srcO qb cb code gs s8::obj g4 (.cells [.slice none 0 0,.slice none 0 0].toArray 27 (0,0))::L) (fun ⟨qd,cd,ad,qf,cf,vs,af,s8,i⟩=>i≤(ddV code s5 most).length∧ad.length=i∧DrA ad af) (fun ⟨qd,cd,ad,qf,cf,vs,af,s8,i⟩=>(ddV code s5 most).length - i) (none,0, [],none,0,nilVs, [],(ddS code s5 most),0) ⟨by omega,rfl,hDA⟩ ⟨rfl,trivial⟩ rfl rfl ?_)))));rintro ⟨qd,cd,ad,qf,cf,vs,af,s8,i⟩ ⟨hi,hai,hDA⟩ _ hAg0;refine Je fun _ hK10 _=>(Je fun _ hK11 _=>(Jb (Jg (Jc rfl) rfl (Jg (Jc rfl) rfl (Jg (Jq u24 rfl rfl) rfl (Jg (JV rfl rfl) rfl (Jf (Ja (hK11 (Jm rfl (fun h33=>?_) (fun h33=>?_)))))))))))
  ·
   have hil:i<(ddV code s5 most).length:=by omega
   have hdi:=hdl.2 ((ddV code s5 most).getD i 0) (getD_mem hil);have hfw:Wfs []:=Wfs.nil;refine Jk (Ja (hK10 (Je fun _ hK12 _=>(Jp (Je fun _ hK13 _=>(Jb (ED 52 9 (Jg (Ea bz43) rfl (JM ze43 rfl fun g9=>(Jr rfl rfl (by first | exact bytesC_one _ | exact intsC_one _ | exact Term.c_one _ | simp [Value.oneCell']) (by simpa [*] using sz43) (by simp [*]) At.z (Jf (Ja (hK13 (ER (σ:=List Term × Option Addr × Nat × Src) (fun ⟨f9,q9,c9,s9⟩=>[]) (fun ⟨f9,q9,c9,s9⟩=>H) (fun ⟨f9,q9,c9,s9⟩=>obj g9 (.cells [.slice q9 f9.length c9].toArray 43 (0,0))::own 52 9 q9 f9.length c9 (tsC f9)::srcO qb cb code gs s9::obj g7 (.cells [.slice qd ad.length cd,.slice qf af.length cf].toArray 27 (0,0))::own 2 1 qd ad.length cd (intsC ad)::ownFs 43 52 qf cf vs af::own 2 1 qo28 (ddV code s5 most).length co28 (intsC (ddV code s5 most))::obj g4 (.cells [.slice none 0 0,.slice none 0 0].toArray 27 (0,0))::L) (fun ⟨f9,q9,c9,s9⟩=>Wfs f9) ?_ ?_))))))))))))))
   ·
    intro _ hMt2;refine Je fun _ hK14 _=>(Jb (Jg (Jc rfl) rfl (Jx fn41 rfl rfl fun w hH=>(l01Next_c hbt hbk hcl (hH.front (.s (.s (.s (.s (.s (.s .z)))))))).mono ?_)));rintro _ w ⟨rfl,hH⟩;refine ⟨_,rfl,fun a hF=>JQ hF hH ?_⟩;refine Jf (Ja (hK14 (Jp (Je fun _ hK15 _=>(Jb (Jg (Ef rfl rfl) rfl (Jg (Jd rfl) rfl (Jf (Ja (hK15 (Jm rfl (fun hc39=>?_) (fun hc39=>?_))))))))))))
    ·
     refine Ev (Rs:=[_,_,_,_,_,_,_,_]) 10 [[], [], [1], [], [], [3,4], [3,4,5], [3,4,5,6], [0,1,2,3,4,5,6,7], [0,1,2,3,4,5,6,7,8]] [[], [], [13], [], [], [16], [16], [], [14], []] [[], [], [], [], [], [], [], [], [10], [11]] rfl rfl (by kernel_rfl) ?_;apply Jw 1 rfl
     iterate 3 focus (intros;(conv=>lhs;simp only [Jj,JA,JX,JC,JU,eq_self,reduceEqDiff,reduceIte,reduceSub,reduceAdd,JxA,JxB]);all_goals rfl)
     ·
      intro gh X K zq zc zq2 zc2 zb zv hK;refine Jg (Jc rfl) rfl (Jo ?_);exact hK zq zc zq2 zc2 zb zv
     ·
      intro gh gh' h
      rfl
     apply Jw 2 rfl
     iterate 3 focus (intros;(conv=>lhs;simp only [Jj,JA,JX,JC,JU,eq_self,reduceEqDiff,reduceIte,reduceSub,reduceAdd,JxA,JxB]);all_goals rfl)
     ·
      intro gh X K zq zc zq2 zc2 zb zv hK;refine Jg (Jt u27 rfl sz24 rfl) rfl (Jo ?_);exact hK zq zc zq2 zc2 zb zv
     ·
      intro gh gh' h
      rfl
     apply Jw 3 rfl
     iterate 3 focus (intros;(conv=>lhs;simp only [Jj,JA,JX,JC,JU,eq_self,reduceEqDiff,reduceIte,reduceSub,reduceAdd,JxA,JxB]);all_goals rfl)
     ·
      intro gh X K zq zc zq2 zc2 zb zv hK;refine Jg (Jv rfl At.z rfl pl24) rfl (Jo ?_);exact hK zq zc zq2 zc2 zb zv
     ·
      intro gh gh' h
      rfl
     apply Jw 4 rfl
     iterate 3 focus (intros;(conv=>lhs;simp only [Jj,JA,JX,JC,JU,eq_self,reduceEqDiff,reduceIte,reduceSub,reduceAdd,JxA,JxB]);all_goals rfl)
     ·
      intro gh X K zq zc zq2 zc2 zb zv hK;refine Jg (Jc rfl) rfl (Jo ?_);exact hK zq zc zq2 zc2 zb zv
     ·
      intro gh gh' h
      rfl
     apply Jw 5 rfl
     iterate 3 focus (intros;(conv=>lhs;simp only [Jj,JA,JX,JC,JU,eq_self,reduceEqDiff,reduceIte,reduceSub,reduceAdd,JxA,JxB]);all_goals rfl)
     ·
      intro gh X K zq zc zq2 zc2 zb zv hK;refine Jg (Jc rfl) rfl (Jo ?_);exact hK zq zc zq2 zc2 zb zv
     ·
      intro gh gh' h
      rfl
     apply Jw 6 rfl
     iterate 3 focus (intros;(conv=>lhs;simp only [Jj,JA,JX,JC,JU,eq_self,reduceEqDiff,reduceIte,reduceSub,reduceAdd,JxA,JxB]);all_goals rfl)
     ·
      intro gh X K zq zc zq2 zc2 zb zv hK;refine Jg (EN u24 sz2 rfl rfl rfl (by omega) At.z) rfl (Jo ?_);exact hK zq zc zq2 zc2 zb zv
     ·
      intro gh gh' h
      rfl
     apply Jw 7 rfl
     iterate 3 focus (intros;(conv=>lhs;simp only [Jj,JA,JX,JC,JU,eq_self,reduceEqDiff,reduceIte,reduceSub,reduceAdd,JxA,JxB]);all_goals rfl)
     ·
      intro gh X K zq zc zq2 zc2 zb zv hK;refine Jg (EL rfl At.z (intsC_get (by first | omega | (simp;omega))) pl2) rfl (Jo ?_);exact hK zq zc zq2 zc2 zb zv
     ·
      intro gh gh' h
      rfl
     apply Jw 8 rfl
     iterate 3 focus (intros;(conv=>lhs;simp only [Jj,JA,JX,JC,JU,eq_self,reduceEqDiff,reduceIte,reduceSub,reduceAdd,JxA,JxB]);all_goals rfl)
     ·
      intro gh X K zq zc zq2 zc2 zb zv hK;refine Jg (Jy rfl rfl (nw _ (by omega))) rfl (Jo ?_);exact hK zq zc zq2 zc2 zb zv
     ·
      intro gh gh' h
      rfl
     apply GJ.st2 9 rfl
     iterate 3 focus (intros;(conv=>lhs;simp only [Jj,JA,JX,JC,JU,eq_self,reduceEqDiff,reduceIte,reduceSub,reduceAdd,JxA,JxB]);all_goals rfl)
     ·
      intro gh X K zq zc zq2 zc2 zb zv hK;refine Jx fn65 rfl rfl fun w hH=>hH.lend (.s .z) fun Hl1 hle1 hA1 hB1 hH=>(l01DrawForm_c (hbt.le hle1) hbk (own_ints hA1) hDA.hd hDA.hn (by omega) (by omega) hcl (hH.front .z)).mono ?_;rintro _ w ⟨qo49,co49,rfl,hH⟩;replace hH:=hB1 _ _ hH;refine ⟨_,rfl,fun a hF=>JQ hF hH ?_⟩;refine Jh .z (Jh (.s (.s .z)) (Jh (.s (.s .z)) (Jo ?_)));exact hK qo49 co49 zq2 zc2 zb zv
     ·
      intro gh gh' h;refine ⟨?_,?_,?_⟩ <;> rfl
     apply EB 10 rfl
     iterate 3 focus (intros;(conv=>lhs;simp only [Jj,JA,JX,JC,JU,eq_self,reduceEqDiff,reduceIte,reduceSub,reduceAdd,JxA,JxB]);all_goals rfl)
     ·
      intro gh X K hK;refine Jr rfl rfl (by first | exact bytesC_one _ | exact intsC_one _ | exact Term.c_one _ | simp [Value.oneCell']) (by simpa [*] using sz43) (by simp [*]) At.z (Jo ?_);exact hK
     ·
      intro gh gh' h
      first | simp only [h 8 rfl] | rfl
     apply Eu [0,1,2,3,4,5,6,7,8,9] [0,1,2,3,4,5,6,7,8,9,12,13,14,15,16,17] foll0 rfl rfl rfl (by rfl)
     iterate 2 focus (intros;(conv=>lhs;simp only [Jj,JA,JX,JC,JU,eq_self,reduceEqDiff,reduceIte,reduceSub,reduceAdd,JxA,JxB]);all_goals rfl)
     intro gh;generalize (gh 8).c=co49;generalize (gh 8).q=qo49;clear gh;refine JD (Ja (JF (.s (.s (.s .z))) (Jh (.s (.s (.s (.s (.s (.s (.s .z))))))) (Jh (.s (.s (.s (.s (.s (.s (.s .z))))))) (Jh (.s (.s (.s (.s (.s (.s (.s .z))))))) (Jh (.s (.s (.s (.s (.s (.s (.s .z))))))) (Jh (.s (.s (.s (.s (.s (.s (.s .z))))))) (Jh (.s (.s (.s (.s (.s (.s .z)))))) (Jh (.s (.s (.s (.s (.s (.s .z)))))) (Jh (.s (.s (.s (.s (.s (.s (.s .z))))))) ?_))))))))));exact hMt2 (_,qo49,co49,_) (dfV_ok hbk hDA.hn hDA.hd _ _ (most:=3) (by omega)).wf 13 rfl rfl trivial rfl rfl
    ·
     refine Je fun _ hK16 _=>(Jb (Jg (Ef rfl rfl) rfl (Jg (Jd rfl) rfl (Jf (Ja (hK16 (Jm rfl (fun hc50=>?_) (fun hc50=>?_))))))))
     ·
      refine Ev (Rs:=[_,_,_,_,_,_,_,_]) 11 [[], [], [], [2], [], [], [4,5], [4,5,6], [1,2,3,4,5,6,7], [0,1,2,3,4,5,6,7,8], [0,1,2,3,4,5,6,7,8,9]] [[14], [], [], [14], [], [], [17], [17], [15], [8,15,16], []] [[], [], [], [], [], [], [], [], [11], [], [12]] rfl rfl (by kernel_rfl) ?_;apply Jw 1 rfl
      iterate 3 focus (intros;(conv=>lhs;simp only [Jj,JA,JX,JC,JU,eq_self,reduceEqDiff,reduceIte,reduceSub,reduceAdd,JxA,JxB]);all_goals rfl)
      ·
       intro gh X K zq zc zq2 zc2 zb zv hK;refine Jg (Jn rfl At.z (by simpa [*] using ag27)) rfl (Jo ?_);exact hK zq zc zq2 zc2 zb zv
      ·
       intro gh gh' h
       rfl
      apply Jw 2 rfl
      iterate 3 focus (intros;(conv=>lhs;simp only [Jj,JA,JX,JC,JU,eq_self,reduceEqDiff,reduceIte,reduceSub,reduceAdd,JxA,JxB]);all_goals rfl)
      ·
       intro gh X K zq zc zq2 zc2 zb zv hK;refine Jg (Jc rfl) rfl (Jo ?_);exact hK zq zc zq2 zc2 zb zv
      ·
       intro gh gh' h
       rfl
      apply Jw 3 rfl
      iterate 3 focus (intros;(conv=>lhs;simp only [Jj,JA,JX,JC,JU,eq_self,reduceEqDiff,reduceIte,reduceSub,reduceAdd,JxA,JxB]);all_goals rfl)
      ·
       intro gh X K zq zc zq2 zc2 zb zv hK;refine Jg (Jt u27 rfl sz24 rfl) rfl (Jo ?_);exact hK zq zc zq2 zc2 zb zv
      ·
       intro gh gh' h
       rfl
      apply Jw 4 rfl
      iterate 3 focus (intros;(conv=>lhs;simp only [Jj,JA,JX,JC,JU,eq_self,reduceEqDiff,reduceIte,reduceSub,reduceAdd,JxA,JxB]);all_goals rfl)
      ·
       intro gh X K zq zc zq2 zc2 zb zv hK;refine Jg (Jv rfl At.z rfl pl24) rfl (Jo ?_);exact hK zq zc zq2 zc2 zb zv
      ·
       intro gh gh' h
       rfl
      apply Jw 5 rfl
      iterate 3 focus (intros;(conv=>lhs;simp only [Jj,JA,JX,JC,JU,eq_self,reduceEqDiff,reduceIte,reduceSub,reduceAdd,JxA,JxB]);all_goals rfl)
      ·
       intro gh X K zq zc zq2 zc2 zb zv hK;refine Jg (Jc rfl) rfl (Jo ?_);exact hK zq zc zq2 zc2 zb zv
      ·
       intro gh gh' h
       rfl
      apply Jw 6 rfl
      iterate 3 focus (intros;(conv=>lhs;simp only [Jj,JA,JX,JC,JU,eq_self,reduceEqDiff,reduceIte,reduceSub,reduceAdd,JxA,JxB]);all_goals rfl)
      ·
       intro gh X K zq zc zq2 zc2 zb zv hK;refine Jg (Jc rfl) rfl (Jo ?_);exact hK zq zc zq2 zc2 zb zv
      ·
       intro gh gh' h
       rfl
      apply Jw 7 rfl
      iterate 3 focus (intros;(conv=>lhs;simp only [Jj,JA,JX,JC,JU,eq_self,reduceEqDiff,reduceIte,reduceSub,reduceAdd,JxA,JxB]);all_goals rfl)
      ·
       intro gh X K zq zc zq2 zc2 zb zv hK;refine Jg (EN u24 sz2 rfl rfl rfl (by omega) At.z) rfl (Jo ?_);exact hK zq zc zq2 zc2 zb zv
      ·
       intro gh gh' h
       rfl
      apply Jw 8 rfl
      iterate 3 focus (intros;(conv=>lhs;simp only [Jj,JA,JX,JC,JU,eq_self,reduceEqDiff,reduceIte,reduceSub,reduceAdd,JxA,JxB]);all_goals rfl)
      ·
       intro gh X K zq zc zq2 zc2 zb zv hK;refine Jg (EL rfl At.z (intsC_get (by first | omega | (simp;omega))) pl2) rfl (Jo ?_);exact hK zq zc zq2 zc2 zb zv
      ·
       intro gh gh' h
       rfl
      apply GJ.st2 9 rfl
      iterate 3 focus (intros;(conv=>lhs;simp only [Jj,JA,JX,JC,JU,eq_self,reduceEqDiff,reduceIte,reduceSub,reduceAdd,JxA,JxB]);all_goals rfl)
      ·
       intro gh X K zq zc zq2 zc2 zb zv hK;refine Jx fn65 rfl rfl fun w hH=>hH.lend (.s .z) fun Hl1 hle1 hA1 hB1 hH=>(l01DrawForm_c (hbt.le hle1) hbk (own_ints hA1) hDA.hd hDA.hn (by omega) (by omega) hcl (hH.front .z)).mono ?_;rintro _ w ⟨qo60,co60,rfl,hH⟩;replace hH:=hB1 _ _ hH;refine ⟨_,rfl,fun a hF=>JQ hF hH ?_⟩;refine Jh .z (Jh (.s (.s .z)) (Jh (.s (.s .z)) (Jo ?_)));exact hK qo60 co60 zq2 zc2 zb zv
      ·
       intro gh gh' h;refine ⟨?_,?_,?_⟩ <;> rfl
      apply Eq 10 rfl
      iterate 3 focus (intros;(conv=>lhs;simp only [Jj,JA,JX,JC,JU,eq_self,reduceEqDiff,reduceIte,reduceSub,reduceAdd,JxA,JxB]);all_goals rfl)
      ·
       intro gh X K zq zc zq2 zc2 zb zv hK;refine Jx fn54 rfl rfl fun w hH=>hH.lend (.s (.s .z)) fun Hl1 hle1 hA1 hB1 hH=>hH.lend (.s (.s .z)) fun Hl2 hle2 hA2 hB2 hH=>hH.lend .z fun Hl3 hle3 hA3 hB3 hH=>(l02D_c (((own_ints hA1).le hle2).le hle3) ((own_forms hDA.wf hA2).le hle3) (own_terms (dfV_ok hbk hDA.hn hDA.hd ((ddV code s5 most).getD i 0) (nxS code s8 4) (most:=2) (by omega)).wf hA3) hDA.hn hDA.hd0 hDA.sok hDA.hl hDA.kex (dfV_ok hbk hDA.hn hDA.hd ((ddV code s5 most).getD i 0) (nxS code s8 4) (most:=2) (by omega)).sok (dfV_ok hbk hDA.hn hDA.hd ((ddV code s5 most).getD i 0) (nxS code s8 4) (most:=2) (by omega)).kex (by omega) (fun i hi=>by have:=hDA.len i hi;omega) (by have:=(dfV_ok hbk hDA.hn hDA.hd ((ddV code s5 most).getD i 0) (nxS code s8 4) (most:=2) (by omega)).len;omega) hH).mono ?_;rintro _ w ⟨qo61,co61,rfl,hH⟩;replace hH:=hB3 _ _ hH;replace hH:=hB2 _ _ hH;replace hH:=hB1 _ _ hH;refine ⟨_,rfl,fun a hF=>JQ hF hH ?_⟩;refine Jh (.s .z) (Jh (.s .z) (Jh (.s (.s (.s (.s .z)))) (Jh (.s (.s (.s .z))) (Jh (.s (.s (.s (.s .z)))) (Jo ?_)))));exact hK qo61 co61 zq2 zc2 zb zv
      ·
       intro gh gh' h;refine ⟨?_,?_⟩ <;> (first | simp only [h 8 rfl] | rfl)
      apply EB 11 rfl
      iterate 3 focus (intros;(conv=>lhs;simp only [Jj,JA,JX,JC,JU,eq_self,reduceEqDiff,reduceIte,reduceSub,reduceAdd,JxA,JxB]);all_goals rfl)
      ·
       intro gh X K hK;refine Jr rfl rfl (by first | exact bytesC_one _ | exact intsC_one _ | exact Term.c_one _ | simp [Value.oneCell']) (by simpa [*] using sz43) (by simp [*]) At.z (Jo ?_);exact hK
      ·
       intro gh gh' h
       first | simp only [h 8 rfl,h 9 rfl] | rfl
      apply Eu [0,1,2,3,4,5,6,7,8,9,10] [0,1,2,3,4,5,6,7,8,9,10,13,14,15,16,17,18] foll0 rfl rfl rfl (by rfl)
      iterate 2 focus (intros;(conv=>lhs;simp only [Jj,JA,JX,JC,JU,eq_self,reduceEqDiff,reduceIte,reduceSub,reduceAdd,JxA,JxB]);all_goals rfl)
      intro gh;generalize (gh 8).c=co60;generalize (gh 8).q=qo60;generalize (gh 9).c=co61;generalize (gh 9).q=qo61;clear gh;refine JD (Ja (JF .z (JF (.s (.s (.s .z))) (Jh (.s (.s (.s (.s (.s (.s (.s .z))))))) (Jh (.s (.s (.s (.s (.s (.s (.s .z))))))) (Jh (.s (.s (.s (.s (.s (.s (.s .z))))))) (Jh (.s (.s (.s (.s (.s (.s (.s .z))))))) (Jh (.s (.s (.s (.s (.s (.s (.s .z))))))) (Jh (.s (.s (.s (.s (.s .z))))) (Jh (.s (.s (.s (.s (.s (.s .z)))))) (Jh (.s (.s (.s (.s (.s (.s (.s .z))))))) ?_)))))))))));exact hMt2 (_,qo61,co61,_) ((dS_sok (dfV_ok hbk hDA.hn hDA.hd ((ddV code s5 most).getD i 0) (nxS code s8 4) (most:=2) (by omega)).sok hDA.sok (Ex.occ (dfV_ok hbk hDA.hn hDA.hd ((ddV code s5 most).getD i 0) (nxS code s8 4) (most:=2) (by omega)).kex hDA.hl)).wf (by omega)) 16 rfl rfl trivial rfl rfl
     ·
      refine Je fun _ hK17 _=>(Jb (Jg (Ef rfl rfl) rfl (Jg (Jd rfl) rfl (Jf (Ja (hK17 (Jm rfl (fun hc62=>?_) (fun hc62=>?_))))))))
      ·
       refine Je fun _ hK18 _=>?_;have hG1:=(dfV_ok hbk hDA.hn hDA.hd (1+nxV code (nxS code s8 4) (((ddV code s5 most).getD i 0)+1)) (nxS code (nxS code s8 4) (((ddV code s5 most).getD i 0)+1)) (most:=1) (by omega));refine Ev (Rs:=[_,_,_,_,_,_,_,_]) 14 [[], [], [1], [], [], [], [4,5], [4,5,6], [4,5,6,7], [3,4,5,6,7,8], [3,4,5,6,7,8,9], [0,1,2,3,4,5,6,7,8,9,10], [], [0,1,2,3,4,5,6,7,8,9,10,11,12]] [[], [], [17], [], [], [], [20], [20], [], [], [], [18], [], []] [[], [], [], [], [], [], [], [], [], [14], [], [9], [], [12]] rfl rfl (by kernel_rfl) ?_;apply Jw 1 rfl
       iterate 3 focus (intros;(conv=>lhs;simp only [Jj,JA,JX,JC,JU,eq_self,reduceEqDiff,reduceIte,reduceSub,reduceAdd,JxA,JxB]);all_goals rfl)
       ·
        intro gh X K zq zc zq2 zc2 zb zv hK;refine Jg (Jc rfl) rfl (Jo ?_);exact hK zq zc zq2 zc2 zb zv
       ·
        intro gh gh' h
        rfl
       apply Jw 2 rfl
       iterate 3 focus (intros;(conv=>lhs;simp only [Jj,JA,JX,JC,JU,eq_self,reduceEqDiff,reduceIte,reduceSub,reduceAdd,JxA,JxB]);all_goals rfl)
       ·
        intro gh X K zq zc zq2 zc2 zb zv hK;refine Jg (Jt u27 rfl sz24 rfl) rfl (Jo ?_);exact hK zq zc zq2 zc2 zb zv
       ·
        intro gh gh' h
        rfl
       apply Jw 3 rfl
       iterate 3 focus (intros;(conv=>lhs;simp only [Jj,JA,JX,JC,JU,eq_self,reduceEqDiff,reduceIte,reduceSub,reduceAdd,JxA,JxB]);all_goals rfl)
       ·
        intro gh X K zq zc zq2 zc2 zb zv hK;refine Jg (Jv rfl At.z rfl pl24) rfl (Jo ?_);exact hK zq zc zq2 zc2 zb zv
       ·
        intro gh gh' h
        rfl
       apply Jw 4 rfl
       iterate 3 focus (intros;(conv=>lhs;simp only [Jj,JA,JX,JC,JU,eq_self,reduceEqDiff,reduceIte,reduceSub,reduceAdd,JxA,JxB]);all_goals rfl)
       ·
        intro gh X K zq zc zq2 zc2 zb zv hK;refine Jg (Jc rfl) rfl (Jo ?_);exact hK zq zc zq2 zc2 zb zv
       ·
        intro gh gh' h
        rfl
       apply Jw 5 rfl
       iterate 3 focus (intros;(conv=>lhs;simp only [Jj,JA,JX,JC,JU,eq_self,reduceEqDiff,reduceIte,reduceSub,reduceAdd,JxA,JxB]);all_goals rfl)
       ·
        intro gh X K zq zc zq2 zc2 zb zv hK;refine Jg (Jc rfl) rfl (Jo ?_);exact hK zq zc zq2 zc2 zb zv
       ·
        intro gh gh' h
        rfl
       apply Jw 6 rfl
       iterate 3 focus (intros;(conv=>lhs;simp only [Jj,JA,JX,JC,JU,eq_self,reduceEqDiff,reduceIte,reduceSub,reduceAdd,JxA,JxB]);all_goals rfl)
       ·
        intro gh X K zq zc zq2 zc2 zb zv hK;refine Jg (Jc rfl) rfl (Jo ?_);exact hK zq zc zq2 zc2 zb zv
       ·
        intro gh gh' h
        rfl
       apply Jw 7 rfl
       iterate 3 focus (intros;(conv=>lhs;simp only [Jj,JA,JX,JC,JU,eq_self,reduceEqDiff,reduceIte,reduceSub,reduceAdd,JxA,JxB]);all_goals rfl)
       ·
        intro gh X K zq zc zq2 zc2 zb zv hK;refine Jg (EN u24 sz2 rfl rfl rfl (by omega) At.z) rfl (Jo ?_);exact hK zq zc zq2 zc2 zb zv
       ·
        intro gh gh' h
        rfl
       apply Jw 8 rfl
       iterate 3 focus (intros;(conv=>lhs;simp only [Jj,JA,JX,JC,JU,eq_self,reduceEqDiff,reduceIte,reduceSub,reduceAdd,JxA,JxB]);all_goals rfl)
       ·
        intro gh X K zq zc zq2 zc2 zb zv hK;refine Jg (EL rfl At.z (intsC_get (by first | omega | (simp;omega))) pl2) rfl (Jo ?_);exact hK zq zc zq2 zc2 zb zv
       ·
        intro gh gh' h
        rfl
       apply Jw 9 rfl
       iterate 3 focus (intros;(conv=>lhs;simp only [Jj,JA,JX,JC,JU,eq_self,reduceEqDiff,reduceIte,reduceSub,reduceAdd,JxA,JxB]);all_goals rfl)
       ·
        intro gh X K zq zc zq2 zc2 zb zv hK;refine Jg (Jy rfl rfl (nw _ (by omega))) rfl (Jo ?_);exact hK zq zc zq2 zc2 zb zv
       ·
        intro gh gh' h
        rfl
       apply Eq 10 rfl
       iterate 3 focus (intros;(conv=>lhs;simp only [Jj,JA,JX,JC,JU,eq_self,reduceEqDiff,reduceIte,reduceSub,reduceAdd,JxA,JxB]);all_goals rfl)
       ·
        intro gh X K zq zc zq2 zc2 zb zv hK;refine Jx fn41 rfl rfl fun w hH=>(l01Next_c hbt hbk hcl (hH.front .z)).mono ?_;rintro _ w ⟨rfl,hH⟩;refine ⟨_,rfl,fun a hF=>JQ hF hH ?_⟩;refine Jo ?_;exact hK zq zc zq2 zc2 zb zv
       ·
        intro gh gh' h;refine ⟨?_,?_⟩ <;> rfl
       apply Jw 11 rfl
       iterate 3 focus (intros;(conv=>lhs;simp only [Jj,JA,JX,JC,JU,eq_self,reduceEqDiff,reduceIte,reduceSub,reduceAdd,JxA,JxB]);all_goals rfl)
       ·
        intro gh X K zq zc zq2 zc2 zb zv hK;refine Jg (Jy rfl rfl (nw _ (by have:=nxV_bd hbk (nxS code s8 4) (((ddV code s5 most).getD i 0)+1);omega))) rfl (Jo ?_);exact hK zq zc zq2 zc2 zb zv
       ·
        intro gh gh' h
        rfl
       apply GJ.st2 12 rfl
       iterate 3 focus (intros;(conv=>lhs;simp only [Jj,JA,JX,JC,JU,eq_self,reduceEqDiff,reduceIte,reduceSub,reduceAdd,JxA,JxB]);all_goals rfl)
       ·
        intro gh X K zq zc zq2 zc2 zb zv hK;refine Jx fn65 rfl rfl fun w hH=>hH.lend (.s .z) fun Hl1 hle1 hA1 hB1 hH=>(l01DrawForm_c (hbt.le hle1) hbk (own_ints hA1) hDA.hd hDA.hn (by have:=nxV_bd hbk (nxS code s8 4) (((ddV code s5 most).getD i 0)+1);omega) (by omega) hcl (hH.front .z)).mono ?_;rintro _ w ⟨qo75,co75,rfl,hH⟩;replace hH:=hB1 _ _ hH;refine ⟨_,rfl,fun a hF=>JQ hF hH ?_⟩;refine Jh .z (Jh (.s (.s .z)) (Jh (.s (.s .z)) (Jo ?_)));exact hK qo75 co75 zq2 zc2 zb zv
       ·
        intro gh gh' h;refine ⟨?_,?_,?_⟩ <;> rfl
       apply Eq 13 rfl
       iterate 3 focus (intros;(conv=>lhs;simp only [Jj,JA,JX,JC,JU,eq_self,reduceEqDiff,reduceIte,reduceSub,reduceAdd,JxA,JxB]);all_goals rfl)
       ·
        intro gh X K zq zc zq2 zc2 zb zv hK;refine JM ze43 rfl fun g10=>(Jo ?_);exact hK zq zc zq2 zc2 g10 zv
       ·
        intro gh gh' h;refine ⟨?_,?_⟩ <;> rfl
       apply EB 14 rfl
       iterate 3 focus (intros;(conv=>lhs;simp only [Jj,JA,JX,JC,JU,eq_self,reduceEqDiff,reduceIte,reduceSub,reduceAdd,JxA,JxB]);all_goals rfl)
       ·
        intro gh X K hK;refine Jr rfl rfl (by first | exact bytesC_one _ | exact intsC_one _ | exact Term.c_one _ | simp [Value.oneCell']) (by simpa [*] using sz43) (by simp [*]) At.z (Jo ?_);exact hK
       ·
        intro gh gh' h
        first | simp only [h 11 rfl,h 12 rfl] | rfl
       apply Eu [0,1,2,3,4,5,6,7,8,9,10,11,12,13] [0,1,2,3,4,5,6,7,8,10,11,13,15,16,17,18,19,20,21] foll0 rfl rfl rfl (by rfl)
       iterate 2 focus (intros;(conv=>lhs;simp only [Jj,JA,JX,JC,JU,eq_self,reduceEqDiff,reduceIte,reduceSub,reduceAdd,JxA,JxB]);all_goals rfl)
       intro gh;generalize (gh 11).c=co75;generalize (gh 11).q=qo75;generalize (gh 12).b=g10;clear gh;refine Ja (hK18 (Je fun _ hK19 _=>?_));have hgd:=degF_bd (ds:=ad) (ts:=dfV code ad (1+nxV code (nxS code s8 4) (((ddV code s5 most).getD i 0)+1)) (nxS code (nxS code s8 4) (((ddV code s5 most).getD i 0)+1)) 1) hDA.hn hDA.hd0 hG1.wf;refine Jb (Jg (Jt u27 rfl sz24 rfl) rfl (Jg (Jv rfl (.s (.s (.s (.s (.s .z))))) rfl pl24) rfl (Jg (Jn rfl (.s (.s .z)) (by simpa [*] using ag43)) rfl (Jx fn53 rfl rfl fun w hH=>hH.lend (.s (.s (.s (.s (.s (.s .z)))))) fun Hl1 hle1 hA1 hB1 hH=>hH.lend .z fun Hl2 hle2 hA2 hB2 hH=>(l01Degree_c ((own_ints hA1).le hle2) (own_terms hG1.wf hA2) hDA.hn hDA.hd0 (by have:=hG1.len;omega) hH).mono ?_))));rintro _ w ⟨rfl,hH⟩;replace hH:=hB2 _ _ hH;replace hH:=hB1 _ _ hH;refine ⟨_,rfl,fun a hF=>JQ hF hH ?_⟩;refine Jg (Jc rfl) rfl (Jg (JJ rfl rfl) rfl (Jg (JJ rfl rfl) rfl (Jg (Jd rfl) rfl (Jg (Jd rfl) rfl (Jf (Ja (hK19 ?_)))))));have hH1:=(dfV_ok hbk hDA.hn hDA.hd (((ddV code s5 most).getD i 0)+1 - max (degF ad (dfV code ad (1+nxV code (nxS code s8 4) (((ddV code s5 most).getD i 0)+1)) (nxS code (nxS code s8 4) (((ddV code s5 most).getD i 0)+1)) 1)) 0) (dfS code ad (1+nxV code (nxS code s8 4) (((ddV code s5 most).getD i 0)+1)) (nxS code (nxS code s8 4) (((ddV code s5 most).getD i 0)+1)) 1) (most:=1) (by omega));refine Ev (Rs:=[_,_,_,_,_,_,_,_,_,_]) 17 [[], [0], [], [], [], [4], [], [], [6,7], [6,7,8], [6,7,8,9], [], [11], [6,7,8,9,10,11,12], [3,4,5,6,7,8,9,10,11,12,13], [0,1,2,3,4,5,6,7,8,9,10,11,12,13,14], [0,1,2,3,4,5,6,7,8,9,10,11,12,13,14,15]] [[], [23], [20], [], [], [23], [], [], [25], [25], [], [], [], [], [17], [14,17,18], []] [[], [], [], [], [], [], [], [], [], [], [], [], [], [], [19], [], [21]] rfl rfl (by kernel_rfl) ?_;apply Jw 1 rfl
       iterate 3 focus (intros;(conv=>lhs;simp only [Jj,JA,JX,JC,JU,eq_self,reduceEqDiff,reduceIte,reduceSub,reduceAdd,JxA,JxB]);all_goals rfl)
       ·
        intro gh X K zq zc zq2 zc2 zb zv hK;refine Jg (Jt u27 rfl sz24 rfl) rfl (Jo ?_);exact hK zq zc zq2 zc2 zb zv
       ·
        intro gh gh' h
        rfl
       apply Jw 2 rfl
       iterate 3 focus (intros;(conv=>lhs;simp only [Jj,JA,JX,JC,JU,eq_self,reduceEqDiff,reduceIte,reduceSub,reduceAdd,JxA,JxB]);all_goals rfl)
       ·
        intro gh X K zq zc zq2 zc2 zb zv hK;refine Jg (Jv rfl At.z rfl pl24) rfl (Jo ?_);exact hK zq zc zq2 zc2 zb zv
       ·
        intro gh gh' h
        rfl
       apply Jw 3 rfl
       iterate 3 focus (intros;(conv=>lhs;simp only [Jj,JA,JX,JC,JU,eq_self,reduceEqDiff,reduceIte,reduceSub,reduceAdd,JxA,JxB]);all_goals rfl)
       ·
        intro gh X K zq zc zq2 zc2 zb zv hK;refine Jg (Jn rfl At.z (by simpa [*] using ag43)) rfl (Jo ?_);exact hK zq zc zq2 zc2 zb zv
       ·
        intro gh gh' h
        rfl
       apply Jw 4 rfl
       iterate 3 focus (intros;(conv=>lhs;simp only [Jj,JA,JX,JC,JU,eq_self,reduceEqDiff,reduceIte,reduceSub,reduceAdd,JxA,JxB]);all_goals rfl)
       ·
        intro gh X K zq zc zq2 zc2 zb zv hK;refine Jg (Jc rfl) rfl (Jo ?_);exact hK zq zc zq2 zc2 zb zv
       ·
        intro gh gh' h
        rfl
       apply Jw 5 rfl
       iterate 3 focus (intros;(conv=>lhs;simp only [Jj,JA,JX,JC,JU,eq_self,reduceEqDiff,reduceIte,reduceSub,reduceAdd,JxA,JxB]);all_goals rfl)
       ·
        intro gh X K zq zc zq2 zc2 zb zv hK;refine Jg (Jt u27 rfl sz24 rfl) rfl (Jo ?_);exact hK zq zc zq2 zc2 zb zv
       ·
        intro gh gh' h
        rfl
       apply Jw 6 rfl
       iterate 3 focus (intros;(conv=>lhs;simp only [Jj,JA,JX,JC,JU,eq_self,reduceEqDiff,reduceIte,reduceSub,reduceAdd,JxA,JxB]);all_goals rfl)
       ·
        intro gh X K zq zc zq2 zc2 zb zv hK;refine Jg (Jv rfl At.z rfl pl24) rfl (Jo ?_);exact hK zq zc zq2 zc2 zb zv
       ·
        intro gh gh' h
        rfl
       apply Jw 7 rfl
       iterate 3 focus (intros;(conv=>lhs;simp only [Jj,JA,JX,JC,JU,eq_self,reduceEqDiff,reduceIte,reduceSub,reduceAdd,JxA,JxB]);all_goals rfl)
       ·
        intro gh X K zq zc zq2 zc2 zb zv hK;refine Jg (Jc rfl) rfl (Jo ?_);exact hK zq zc zq2 zc2 zb zv
       ·
        intro gh gh' h
        rfl
       apply Jw 8 rfl
       iterate 3 focus (intros;(conv=>lhs;simp only [Jj,JA,JX,JC,JU,eq_self,reduceEqDiff,reduceIte,reduceSub,reduceAdd,JxA,JxB]);all_goals rfl)
       ·
        intro gh X K zq zc zq2 zc2 zb zv hK;refine Jg (Jc rfl) rfl (Jo ?_);exact hK zq zc zq2 zc2 zb zv
       ·
        intro gh gh' h
        rfl
       apply Jw 9 rfl
       iterate 3 focus (intros;(conv=>lhs;simp only [Jj,JA,JX,JC,JU,eq_self,reduceEqDiff,reduceIte,reduceSub,reduceAdd,JxA,JxB]);all_goals rfl)
       ·
        intro gh X K zq zc zq2 zc2 zb zv hK;refine Jg (EN u24 sz2 rfl rfl rfl (by omega) At.z) rfl (Jo ?_);exact hK zq zc zq2 zc2 zb zv
       ·
        intro gh gh' h
        rfl
       apply Jw 10 rfl
       iterate 3 focus (intros;(conv=>lhs;simp only [Jj,JA,JX,JC,JU,eq_self,reduceEqDiff,reduceIte,reduceSub,reduceAdd,JxA,JxB]);all_goals rfl)
       ·
        intro gh X K zq zc zq2 zc2 zb zv hK;refine Jg (EL rfl At.z (intsC_get (by first | omega | (simp;omega))) pl2) rfl (Jo ?_);exact hK zq zc zq2 zc2 zb zv
       ·
        intro gh gh' h
        rfl
       apply Jw 11 rfl
       iterate 3 focus (intros;(conv=>lhs;simp only [Jj,JA,JX,JC,JU,eq_self,reduceEqDiff,reduceIte,reduceSub,reduceAdd,JxA,JxB]);all_goals rfl)
       ·
        intro gh X K zq zc zq2 zc2 zb zv hK;refine Jg (Jy rfl rfl (nw _ (by omega))) rfl (Jo ?_);exact hK zq zc zq2 zc2 zb zv
       ·
        intro gh gh' h
        rfl
       apply Jw 12 rfl
       iterate 3 focus (intros;(conv=>lhs;simp only [Jj,JA,JX,JC,JU,eq_self,reduceEqDiff,reduceIte,reduceSub,reduceAdd,JxA,JxB]);all_goals rfl)
       ·
        intro gh X K zq zc zq2 zc2 zb zv hK;refine Jg (Jc rfl) rfl (Jo ?_);exact hK zq zc zq2 zc2 zb zv
       ·
        intro gh gh' h
        rfl
       apply Jw 13 rfl
       iterate 3 focus (intros;(conv=>lhs;simp only [Jj,JA,JX,JC,JU,eq_self,reduceEqDiff,reduceIte,reduceSub,reduceAdd,JxA,JxB]);all_goals rfl)
       ·
        intro gh X K zq zc zq2 zc2 zb zv hK;refine Jg (PR.eqv (v':=.int .i64 (max (degF ad (dfV code ad (1+nxV code (nxS code s8 4) (((ddV code s5 most).getD i 0)+1)) (nxS code (nxS code s8 4) (((ddV code s5 most).getD i 0)+1)) 1)) 0)) (by congr 1;omega) (PR.max2 rfl rfl)) rfl (Jo ?_);exact hK zq zc zq2 zc2 zb zv
       ·
        intro gh gh' h
        rfl
       apply Jw 14 rfl
       iterate 3 focus (intros;(conv=>lhs;simp only [Jj,JA,JX,JC,JU,eq_self,reduceEqDiff,reduceIte,reduceSub,reduceAdd,JxA,JxB]);all_goals rfl)
       ·
        intro gh X K zq zc zq2 zc2 zb zv hK;refine Jg (EZ rfl rfl (nw _ (by omega))) rfl (Jo ?_);exact hK zq zc zq2 zc2 zb zv
       ·
        intro gh gh' h
        rfl
       apply GJ.st2 15 rfl
       iterate 3 focus (intros;(conv=>lhs;simp only [Jj,JA,JX,JC,JU,eq_self,reduceEqDiff,reduceIte,reduceSub,reduceAdd,JxA,JxB]);all_goals rfl)
       ·
        intro gh X K zq zc zq2 zc2 zb zv hK;refine Jx fn65 rfl rfl fun w hH=>hH.lend (.s .z) fun Hl1 hle1 hA1 hB1 hH=>(l01DrawForm_c (hbt.le hle1) hbk (own_ints hA1) hDA.hd hDA.hn (by omega) (by omega) hcl (hH.front .z)).mono ?_;rintro _ w ⟨qo97,co97,rfl,hH⟩;replace hH:=hB1 _ _ hH;refine ⟨_,rfl,fun a hF=>JQ hF hH ?_⟩;refine Jh .z (Jh (.s (.s .z)) (Jh (.s (.s .z)) (Jo ?_)));exact hK qo97 co97 zq2 zc2 zb zv
       ·
        intro gh gh' h;refine ⟨?_,?_,?_⟩ <;> rfl
       apply Eq 16 rfl
       iterate 3 focus (intros;(conv=>lhs;simp only [Jj,JA,JX,JC,JU,eq_self,reduceEqDiff,reduceIte,reduceSub,reduceAdd,JxA,JxB]);all_goals rfl)
       ·
        intro gh X K zq zc zq2 zc2 zb zv hK;refine Jx fn69 rfl rfl fun w hH=>hH.lend (.s (.s .z)) fun Hl1 hle1 hA1 hB1 hH=>hH.lend (.s (.s .z)) fun Hl2 hle2 hA2 hB2 hH=>hH.lend .z fun Hl3 hle3 hA3 hB3 hH=>(l01Times_c (((own_ints hA1).le hle2).le hle3) ((own_terms hG1.wf hA2).le hle3) (own_terms hH1.wf hA3) hDA.hn hDA.hd0 hG1.kex hH1.kex hG1.sok.g hH1.sok.g (by omega) (Nat.le_trans (Nat.mul_le_mul hG1.len hH1.len) (by decide)) (by have:=hG1.len;omega) hH).mono ?_;rintro _ w ⟨qo98,co98,rfl,hH⟩;replace hH:=hB3 _ _ hH;replace hH:=hB2 _ _ hH;replace hH:=hB1 _ _ hH;refine ⟨_,rfl,fun a hF=>JQ hF hH ?_⟩;refine Jh (.s .z) (Jh (.s .z) (Jh (.s (.s (.s (.s .z)))) (Jh (.s (.s (.s .z))) (Jh (.s (.s (.s (.s .z)))) (Jo ?_)))));exact hK qo98 co98 zq2 zc2 zb zv
       ·
        intro gh gh' h;refine ⟨?_,?_⟩ <;> (first | simp only [h 14 rfl] | rfl)
       apply EB 17 rfl
       iterate 3 focus (intros;(conv=>lhs;simp only [Jj,JA,JX,JC,JU,eq_self,reduceEqDiff,reduceIte,reduceSub,reduceAdd,JxA,JxB]);all_goals rfl)
       ·
        intro gh X K hK;refine Jr rfl rfl (by first | exact bytesC_one _ | exact intsC_one _ | exact Term.c_one _ | simp [Value.oneCell']) (by simpa [*] using sz43) (by simp [*]) At.z (Jo ?_);exact hK
       ·
        intro gh gh' h
        first | simp only [h 14 rfl,h 15 rfl] | rfl
       apply Eu [0,1,2,3,4,5,6,7,8,9,10,11,12,13,14,15,16] [0,1,2,3,4,5,6,7,8,9,10,11,12,13,14,15,16,17,18,20,22,23,24,25,26] foll0 rfl rfl rfl (by rfl)
       iterate 2 focus (intros;(conv=>lhs;simp only [Jj,JA,JX,JC,JU,eq_self,reduceEqDiff,reduceIte,reduceSub,reduceAdd,JxA,JxB]);all_goals rfl)
       intro gh;generalize (gh 14).c=co97;generalize (gh 14).q=qo97;generalize (gh 15).c=co98;generalize (gh 15).q=qo98;clear gh;refine JD (Ja (JF .z (JF (.s (.s (.s (.s .z)))) (JF (.s (.s (.s (.s .z)))) (JF (.s (.s (.s (.s .z)))) (Jh (.s (.s (.s (.s (.s (.s (.s .z))))))) (Jh (.s (.s (.s (.s (.s (.s (.s .z))))))) (Jh (.s (.s (.s (.s (.s (.s (.s .z))))))) (Jh (.s (.s (.s (.s (.s (.s .z)))))) (Jh (.s (.s (.s (.s (.s (.s (.s .z))))))) (Jh (.s (.s (.s (.s (.s .z))))) (Jh (.s (.s (.s (.s (.s (.s .z)))))) (Jh (.s (.s (.s (.s (.s (.s (.s .z))))))) ?_)))))))))))));exact hMt2 (_,qo98,co98,_) ((gtimes hG1.sok.g hH1.sok.g).wf (by omega)) 46 rfl rfl trivial rfl rfl
      ·
       refine Jk (JD (Ja (Jh (.s (.s (.s (.s (.s (.s (.s .z))))))) (Jh (.s (.s (.s (.s (.s (.s (.s .z))))))) (Jh (.s (.s (.s (.s (.s (.s (.s .z))))))) (Jh (.s (.s (.s (.s (.s (.s (.s .z))))))) (Jh (.s (.s (.s (.s (.s (.s (.s .z))))))) (Jh (.s (.s (.s (.s (.s .z))))) (Jh (.s (.s (.s (.s (.s (.s (.s .z))))))) (Jh (.s (.s (.s (.s (.s (.s (.s .z))))))) ?_))))))))));exact hMt2 ([],none,0,(nxS code s8 4)) Wfs.nil 8 rfl rfl trivial rfl rfl
   ·
    rintro ⟨f9,q9,c9,s9⟩ hfw;refine ER (σ:=List Term × Option Addr × Nat) (fun ⟨f7,q7,c7⟩=>[]) (fun ⟨f7,q7,c7⟩=>H) (fun ⟨f7,q7,c7⟩=>obj g9 (.cells [.slice q7 f7.length c7].toArray 43 (0,0))::own 52 9 q7 f7.length c7 (tsC f7)::srcO qb cb code gs s9::obj g7 (.cells [.slice qd ad.length cd,.slice qf af.length cf].toArray 27 (0,0))::own 2 1 qd ad.length cd (intsC ad)::ownFs 43 52 qf cf vs af::own 2 1 qo28 (ddV code s5 most).length co28 (intsC (ddV code s5 most))::obj g4 (.cells [.slice none 0 0,.slice none 0 0].toArray 27 (0,0))::L) (fun ⟨f7,q7,c7⟩=>DrF ad 400 f7) ?_ ?_
    ·
     intro _ hMt3;refine Je fun _ hK20 _=>(CJ.ownLen (.s .z) fun hfl=>(Jb (Jg (Jt u27 rfl sz24 rfl) rfl (Jg (Jv rfl (.s (.s (.s .z))) rfl pl24) rfl (Jg (Jn rfl At.z (by simpa [*] using ag43)) rfl (Jx fn53 rfl rfl fun w hH=>hH.lend (.s (.s (.s (.s .z)))) fun Hl1 hle1 hA1 hB1 hH=>hH.lend (.s .z) fun Hl2 hle2 hA2 hB2 hH=>(l01Degree_c ((own_ints hA1).le hle2) (own_terms hfw hA2) hDA.hn hDA.hd0 hfl hH).mono ?_))))));rintro _ w ⟨rfl,hH⟩;replace hH:=hB2 _ _ hH;replace hH:=hB1 _ _ hH;refine ⟨_,rfl,fun a hF=>JQ hF hH ?_⟩;refine Jg (Jc rfl) rfl (Jg (JJ rfl rfl) rfl (Jg (JJ rfl rfl) rfl (Jg (Jd rfl) rfl (Jg (Jd rfl) rfl (Jf (Ja (hK20 (Je fun _ hK21 _=>(Jb (Jg (Jc rfl) rfl (Jg (Es rfl) rfl (Jg (Jc rfl) rfl (JZ (jd:=108) rfl (fun hg108=>?_) (fun hg108=>?_))))))))))))))
     ·
      try have hg108p:=of_decide_eq_true hg108
      refine JE rfl rfl rfl hg108 (JE rfl rfl rfl hg108 (JE rfl rfl rfl hg108 (JE rfl rfl rfl hg108 (JE rfl rfl rfl hg108 (EU rfl rfl rfl (EU rfl rfl rfl (EU rfl rfl rfl (EU rfl rfl rfl (EU rfl rfl rfl (EU rfl rfl rfl (EU rfl rfl rfl (JE rfl rfl rfl hg108 (Jg (JP rfl hg108 rfl) rfl (Jg (Jc rfl) rfl ?_))))))))))))));refine JE rfl rfl rfl rfl (JE rfl rfl rfl rfl (JE rfl rfl rfl rfl (JE rfl rfl rfl rfl (JE rfl rfl rfl rfl (Jg (JP rfl rfl rfl) rfl (Jg (Jc rfl) rfl (JE rfl rfl rfl rfl (JE rfl rfl rfl rfl (JE rfl rfl rfl rfl (JE rfl rfl rfl rfl (JE rfl rfl rfl rfl (JE rfl rfl rfl rfl (Jg (JP rfl rfl rfl) rfl (Jf ?_))))))))))))));refine Ja (hK21 (Ek rfl (Jb (ED 52 9 (Jg (Ea bz43) rfl (Jr rfl rfl (by first | exact bytesC_one _ | exact intsC_one _ | exact Term.c_one _ | simp [Value.oneCell']) (by simpa [*] using sz43) (by simp [*]) (.s (.s (.s .z))) (Jf (Ja (JF (.s (.s .z)) (Jh (.s (.s (.s (.s (.s (.s (.s .z))))))) (Jh (.s (.s (.s (.s (.s (.s (.s .z))))))) (Jh (.s (.s (.s (.s (.s (.s (.s .z))))))) (Jh (.s (.s (.s (.s .z)))) (Jh (.s (.s (.s (.s (.s (.s (.s .z))))))) (Jh (.s (.s (.s (.s (.s (.s (.s .z))))))) ?_)))))))))))))));refine Jh (.s (.s (.s (.s (.s (.s .z)))))) (Jh (.s (.s (.s (.s (.s (.s (.s .z))))))) ?_);exact hMt3 ([],none,0) ((DrF.nil ad).mono (by omega)) 42 rfl rfl trivial rfl rfl
     ·
      try have hg108p:=of_decide_eq_false hg108
      refine JK (Jt u43 rfl sz41 rfl) rfl rfl rfl hg108 (JK (Jv rfl (.s (.s .z)) rfl pl41) rfl rfl rfl hg108 (JK (Jq u41 rfl rfl) rfl rfl rfl hg108 (JK (Em rfl rfl) rfl rfl rfl hg108 (JK (Jc rfl) rfl rfl rfl hg108 (JZ (jd:=113) rfl (fun hg113=>?_) (fun hg113=>?_))))))
      ·
       try have hg113p:=of_decide_eq_true hg113
       refine JK (Jc rfl) rfl rfl rfl hg113 (JK (Jc rfl) rfl rfl rfl hg113 (JK (Jc rfl) rfl rfl rfl hg113 (JK (EN u24 sz2 rfl rfl rfl (by omega) (.s (.s (.s (.s (.s (.s .z))))))) rfl rfl rfl hg113 (JK (EL rfl (.s (.s (.s (.s (.s (.s .z)))))) (intsC_get (by first | omega | (simp;omega))) pl2) rfl rfl rfl hg113 (JK (Jy rfl rfl (nw _ (by omega))) rfl rfl rfl hg113 (JK (En rfl rfl) rfl rfl rfl hg113 (JK (JP rfl hg113 rfl) rfl rfl rfl hg108 (Jg (JN rfl hg108 rfl) rfl (Jg (Jc rfl) rfl (JZ (jd:=123) rfl (fun hg123=>?_) (fun hg123=>?_)))))))))))
       ·
        try have hg123p:=of_decide_eq_true hg123
        refine JE rfl rfl rfl hg123 (JE rfl rfl rfl hg123 (JE rfl rfl rfl hg123 (JE rfl rfl rfl hg123 (JE rfl rfl rfl hg123 (Jg (JP rfl hg123 rfl) rfl (Jg (Jc rfl) rfl (JE rfl rfl rfl rfl (JE rfl rfl rfl rfl (JE rfl rfl rfl rfl (JE rfl rfl rfl rfl (JE rfl rfl rfl rfl (JE rfl rfl rfl rfl (Jg (JP rfl rfl rfl) rfl (Jf ?_))))))))))))));refine Ja (hK21 (Ek rfl (Jb (ED 52 9 (Jg (Ea bz43) rfl (Jr rfl rfl (by first | exact bytesC_one _ | exact intsC_one _ | exact Term.c_one _ | simp [Value.oneCell']) (by simpa [*] using sz43) (by simp [*]) (.s (.s (.s .z))) (Jf (Ja (JF (.s (.s .z)) (Jh (.s (.s (.s (.s (.s (.s (.s .z))))))) (Jh (.s (.s (.s (.s (.s (.s (.s .z))))))) (Jh (.s (.s (.s (.s (.s (.s (.s .z))))))) (Jh (.s (.s (.s (.s .z)))) (Jh (.s (.s (.s (.s (.s (.s (.s .z))))))) (Jh (.s (.s (.s (.s (.s (.s (.s .z))))))) ?_)))))))))))))));refine Jh (.s (.s (.s (.s (.s (.s .z)))))) (Jh (.s (.s (.s (.s (.s (.s (.s .z))))))) ?_);exact hMt3 ([],none,0) ((DrF.nil ad).mono (by omega)) 42 rfl rfl trivial rfl rfl
       ·
        try have hg123p:=of_decide_eq_false hg123
        refine JK (Jt u27 rfl sz24 rfl) rfl rfl rfl hg123 (JK (Jv rfl (.s (.s (.s (.s .z)))) rfl pl24) rfl rfl rfl hg123 (JK (Jn rfl (.s (.s .z)) (by simpa [*] using ag43)) rfl rfl rfl hg123 (Ez fn52 rfl rfl hg123 rfl rfl fun w hH=>hH.lend .z fun Hl1 hle1 hA1 hB1 hH=>hH.lend .z fun Hl2 hle2 hA2 hB2 hH=>(l01Is_c ((own_ints hA1).le hle2) (own_terms hfw hA2) (by have:=hDA.hn;omega) (fun j _=>(hDA.hd0 j).1) hfl hH).mono ?_)));rintro _ w ⟨rfl,hH⟩;replace hH:=hB2 _ _ hH;replace hH:=hB1 _ _ hH;refine ⟨_,rfl,fun a hF=>JQ hF hH ?_⟩;refine JK (Es rfl) rfl rfl rfl hg123 (Jg (JN rfl hg123 rfl) rfl (Jg (Jc rfl) rfl (JZ (jd:=130) rfl (fun h130=>?_) (fun h130=>?_))))
        ·
         try have h130p:=of_decide_eq_true h130
         refine JE rfl rfl rfl h130 (JE rfl rfl rfl h130 (JE rfl rfl rfl h130 (JE rfl rfl rfl h130 (JE rfl rfl rfl h130 (JE rfl rfl rfl h130 (Jg (JP rfl h130 rfl) rfl (Jf (Ja (hK21 (Ek rfl (Jb (ED 52 9 (Jg (Ea bz43) rfl (Jr rfl rfl (by first | exact bytesC_one _ | exact intsC_one _ | exact Term.c_one _ | simp [Value.oneCell']) (by simpa [*] using sz43) (by simp [*]) (.s (.s (.s .z))) (Jf ?_)))))))))))))));refine Ja (JF (.s (.s .z)) (Jh (.s (.s (.s (.s (.s (.s (.s .z))))))) (Jh (.s (.s (.s (.s (.s (.s (.s .z))))))) (Jh (.s (.s (.s (.s (.s (.s (.s .z))))))) (Jh (.s (.s (.s (.s .z)))) (Jh (.s (.s (.s (.s (.s (.s (.s .z))))))) (Jh (.s (.s (.s (.s (.s (.s (.s .z))))))) (Jh (.s (.s (.s (.s (.s (.s .z)))))) (Jh (.s (.s (.s (.s (.s (.s (.s .z))))))) ?_)))))))));exact hMt3 ([],none,0) ((DrF.nil ad).mono (by omega)) 42 rfl rfl trivial rfl rfl
        ·
         try have h130p:=of_decide_eq_false h130
         have hfo:isForm ad f9=true:=by simpa using h130
         have hFs:=isForm_sok hfw hfo;have hFk:=isForm_kex hDA.hd0 hDA.hn hfw hfo;have hF4:=isForm_len4 hfo;have hDFk:DrF ad 400 f9:=⟨hFs,hFk,hfw,hF4⟩;refine JK (Jn rfl (.s (.s (.s (.s .z)))) (by simpa [*] using ag27)) rfl rfl rfl h130 (JK (Jn rfl (.s (.s .z)) (by simpa [*] using ag43)) rfl rfl rfl h130 (Ez fn54 rfl rfl h130 rfl rfl fun w hH=>hH.lend .z fun Hl1 hle1 hA1 hB1 hH=>hH.lend (.s (.s (.s (.s .z)))) fun Hl2 hle2 hA2 hB2 hH=>hH.lend .z fun Hl3 hle3 hA3 hB3 hH=>(l02D_c (((own_ints hA1).le hle2).le hle3) ((own_forms hDA.wf hA2).le hle3) (own_terms hfw hA3) hDA.hn hDA.hd0 hDA.sok hDA.hl hDA.kex hFs hFk (by omega) (fun i hi=>by have:=hDA.len i hi;omega) (by omega) hH).mono ?_));rintro _ w ⟨qo133,co133,rfl,hH⟩;replace hH:=hB3 _ _ hH;replace hH:=hB2 _ _ hH;replace hH:=hB1 _ _ hH;refine ⟨_,rfl,fun a hF=>JQ hF hH ?_⟩;refine JK (PR.fieldV u43 rfl pl41 rfl rfl) rfl rfl rfl h130 (JK (Jq u41 rfl rfl) rfl rfl rfl h130 (JK (Em rfl rfl) rfl rfl rfl h130 (Jg (JN rfl h130 rfl) rfl (Jf (Ja (hK21 (Jm rfl (fun hc137=>?_) (fun hc137=>?_))))))))
         ·
          refine Jb (ED 52 9 (Jg (Ea bz43) rfl (Jr rfl rfl (by first | exact bytesC_one _ | exact intsC_one _ | exact Term.c_one _ | simp [Value.oneCell']) (by simpa [*] using sz43) (by simp [*]) (.s (.s (.s (.s (.s .z))))) (Jf (Ja (JF (.s (.s (.s .z))) (JF (.s (.s (.s .z))) (Jh (.s (.s (.s (.s (.s (.s (.s .z))))))) (Jh (.s (.s (.s (.s (.s (.s (.s .z))))))) (Jh (.s (.s (.s (.s .z)))) (Jh (.s (.s (.s (.s .z)))) (Jh (.s (.s (.s (.s (.s (.s (.s .z))))))) (Jh (.s (.s (.s (.s (.s (.s (.s .z))))))) (Jh (.s (.s (.s (.s (.s (.s .z)))))) ?_))))))))))))));refine Jh (.s (.s (.s (.s (.s (.s (.s .z))))))) ?_;exact hMt3 ([],none,0) ((DrF.nil ad).mono (by omega)) 42 rfl rfl trivial rfl rfl
         ·
          refine Jk (Ja (JF (.s (.s (.s .z))) (Jh (.s (.s (.s (.s (.s (.s (.s .z))))))) (Jh (.s (.s (.s (.s (.s (.s (.s .z))))))) (Jh (.s (.s (.s .z))) (Jh (.s (.s (.s .z))) (Jh (.s (.s (.s (.s (.s (.s (.s .z))))))) (Jh (.s (.s (.s (.s (.s (.s (.s .z))))))) (Jh (.s (.s (.s (.s (.s (.s .z)))))) (Jh (.s (.s (.s (.s (.s (.s (.s .z))))))) ?_))))))))));exact hMt3 (f9,q9,c9) hDFk 41 rfl rfl trivial rfl rfl
      ·
       try have hg113p:=of_decide_eq_false hg113
       refine JE rfl rfl rfl hg113 (JE rfl rfl rfl hg113 (JE rfl rfl rfl hg113 (JE rfl rfl rfl hg113 (JE rfl rfl rfl hg113 (JE rfl rfl rfl hg113 (JE rfl rfl rfl hg113 (JK (JN rfl hg113 rfl) rfl rfl rfl hg108 (Jg (JN rfl hg108 rfl) rfl (Jg (Jc rfl) rfl (JK (Jt u27 rfl sz24 rfl) rfl rfl rfl rfl (JK (Jv rfl (.s (.s (.s (.s .z)))) rfl pl24) rfl rfl rfl rfl (JK (Jn rfl (.s (.s .z)) (by simpa [*] using ag43)) rfl rfl rfl rfl (Ez fn52 rfl rfl rfl rfl rfl fun w hH=>hH.lend .z fun Hl1 hle1 hA1 hB1 hH=>hH.lend .z fun Hl2 hle2 hA2 hB2 hH=>(l01Is_c ((own_ints hA1).le hle2) (own_terms hfw hA2) (by have:=hDA.hn;omega) (fun j _=>(hDA.hd0 j).1) hfl hH).mono ?_)))))))))))));rintro _ w ⟨rfl,hH⟩;replace hH:=hB2 _ _ hH;replace hH:=hB1 _ _ hH;refine ⟨_,rfl,fun a hF=>JQ hF hH ?_⟩;refine JK (Es rfl) rfl rfl rfl rfl (Jg (JN rfl rfl rfl) rfl (Jg (Jc rfl) rfl (JZ (jd:=130) rfl (fun h130=>?_) (fun h130=>?_))))
       ·
        try have h130p:=of_decide_eq_true h130
        refine JE rfl rfl rfl h130 (JE rfl rfl rfl h130 (JE rfl rfl rfl h130 (JE rfl rfl rfl h130 (JE rfl rfl rfl h130 (JE rfl rfl rfl h130 (Jg (JP rfl h130 rfl) rfl (Jf (Ja (hK21 (Ek rfl (Jb (ED 52 9 (Jg (Ea bz43) rfl (Jr rfl rfl (by first | exact bytesC_one _ | exact intsC_one _ | exact Term.c_one _ | simp [Value.oneCell']) (by simpa [*] using sz43) (by simp [*]) (.s (.s (.s .z))) (Jf ?_)))))))))))))));refine Ja (JF (.s (.s .z)) (Jh (.s (.s (.s (.s (.s (.s (.s .z))))))) (Jh (.s (.s (.s (.s (.s (.s (.s .z))))))) (Jh (.s (.s (.s (.s (.s (.s (.s .z))))))) (Jh (.s (.s (.s (.s .z)))) (Jh (.s (.s (.s (.s (.s (.s (.s .z))))))) (Jh (.s (.s (.s (.s (.s (.s (.s .z))))))) (Jh (.s (.s (.s (.s (.s (.s .z)))))) (Jh (.s (.s (.s (.s (.s (.s (.s .z))))))) ?_)))))))));exact hMt3 ([],none,0) ((DrF.nil ad).mono (by omega)) 42 rfl rfl trivial rfl rfl
       ·
        try have h130p:=of_decide_eq_false h130
        have hfo:isForm ad f9=true:=by simpa using h130
        have hFs:=isForm_sok hfw hfo;have hFk:=isForm_kex hDA.hd0 hDA.hn hfw hfo;have hF4:=isForm_len4 hfo;have hDFk:DrF ad 400 f9:=⟨hFs,hFk,hfw,hF4⟩;refine JK (Jn rfl (.s (.s (.s (.s .z)))) (by simpa [*] using ag27)) rfl rfl rfl h130 (JK (Jn rfl (.s (.s .z)) (by simpa [*] using ag43)) rfl rfl rfl h130 (Ez fn54 rfl rfl h130 rfl rfl fun w hH=>hH.lend .z fun Hl1 hle1 hA1 hB1 hH=>hH.lend (.s (.s (.s (.s .z)))) fun Hl2 hle2 hA2 hB2 hH=>hH.lend .z fun Hl3 hle3 hA3 hB3 hH=>(l02D_c (((own_ints hA1).le hle2).le hle3) ((own_forms hDA.wf hA2).le hle3) (own_terms hfw hA3) hDA.hn hDA.hd0 hDA.sok hDA.hl hDA.kex hFs hFk (by omega) (fun i hi=>by have:=hDA.len i hi;omega) (by omega) hH).mono ?_));rintro _ w ⟨qo133,co133,rfl,hH⟩;replace hH:=hB3 _ _ hH;replace hH:=hB2 _ _ hH;replace hH:=hB1 _ _ hH;refine ⟨_,rfl,fun a hF=>JQ hF hH ?_⟩;refine JK (PR.fieldV u43 rfl pl41 rfl rfl) rfl rfl rfl h130 (JK (Jq u41 rfl rfl) rfl rfl rfl h130 (JK (Em rfl rfl) rfl rfl rfl h130 (Jg (JN rfl h130 rfl) rfl (Jf (Ja (hK21 (Jm rfl (fun hc137=>?_) (fun hc137=>?_))))))))
        ·
         refine Jb (ED 52 9 (Jg (Ea bz43) rfl (Jr rfl rfl (by first | exact bytesC_one _ | exact intsC_one _ | exact Term.c_one _ | simp [Value.oneCell']) (by simpa [*] using sz43) (by simp [*]) (.s (.s (.s (.s (.s .z))))) (Jf (Ja (JF (.s (.s (.s .z))) (JF (.s (.s (.s .z))) (Jh (.s (.s (.s (.s (.s (.s (.s .z))))))) (Jh (.s (.s (.s (.s (.s (.s (.s .z))))))) (Jh (.s (.s (.s (.s .z)))) (Jh (.s (.s (.s (.s .z)))) (Jh (.s (.s (.s (.s (.s (.s (.s .z))))))) (Jh (.s (.s (.s (.s (.s (.s (.s .z))))))) (Jh (.s (.s (.s (.s (.s (.s .z)))))) ?_))))))))))))));refine Jh (.s (.s (.s (.s (.s (.s (.s .z))))))) ?_;exact hMt3 ([],none,0) ((DrF.nil ad).mono (by omega)) 42 rfl rfl trivial rfl rfl
        ·
         refine Jk (Ja (JF (.s (.s (.s .z))) (Jh (.s (.s (.s (.s (.s (.s (.s .z))))))) (Jh (.s (.s (.s (.s (.s (.s (.s .z))))))) (Jh (.s (.s (.s .z))) (Jh (.s (.s (.s .z))) (Jh (.s (.s (.s (.s (.s (.s (.s .z))))))) (Jh (.s (.s (.s (.s (.s (.s (.s .z))))))) (Jh (.s (.s (.s (.s (.s (.s .z)))))) (Jh (.s (.s (.s (.s (.s (.s (.s .z))))))) ?_))))))))));exact hMt3 (f9,q9,c9) hDFk 41 rfl rfl trivial rfl rfl
    ·
     rintro ⟨f7,q7,c7⟩ hDF;refine Ev (Rs:=[_,_,_,_,_,_,_,_]) 8 [[], [], [], [1,2], [1,2,3], [], [0,1,2,3,4,5], [0,1,2,3,4,5,6]] [[11], [], [], [14], [14], [8], [9,12,13], []] [[], [], [], [], [], [], [], [11]] rfl rfl (by kernel_rfl) ?_;apply Jw 1 rfl
     iterate 3 focus (intros;(conv=>lhs;simp only [Jj,JA,JX,JC,JU,eq_self,reduceEqDiff,reduceIte,reduceSub,reduceAdd,JxA,JxB]);all_goals rfl)
     ·
      intro gh X K zq zc zq2 zc2 zb zv hK;refine Jg (Jn rfl At.z (by simpa [*] using ag27)) rfl (Jo ?_);exact hK zq zc zq2 zc2 zb zv
     ·
      intro gh gh' h
      rfl
     apply Jw 2 rfl
     iterate 3 focus (intros;(conv=>lhs;simp only [Jj,JA,JX,JC,JU,eq_self,reduceEqDiff,reduceIte,reduceSub,reduceAdd,JxA,JxB]);all_goals rfl)
     ·
      intro gh X K zq zc zq2 zc2 zb zv hK;refine Jg (Jc rfl) rfl (Jo ?_);exact hK zq zc zq2 zc2 zb zv
     ·
      intro gh gh' h
      rfl
     apply Jw 3 rfl
     iterate 3 focus (intros;(conv=>lhs;simp only [Jj,JA,JX,JC,JU,eq_self,reduceEqDiff,reduceIte,reduceSub,reduceAdd,JxA,JxB]);all_goals rfl)
     ·
      intro gh X K zq zc zq2 zc2 zb zv hK;refine Jg (Jc rfl) rfl (Jo ?_);exact hK zq zc zq2 zc2 zb zv
     ·
      intro gh gh' h
      rfl
     apply Jw 4 rfl
     iterate 3 focus (intros;(conv=>lhs;simp only [Jj,JA,JX,JC,JU,eq_self,reduceEqDiff,reduceIte,reduceSub,reduceAdd,JxA,JxB]);all_goals rfl)
     ·
      intro gh X K zq zc zq2 zc2 zb zv hK;refine Jg (EN u24 sz2 rfl rfl rfl (by omega) At.z) rfl (Jo ?_);exact hK zq zc zq2 zc2 zb zv
     ·
      intro gh gh' h
      rfl
     apply Jw 5 rfl
     iterate 3 focus (intros;(conv=>lhs;simp only [Jj,JA,JX,JC,JU,eq_self,reduceEqDiff,reduceIte,reduceSub,reduceAdd,JxA,JxB]);all_goals rfl)
     ·
      intro gh X K zq zc zq2 zc2 zb zv hK;refine Jg (EL rfl At.z (intsC_get (by first | omega | (simp;omega))) pl2) rfl (Jo ?_);exact hK zq zc zq2 zc2 zb zv
     ·
      intro gh gh' h
      rfl
     apply Jw 6 rfl
     iterate 3 focus (intros;(conv=>lhs;simp only [Jj,JA,JX,JC,JU,eq_self,reduceEqDiff,reduceIte,reduceSub,reduceAdd,JxA,JxB]);all_goals rfl)
     ·
      intro gh X K zq zc zq2 zc2 zb zv hK;refine Jg (Jn rfl At.z (by simpa [*] using ag43)) rfl (Jo ?_);exact hK zq zc zq2 zc2 zb zv
     ·
      intro gh gh' h
      rfl
     apply GJ.st2 7 rfl
     iterate 3 focus (intros;(conv=>lhs;simp only [Jj,JA,JX,JC,JU,eq_self,reduceEqDiff,reduceIte,reduceSub,reduceAdd,JxA,JxB]);all_goals rfl)
     ·
      intro gh X K zq zc zq2 zc2 zb zv hK;refine Jx fn70 rfl rfl fun w hH=>hH.lend (.s .z) fun Hl1 hle1 hA1 hB1 hH=>hH.lend (.s .z) fun Hl2 hle2 hA2 hB2 hH=>hH.lend .z fun Hl3 hle3 hA3 hB3 hH=>(l02With_c (((own_ints hA1).le hle2).le hle3) ((own_forms hDA.wf hA2).le hle3) (own_terms hDF.wf hA3) (by have:=hDA.hn;have:=hDA.hl;omega) (fun i hi=>by have:=hDA.len i hi;omega) (by have:=hDF.len;omega) hH).mono ?_;rintro _ w ⟨qdo145,cdo145,qfo145,cfo145,vso145,rfl,hH⟩;replace hH:=hB3 _ _ hH;replace hH:=hB2 _ _ hH;replace hH:=hB1 _ _ hH;refine ⟨_,rfl,fun a hF=>JQ hF hH ?_⟩;refine Jh (.s .z) (Jh (.s .z) (Jh (.s (.s .z)) (Jh (.s (.s (.s (.s .z)))) (Jh (.s (.s (.s (.s .z)))) (Jo ?_)))));exact hK qdo145 cdo145 qfo145 cfo145 zb vso145
     ·
      intro gh gh' h;refine ⟨?_,?_,?_⟩ <;> rfl
     apply EB 8 rfl
     iterate 3 focus (intros;(conv=>lhs;simp only [Jj,JA,JX,JC,JU,eq_self,reduceEqDiff,reduceIte,reduceSub,reduceAdd,JxA,JxB]);all_goals rfl)
     ·
      intro gh X K hK;refine Jr rfl rfl (by first | exact bytesC_one _ | exact intsC_one _ | exact Term.c_one _ | simp [Value.oneCell']) (by simpa [*] using sz27) (by simp [*]) At.z (Jo ?_);exact hK
     ·
      intro gh gh' h
      first | simp only [h 6 rfl] | rfl
     apply Eu [0,1,2,3,4,5,6,7] [0,1,2,3,4,5,6,7,8,9,10,12,13,14,15] foll0 rfl rfl rfl (by rfl)
     iterate 2 focus (intros;(conv=>lhs;simp only [Jj,JA,JX,JC,JU,eq_self,reduceEqDiff,reduceIte,reduceSub,reduceAdd,JxA,JxB]);all_goals rfl)
     intro gh;generalize (gh 6).c=cdo145;generalize (gh 6).c2=cfo145;generalize (gh 6).q=qdo145;generalize (gh 6).q2=qfo145;generalize (gh 6).vs=vso145;clear gh;refine JD (Ja (hK12 (Jb (Jg (Jc rfl) rfl (Jg (Jy rfl rfl (by first | exact nw _ (by omega) | rfl)) rfl (Jg (Jd rfl) rfl (Jf (Ja (JF (.s (.s (.s (.s (.s (.s .z)))))) (JF (.s (.s (.s (.s (.s (.s .z)))))) (JF (.s (.s (.s .z))) (JF (.s (.s (.s .z))) (Jh (.s (.s (.s (.s (.s .z))))) (Jh (.s (.s (.s (.s .z)))) (Jh (.s (.s (.s (.s (.s .z))))) ?_)))))))))))))));refine Jh (.s (.s (.s (.s .z)))) (Jh (.s (.s (.s (.s .z)))) (Jh (.s (.s (.s (.s (.s .z))))) ?_));exact hAg0 (qdo145,cdo145,ad++[((ddV code s5 most).getD i 0)],qfo145,cfo145,vso145,af++[f7],s9,i+1) ⟨by omega,by simp;omega,hDA.snoc (by omega) hdi (show DrF ad 400 f7 from hDF)⟩ (by show (ddV code s5 most).length - (i+1)<(ddV code s5 most).length - i;omega) 17 rfl rfl ⟨rfl,trivial⟩ rfl rfl
  ·
   refine JI (Jl (Jl (JT (Ja (hK8 (Je fun _ hK22 _=>(Jb (Jg (Jn rfl At.z (by simpa [*] using ag27)) rfl (Jr rfl rfl (by first | exact bytesC_one _ | exact intsC_one _ | exact Term.c_one _ | simp [Value.oneCell']) (by simpa [*] using sz27) (by simp [*]) (.s (.s (.s (.s (.s .z))))) (Jf (Ja (hK22 (Js (Ju rfl (Res.agg rfl (.s (.s (.s (.s (.s .z))))) (by simpa [*] using ag27)) fun w hH=>?_))))))))))))));replace hH:=hH.sublist (.cons _ (.cons_cons _ (.cons_cons _ (.cons _ (.cons_cons _ (.cons _ (List.Sublist.refl _)))))));exact ⟨_,_,_,_,_,_,_,_,hDA,(by omega),rfl,hH⟩
theorem fn40:Fn Tryz.prog 40:=⟨_,Tryz.func40,by kernel_rfl,rfl⟩
theorem fn42:Fn Tryz.prog 42:=⟨_,Tryz.func42,by kernel_rfl,rfl⟩
theorem fn43:Fn Tryz.prog 43:=⟨_,Tryz.func43,by kernel_rfl,rfl⟩
section
variable {B : World} {H0 H : HP} {w : World}
theorem Hp.tsSet {T:TypeId} {f:List Term} {q:Option Addr} {c:Nat} : ∀{i:Nat} {fs:List (List Term)} {vs:Vs} {L:List SA},i<fs.length→Hp B H0 H (own T 9 q f.length c (tsC f)::ownTs T vs fs::L) w→Hp B H0 H (ownTs T (setV vs i (q,c)) (fs.set i f)::L) w
 | _, [],_,_,hi,_=>by simp at hi
 | 0,g::gs,vs,L,_,h=>by
  have h1:Hp B H0 H (G.star (own T 9 (vs 0).1 g.length (vs 0).2 (tsC g)) (ownTs T vs.tl gs)::own T 9 q f.length c (tsC f)::L) w:=h.front (.s .z)
  have h2:=h1.unstar.tail
  have h3:=(h2.front (.s .z)).star
  have e:ownTs T (Vs.tl (setV vs 0 (q,c))) gs=ownTs T vs.tl gs:=ownTs_cong fun j _=>by unfold Vs.tl setV;rw [if_neg (by omega)]
  show Hp B H0 H (G.star (own T 9 q f.length c (tsC f)) (ownTs T (Vs.tl (setV vs 0 (q,c))) gs)::L) w
  rw [e]
  exact h3
 | i+1,g::gs,vs,L,hi,h=>by
  have h1:Hp B H0 H (G.star (own T 9 (vs 0).1 g.length (vs 0).2 (tsC g)) (ownTs T vs.tl gs)::own T 9 q f.length c (tsC f)::L) w:=h.front (.s .z)
  have h2:=h1.unstar
  have h3:Hp B H0 H (own T 9 q f.length c (tsC f)::ownTs T vs.tl gs::own T 9 (vs 0).1 g.length (vs 0).2 (tsC g)::L) w:=(h2.front (.s .z)).front (.s (.s .z))
  have h4:=Hp.tsSet (i:=i) (vs:=vs.tl) (by simpa using hi) h3
  have h5:=(h4.front (.s .z)).star
  have e0:setV vs (i+1) (q,c) 0=vs 0:=by unfold setV;rw [if_neg (by omega)]
  have e1:Vs.tl (setV vs (i+1) (q,c))=setV vs.tl i (q,c):=by
   funext j
   unfold Vs.tl setV
   by_cases hj:j=i
   ·rw [if_pos hj,if_pos (by omega)]
   ·rw [if_neg hj,if_neg (by omega)]
  show Hp B H0 H (G.star (own T 9 (setV vs (i+1) (q,c) 0).1 g.length (setV vs (i+1) (q,c) 0).2 (tsC g)) (ownTs T (Vs.tl (setV vs (i+1) (q,c))) (gs.set i f))::L) w
  rw [e0,e1]
  exact h5
theorem slicesC_setAt {f:List Term} {q:Option Addr} {c:Nat} : ∀{i:Nat} {fs:List (List Term)} {vs:Vs},i<fs.length→(slicesC vs fs).set i (.slice q f.length c)=slicesC (setV vs i (q,c)) (fs.set i f)
 | _, [],_,hi=>by simp at hi
 | 0,g::gs,vs,_=>by
  have e:slicesC (Vs.tl (setV vs 0 (q,c))) gs=slicesC vs.tl gs:=slicesC_cong fun j _=>by unfold Vs.tl setV;rw [if_neg (by omega)]
  show Value.slice q f.length c::slicesC vs.tl gs=Value.slice q f.length c::slicesC (Vs.tl (setV vs 0 (q,c))) gs
  rw [e]
 | i+1,g::gs,vs,hi=>by
  have ih:=slicesC_setAt (f:=f) (q:=q) (c:=c) (i:=i) (fs:=gs) (vs:=vs.tl) (by simpa using hi)
  have e0:setV vs (i+1) (q,c) 0=vs 0:=by unfold setV;rw [if_neg (by omega)]
  have e1:Vs.tl (setV vs (i+1) (q,c))=setV vs.tl i (q,c):=by
   funext j
   unfold Vs.tl setV
   by_cases hj:j=i
   ·rw [if_pos hj,if_pos (by omega)]
   ·rw [if_neg hj,if_neg (by omega)]
  show Value.slice (vs 0).1 g.length (vs 0).2::(slicesC vs.tl gs).set i (.slice q f.length c)=Value.slice (setV vs (i+1) (q,c) 0).1 g.length (setV vs (i+1) (q,c) 0).2::slicesC (Vs.tl (setV vs (i+1) (q,c))) (gs.set i f)
  rw [ih,e0,e1]
theorem Hp.fsSet {E T:TypeId} {q q0:Option Addr} {c c0 i m:Nat} {vs:Vs} {fs:List (List Term)} {f:List Term} {L:List SA} (hi:i<fs.length) (hm:fs.length=m) (h:Hp B H0 H (own T 9 q f.length c (tsC f)::ownTs T vs fs::own E 1 q0 m c0 ((slicesC vs fs).set i (.slice q f.length c))::L) w):Hp B H0 H (ownFs E T q0 c0 (setV vs i (q,c)) (fs.set i f)::L) w:=by
 subst hm;rw [slicesC_setAt hi] at h;have h1:=Hp.tsSet hi h;unfold ownFs;rw [List.length_set];exact (h1.front (.s .z)).star
end
structure DrB (ds:List Int) (fs:List (List Term)):Prop where
 hn:ds.length≤100
 hl:fs.length≤100
 len : ∀i,i<fs.length→(fm fs i).length≤400
 wf:Wfss fs
theorem DrA.b {ds:List Int} {fs:List (List Term)} (h:DrA ds fs):DrB ds fs:=⟨by have:=h.hn;omega,by have:=h.hn;have:=h.hl;omega,h.len,h.wf⟩
theorem DrB.of {ds:List Int} {fs:List (List Term)} (hn:ds.length≤100) (hl:fs.length≤100) (h : ∀f∈fs,f.length≤400∧Wfs f):DrB ds fs:=⟨hn,hl,fun i hi=>by
 rw [show fm fs i=fs[i] from by unfold fm;rw [List.getD_eq_getElem?_getD,List.getElem?_eq_getElem hi];rfl]
 exact (h _ (List.getElem_mem hi)).1,fun f hf=>(h f hf).2⟩
theorem DrB.all {ds:List Int} {fs:List (List Term)} (h:DrB ds fs) : ∀f∈fs,f.length≤400∧Wfs f:=fun f hf=>by
 obtain ⟨i,hi,rfl⟩:=List.getElem_of_mem hf
 have:=h.len i hi
 rw [show fm fs i=fs[i] from by unfold fm;rw [List.getD_eq_getElem?_getD,List.getElem?_eq_getElem hi];rfl] at this
 exact ⟨this,h.wf _ (List.getElem_mem hi)⟩
section
variable {P : Program} {ops : Array Oper} {Q : Exit → Act → World → Prop} {n : Nat} {B : World} {H0 H : HP} {rest : List Oper} {us : List (Nat × Value)} {L L' : List SA} {t : TypeId} {p : String} {af : Array Edge} {x y : Operand}
theorem J.storeWA {ty e:TypeId} {q:Option Addr} {m c k:Nat} {cells:List Value} {v u:Value} (hx:opv us x=some (ptr q k)) (hy:opv us y=some v) (hv:v.cells = #[u]) (h1:u.oneCell'=true) (hs:Size P ty 1) (hl:k<m) (hat:At L (own e 1 q m c cells) (own e 1 q m c (cells.set k u)) L') (hk:J P ops Q n B H0 rest us H L'):J P ops Q n B H0 (⟨none,.store ty x y,t,p,af,none⟩::rest) us H L:=by
 refine J.unit fun a w hF hH=>?_;have hA:=(hH.objs _ hat.mem).1;obtain ⟨hc,h2⟩:=hA
 rcases h2 with ⟨_,h2,_⟩ | ⟨g,cur,rfl,hg,h3,h4,h5,h6⟩
 ·omega
 ·have hg':w.heap[g]? = some (.cells cur e (0,0)):=hg
  have hlk:k<cur.toList.length:=by simp;omega
  have hst:=run_storeCells_at P g k e [u] 0 cur w hg' (by simp;omega) (by simpa using h1);have hch:Chg (own e 1 (some (⟨g,0,none⟩:Addr)) m c cells).fp w (w.setRow g (cur.toList.set k u).toArray):=(chg_setRow (cs:=(cur.toList.set k u).toArray) hg').more fun b (hb:b=g)=>⟨⟨g,0,none⟩,rfl,hb.symm⟩;refine ⟨_,?_,hk a _ hF (hH.upd hat hch ?_ fun b hb=>?_)⟩
  ·simp only [Nat.add_zero] at hst
   have e1:ptr (some (⟨g,0,none⟩:Addr)) k = .pointer (some ⟨g,k,none⟩):=by simp [ptr,add_at]
   have e2:cur.toList.take k++[u]++cur.toList.drop (k+1)=cur.toList.set k u:=set_eq_take_drop _ _ _ hlk;have e3:cur.toList.take k++[u]++cur.toList.drop (k+[u].length)=cur.toList.set k u:=e2;rw [e3] at hst;rw [e1] at hx
   simp [execOp,Instr.storeAt,Instr.sureAddr,storeVar,hF.ev hx,hF.ev hy,hv,hs.run,hst]
  ·refine ⟨by simpa using hc,.inr ⟨g,_,rfl,setRow_heap w g cur _ e (0,0) hg',h3,h4,by simpa using h5,?_⟩⟩;simp only [List.toList_toArray];rw [List.take_set,h6]
  ·obtain ⟨q,hq,rfl⟩:=hb;have:=hp_lt hg;obtain rfl:q=⟨g,0,none⟩:=(Option.some.inj hq).symm;refine ⟨.inl ⟨_,rfl,rfl⟩,?_⟩
   simpa using this
end
section
variable {P : Program} {Q : Exit → Act → World → Prop} {n : Nat} {B : World} {H0 H : HP} {us : List (Nat × Value)} {L L1 : List SA}
theorem CJ.unFs {c0:Code} {E T:TypeId} {q:Option Addr} {c:Nat} {vs:Vs} {fs:List (List Term)} (hr:Rm L (ownFs E T q c vs fs) L1) (k:CJ P c0 Q n B H0 us H (ownTs T vs fs::own E 1 q fs.length c (slicesC vs fs)::L1)):CJ P c0 Q n B H0 us H L:=fun a w hF hH=>k a w hF ((hH.front hr).unstar.front (.s .z))
end
theorem l02Spoil_c {B:World} {H0 H:HP} {L:List SA} {w:World} {gs:Nat} {qb:Option Addr} {cb:Nat} {code:List Int} {s:Src} {most:Int} (hbt:Bts H qb code) (hbk:BtOk code) (hm:0≤most∧most≤8) (hcl:code.length≤1048576) (hH:Hp B H0 H (srcO qb cb code gs s::L) w):Calls Tryz.prog 21 [.pointer (some ⟨gs,0,none⟩),.int .i64 most].toArray w fun e w'=>∃ad af s1 qd cd qf cf vs,DrB ad af∧e = .returned (.agg [.slice qd ad.length cd,.slice qf af.length cf].toArray)∧Hp B H0 H (own 2 1 qd ad.length cd (intsC ad)::ownFs 43 52 qf cf vs af::srcO qb cb code gs s1::L) w':=by
 refine JB Tryz.func21 rfl 59 rfl rfl [(0,.pointer (some ⟨gs,0,none⟩)),(1,.int .i64 most)] rfl hH ?_;clear hH;refine Je fun _ hK1 _=>(Jb (JM ze27 rfl fun g4=>(Jf (Ja (hK1 (Je fun _ hK2 _=>(Jb (Jg (Jc rfl) rfl (Jg (Jc rfl) rfl (Jx fn40 rfl rfl fun w hH=>(l02Draw_c hbt hbk (by omega) hcl (hH.front (.s .z))).mono ?_))))))))));rintro _ w ⟨ka8,kf8,ks8,qd8,cd8,qf8,cf8,vs8,hk8,hl8,rfl,hH⟩;refine ⟨_,rfl,fun a hF=>JQ hF hH ?_⟩;refine JM ze27 rfl fun g5=>(Jr rfl rfl (by first | exact bytesC_one _ | exact intsC_one _ | exact Term.c_one _ | simp [Value.oneCell']) (by simpa [*] using sz27) (by simp [*]) At.z (Jf (Ja (hK2 (Je fun _ hK3 _=>(Je fun _ hK4 _=>?_))))));have hkn:=hk8.hn;have hkl:=hk8.hl;refine Jb (Jg (Jc rfl) rfl (Jx fn41 rfl rfl fun w hH=>(l01Next_c hbt hbk hcl (hH.front (.s (.s (.s .z))))).mono ?_));rintro _ w ⟨rfl,hH⟩;refine ⟨_,rfl,fun a hF=>JQ hF hH ?_⟩;refine Jf (Ja (hK4 (Jp (Je fun _ hK5 _=>(Jb (Jg (Ef rfl rfl) rfl (Jg (Jd rfl) rfl (Jf (Ja (hK5 (Jm rfl (fun h11=>?_) (fun h11=>?_))))))))))))
 ·
  refine Jb (Jg (Jc rfl) rfl (Jg (Jt u27 rfl sz24 rfl) rfl (Jg (Jv rfl (.s .z) rfl pl24) rfl (EY (MK.lit1I u24 ze2 sz2 rfl) rfl fun qo16 co16=>(J.appendOI u24 ze2 sz2 by2 rfl rfl (by simp only [List.length_cons,List.length_nil];omega) .z (.s (.s .z)) (fun _ _=>(.s (.s .z))) rfl fun qo17 co17=>(Jx fn42 rfl rfl fun w hH=>(l01Badly_c hbt hbk (by simp only [List.length_append,List.length_cons,List.length_nil];omega) hcl ((hH.front (.s (.s (.s .z)))).front (.s (.s .z)))).mono ?_))))));rintro _ w ⟨qo18,co18,rfl,hH⟩;refine ⟨_,rfl,fun a hF=>JQ hF hH ?_⟩;refine Jg (Jt u27 rfl sz24 rfl) rfl (EA rfl rfl rfl rfl sz24 (by simp [*]) (.s (.s (.s .z))) (Jf (JD (Ja (hK3 (Je fun _ hK6 _=>(Jb (Jg (Jn rfl (.s (.s (.s .z))) (by simpa [*] using ag27)) rfl (Jr rfl rfl (by first | exact bytesC_one _ | exact intsC_one _ | exact Term.c_one _ | simp [Value.oneCell']) (by simpa [*] using sz27) (by simp [*]) (.s (.s (.s (.s (.s .z))))) (Jf (Ja (hK6 (Js (Ju rfl (Res.agg rfl (.s (.s (.s (.s (.s .z))))) (by simpa [*] using ag27)) fun w hH=>?_))))))))))))));replace hH:=hH.sublist (.cons_cons _ (.cons_cons _ (.cons _ (.cons _ (.cons_cons _ (.cons _ (List.Sublist.refl _)))))));exact ⟨_,kf8,_,_,_,_,_,_,DrB.of (by have:=bdyV_len code (nxS code ks8 40) (ka8++[2]);simp only [List.length_append,List.length_cons,List.length_nil] at this;omega) (by omega) hk8.b.all,rfl,(hH.front (.s (.s .z))).front (.s .z)⟩
 ·
  refine Je fun _ hK7 _=>(Jb (Jg (Ef rfl rfl) rfl (Jg (Jd rfl) rfl (Jf (Ja (hK7 (Jm rfl (fun h20=>?_) (fun h20=>?_))))))))
  ·
   refine CJ.unFs (.s (.s (.s .z))) (Jb (Jg (Jt u27 rfl sz25 rfl) rfl (Jg (Jv rfl (.s (.s (.s .z))) rfl pl25) rfl (Jg (Ea bz43) rfl (EY (EI u25 ze43 sz43 rfl rfl) rfl fun qo25 co25=>(EO u25 ze43 sz43 by43 rfl rfl rfl rfl (by omega) .z (.s .z) (fun _ _=>(.s .z)) rfl fun qo26 co26=>(Jg (Jt u27 rfl sz25 rfl) rfl (EA rfl rfl rfl rfl sz25 (by simp [*]) (.s (.s (.s (.s .z)))) (Jf (JD (Ja (hK3 (Je fun _ hK8 _=>(Jb (Jg (Jn rfl (.s (.s (.s (.s .z)))) (by simpa [*] using ag27)) rfl ?_)))))))))))))));refine Jr rfl rfl (by first | exact bytesC_one _ | exact intsC_one _ | exact Term.c_one _ | simp [Value.oneCell']) (by simpa [*] using sz27) (by simp [*]) (.s (.s (.s (.s (.s (.s .z)))))) (Jf (Ja (hK8 (Js (Ju rfl (Res.agg rfl (.s (.s (.s (.s (.s (.s .z)))))) (by simpa [*] using ag27)) fun w hH=>?_)))));replace hH:=hH.sublist (.cons _ (.cons_cons _ (.cons_cons _ (.cons_cons _ (.cons _ (.cons_cons _ (.cons _ (List.Sublist.refl _))))))));exact ⟨ka8,kf8++[[]],_,_,_,_,_,_,DrB.of (by omega) (by simp;omega) (fun f hf=>(List.mem_append.1 hf).elim (hk8.b.all f) fun h9=>by rw [List.mem_singleton.1 h9];exact ⟨by simp,Wfs.nil⟩),(have e:(kf8++[[]]).length=kf8.length+1:=(by simp);by rw [e];rfl),(Hp.fsDone rfl (hH.own0 52 9)).front (.s (.s .z))⟩
  ·
   refine Je fun _ hK9 _=>(Jb (Jg (Ef rfl rfl) rfl (Jg (Jd rfl) rfl (Jf (Ja (hK9 (Jm rfl (fun h28=>?_) (fun h28=>?_))))))))
   ·
    refine Je fun _ hK10 _=>(Jb (Jg (Jt u27 rfl sz25 rfl) rfl (Jg (Jv rfl (.s .z) rfl pl25) rfl (Jg (Jq u25 rfl rfl) rfl (Jg (Em rfl rfl) rfl (Jf (Ja (hK10 (Jm rfl (fun h33=>?_) (fun h33=>?_))))))))))
    ·
     have hni:=nxV_bd hbk (nxS code ks8 40) (kf8.length:Int)
     have hri:(nxV code (nxS code ks8 40) (kf8.length:Int))=(((nxV code (nxS code ks8 40) (kf8.length:Int)).toNat:Nat):Int):=by omega
     have hil:(nxV code (nxS code ks8 40) (kf8.length:Int)).toNat<kf8.length:=by omega
     refine CJ.unFs (.s (.s (.s .z))) (Ev (Rs:=[_,_,_,_,_,_]) 13 [[], [0], [], [], [3], [3,4], [2,3,4,5], [], [], [8], [2,3,4,5,6,7,8,9], [0,1,2,3,4,5,6,7,8,9,10], [0,1,2,3,4,5,6,7,8,9,10,11]] [[], [16], [], [], [16], [], [], [], [], [16], [17], [14], []] [[], [], [], [], [], [], [15], [], [], [], [6], [], [14]] rfl rfl (by kernel_rfl) ?_);apply Jw 1 rfl
     iterate 3 focus (intros;(conv=>lhs;simp only [Jj,JA,JX,JC,JU,eq_self,reduceEqDiff,reduceIte,reduceSub,reduceAdd,JxA,JxB]);all_goals rfl)
     ·
      intro gh X K zq zc zq2 zc2 zb zv hK;refine Jg (Jt u27 rfl sz25 rfl) rfl (Jo ?_);exact hK zq zc zq2 zc2 zb zv
     ·
      intro gh gh' h
      rfl
     apply Jw 2 rfl
     iterate 3 focus (intros;(conv=>lhs;simp only [Jj,JA,JX,JC,JU,eq_self,reduceEqDiff,reduceIte,reduceSub,reduceAdd,JxA,JxB]);all_goals rfl)
     ·
      intro gh X K zq zc zq2 zc2 zb zv hK;refine Jg (Jv rfl At.z rfl pl25) rfl (Jo ?_);exact hK zq zc zq2 zc2 zb zv
     ·
      intro gh gh' h
      rfl
     apply Jw 3 rfl
     iterate 3 focus (intros;(conv=>lhs;simp only [Jj,JA,JX,JC,JU,eq_self,reduceEqDiff,reduceIte,reduceSub,reduceAdd,JxA,JxB]);all_goals rfl)
     ·
      intro gh X K zq zc zq2 zc2 zb zv hK;refine Jg (Jc rfl) rfl (Jo ?_);exact hK zq zc zq2 zc2 zb zv
     ·
      intro gh gh' h
      rfl
     apply Jw 4 rfl
     iterate 3 focus (intros;(conv=>lhs;simp only [Jj,JA,JX,JC,JU,eq_self,reduceEqDiff,reduceIte,reduceSub,reduceAdd,JxA,JxB]);all_goals rfl)
     ·
      intro gh X K zq zc zq2 zc2 zb zv hK;refine Jg (Jt u27 rfl sz25 rfl) rfl (Jo ?_);exact hK zq zc zq2 zc2 zb zv
     ·
      intro gh gh' h
      rfl
     apply Jw 5 rfl
     iterate 3 focus (intros;(conv=>lhs;simp only [Jj,JA,JX,JC,JU,eq_self,reduceEqDiff,reduceIte,reduceSub,reduceAdd,JxA,JxB]);all_goals rfl)
     ·
      intro gh X K zq zc zq2 zc2 zb zv hK;refine Jg (Jv rfl At.z rfl pl25) rfl (Jo ?_);exact hK zq zc zq2 zc2 zb zv
     ·
      intro gh gh' h
      rfl
     apply Jw 6 rfl
     iterate 3 focus (intros;(conv=>lhs;simp only [Jj,JA,JX,JC,JU,eq_self,reduceEqDiff,reduceIte,reduceSub,reduceAdd,JxA,JxB]);all_goals rfl)
     ·
      intro gh X K zq zc zq2 zc2 zb zv hK;refine Jg (Jq u25 rfl rfl) rfl (Jo ?_);exact hK zq zc zq2 zc2 zb zv
     ·
      intro gh gh' h
      rfl
     apply Eq 7 rfl
     iterate 3 focus (intros;(conv=>lhs;simp only [Jj,JA,JX,JC,JU,eq_self,reduceEqDiff,reduceIte,reduceSub,reduceAdd,JxA,JxB]);all_goals rfl)
     ·
      intro gh X K zq zc zq2 zc2 zb zv hK;refine Jx fn41 rfl rfl fun w hH=>(l01Next_c hbt hbk hcl (hH.front .z)).mono ?_;rintro _ w ⟨rfl,hH⟩;refine ⟨_,rfl,fun a hF=>JQ hF hH ?_⟩;refine Jo ?_;exact hK zq zc zq2 zc2 zb zv
     ·
      intro gh gh' h;refine ⟨?_,?_⟩ <;> rfl
     apply Jw 8 rfl
     iterate 3 focus (intros;(conv=>lhs;simp only [Jj,JA,JX,JC,JU,eq_self,reduceEqDiff,reduceIte,reduceSub,reduceAdd,JxA,JxB]);all_goals rfl)
     ·
      intro gh X K zq zc zq2 zc2 zb zv hK;refine Jg (Jc rfl) rfl (Jo ?_);exact hK zq zc zq2 zc2 zb zv
     ·
      intro gh gh' h
      rfl
     apply Jw 9 rfl
     iterate 3 focus (intros;(conv=>lhs;simp only [Jj,JA,JX,JC,JU,eq_self,reduceEqDiff,reduceIte,reduceSub,reduceAdd,JxA,JxB]);all_goals rfl)
     ·
      intro gh X K zq zc zq2 zc2 zb zv hK;refine Jg (Jt u27 rfl sz24 rfl) rfl (Jo ?_);exact hK zq zc zq2 zc2 zb zv
     ·
      intro gh gh' h
      rfl
     apply Jw 10 rfl
     iterate 3 focus (intros;(conv=>lhs;simp only [Jj,JA,JX,JC,JU,eq_self,reduceEqDiff,reduceIte,reduceSub,reduceAdd,JxA,JxB]);all_goals rfl)
     ·
      intro gh X K zq zc zq2 zc2 zb zv hK;refine Jg (Jv rfl At.z rfl pl24) rfl (Jo ?_);exact hK zq zc zq2 zc2 zb zv
     ·
      intro gh gh' h
      rfl
     apply GJ.st2 11 rfl
     iterate 3 focus (intros;(conv=>lhs;simp only [Jj,JA,JX,JC,JU,eq_self,reduceEqDiff,reduceIte,reduceSub,reduceAdd,JxA,JxB]);all_goals rfl)
     ·
      intro gh X K zq zc zq2 zc2 zb zv hK;refine Jx fn43 rfl rfl fun w hH=>hH.lend (.s .z) fun Hl1 hle1 hA1 hB1 hH=>(l01DrawAny_c (hbt.le hle1) hbk (own_ints hA1) hk8.hd0 hk8.hn (by omega) hcl (hH.front .z)).mono ?_;rintro _ w ⟨qo44,co44,rfl,hH⟩;replace hH:=hB1 _ _ hH;refine ⟨_,rfl,fun a hF=>JQ hF hH ?_⟩;refine Jh .z (Jh (.s (.s .z)) (Jh (.s (.s .z)) (Jo ?_)));exact hK qo44 co44 zq2 zc2 zb zv
     ·
      intro gh gh' h;refine ⟨?_,?_,?_⟩ <;> rfl
     apply Jw 12 rfl
     iterate 3 focus (intros;(conv=>lhs;simp only [Jj,JA,JX,JC,JU,eq_self,reduceEqDiff,reduceIte,reduceSub,reduceAdd,JxA,JxB]);all_goals rfl)
     ·
      intro gh X K zq zc zq2 zc2 zb zv hK;refine Jg (EN (i':=(nxV code (nxS code ks8 40) (kf8.length:Int)).toNat) u25 sz43 rfl rfl hri (by omega) At.z) rfl (Jo ?_);exact hK zq zc zq2 zc2 zb zv
     ·
      intro gh gh' h
      first | simp only [h 10 rfl] | rfl
     apply EB 13 rfl
     iterate 3 focus (intros;(conv=>lhs;simp only [Jj,JA,JX,JC,JU,eq_self,reduceEqDiff,reduceIte,reduceSub,reduceAdd,JxA,JxB]);all_goals rfl)
     ·
      intro gh X K hK;refine J.storeWA rfl rfl rfl rfl sz43 (by omega) At.z (Jo ?_);exact hK
     ·
      intro gh gh' h
      first | simp only [h 10 rfl] | rfl
     apply Eu [0,1,2,3,4,5,6,7,8,9,10,11,12] [0,1,2,3,4,5,7,8,9,10,11,12,13,16,17,18] foll0 rfl rfl rfl (by rfl)
     iterate 2 focus (intros;(conv=>lhs;simp only [Jj,JA,JX,JC,JU,eq_self,reduceEqDiff,reduceIte,reduceSub,reduceAdd,JxA,JxB]);all_goals rfl)
     intro gh;generalize (gh 10).c=co44;generalize (gh 10).q=qo44;clear gh;refine JD (Ja (hK3 (Je fun _ hK11 _=>(Jb (Jg (Jn rfl (.s (.s (.s (.s .z)))) (by simpa [*] using ag27)) rfl (Jr rfl rfl (by first | exact bytesC_one _ | exact intsC_one _ | exact Term.c_one _ | simp [Value.oneCell']) (by simpa [*] using sz27) (by simp [*]) (.s (.s (.s (.s (.s (.s .z)))))) (Jf (Ja (hK11 (Js (Ju rfl (Res.agg rfl (.s (.s (.s (.s (.s (.s .z)))))) (by simpa [*] using ag27)) fun w hH=>?_)))))))))));replace hH:=hH.sublist (.cons_cons _ (.cons_cons _ (.cons_cons _ (.cons_cons _ (.cons _ (.cons_cons _ (.cons _ (List.Sublist.refl _))))))));have hda:=daV_ok hbk hk8.hd0 hk8.hn (nxS code (nxS code ks8 40) (kf8.length:Int)) (most:=3) (by omega);exact ⟨ka8,kf8.set (nxV code (nxS code ks8 40) (kf8.length:Int)).toNat (daV code ka8 (nxS code (nxS code ks8 40) (kf8.length:Int)) 3),_,_,_,_,_,_,DrB.of (by omega) (by rw [List.length_set];omega) (fun f hf=>(List.mem_or_eq_of_mem_set hf).elim (hk8.b.all f) fun h9=>by rw [h9];exact ⟨by have:=hda.len;omega,hda.wf⟩),(by rw [List.length_set]),(Hp.fsSet hil rfl (((hH.front (.s (.s .z))).front (.s (.s (.s .z)))).front (.s (.s .z)))).front (.s (.s .z))⟩
    ·
     refine Jk (JD (Ja (hK3 (Je fun _ hK12 _=>(Jb (Jg (Jn rfl (.s .z) (by simpa [*] using ag27)) rfl (Jr rfl rfl (by first | exact bytesC_one _ | exact intsC_one _ | exact Term.c_one _ | simp [Value.oneCell']) (by simpa [*] using sz27) (by simp [*]) (.s (.s (.s (.s .z)))) (Jf (Ja (hK12 (Js (Ju rfl (Res.agg rfl (.s (.s (.s (.s .z)))) (by simpa [*] using ag27)) fun w hH=>?_))))))))))));replace hH:=hH.sublist (.cons_cons _ (.cons _ (.cons_cons _ (.cons_cons _ (.cons _ (List.Sublist.refl _))))));exact ⟨ka8,kf8,_,_,_,_,_,_,hk8.b,rfl,(hH.front (.s (.s .z))).front (.s (.s .z))⟩
   ·
    refine Je fun _ hK13 _=>(Jb (Jg (Ef rfl rfl) rfl (Jg (Jd rfl) rfl (Jf (Ja (hK13 (Jm rfl (fun h46=>?_) (fun h46=>?_))))))))
    ·
     refine Je fun _ hK14 _=>(Jb (Jg (Jt u27 rfl sz24 rfl) rfl (Jg (Jv rfl (.s .z) rfl pl24) rfl (Jg (Jq u24 rfl rfl) rfl (Jg (Em rfl rfl) rfl (Jf (Ja (hK14 (Jm rfl (fun h51=>?_) (fun h51=>?_))))))))))
     ·
      refine Ev (Rs:=[_,_,_,_,_]) 7 [[], [0], [], [], [2,3], [0,1,2,3,4], [0,1,2,3,4,5]] [[], [8], [], [], [3], [9], []] [[], [], [], [], [7], [], [9]] rfl rfl (by kernel_rfl) ?_;apply Jw 1 rfl
      iterate 3 focus (intros;(conv=>lhs;simp only [Jj,JA,JX,JC,JU,eq_self,reduceEqDiff,reduceIte,reduceSub,reduceAdd,JxA,JxB]);all_goals rfl)
      ·
       intro gh X K zq zc zq2 zc2 zb zv hK;refine Jg (Jt u27 rfl sz24 rfl) rfl (Jo ?_);exact hK zq zc zq2 zc2 zb zv
      ·
       intro gh gh' h
       rfl
      apply Jw 2 rfl
      iterate 3 focus (intros;(conv=>lhs;simp only [Jj,JA,JX,JC,JU,eq_self,reduceEqDiff,reduceIte,reduceSub,reduceAdd,JxA,JxB]);all_goals rfl)
      ·
       intro gh X K zq zc zq2 zc2 zb zv hK;refine Jg (Jv rfl At.z rfl pl24) rfl (Jo ?_);exact hK zq zc zq2 zc2 zb zv
      ·
       intro gh gh' h
       rfl
      apply Jw 3 rfl
      iterate 3 focus (intros;(conv=>lhs;simp only [Jj,JA,JX,JC,JU,eq_self,reduceEqDiff,reduceIte,reduceSub,reduceAdd,JxA,JxB]);all_goals rfl)
      ·
       intro gh X K zq zc zq2 zc2 zb zv hK;refine Jg (Jc rfl) rfl (Jo ?_);exact hK zq zc zq2 zc2 zb zv
      ·
       intro gh gh' h
       rfl
      apply Eq 4 rfl
      iterate 3 focus (intros;(conv=>lhs;simp only [Jj,JA,JX,JC,JU,eq_self,reduceEqDiff,reduceIte,reduceSub,reduceAdd,JxA,JxB]);all_goals rfl)
      ·
       intro gh X K zq zc zq2 zc2 zb zv hK;refine J.litN (intsC ([0,13,1,2]:List Int)) u24 ze2 sz2 rfl rfl rfl (by decide) (by decide) (fun v hv=>by obtain ⟨x,_,rfl⟩:=List.mem_map.1 hv;rfl) rfl fun g55=>(Jo ?_);exact hK zq zc zq2 zc2 g55 zv
      ·
       intro gh gh' h;refine ⟨?_,?_⟩ <;> rfl
      apply Eq 5 rfl
      iterate 3 focus (intros;(conv=>lhs;simp only [Jj,JA,JX,JC,JU,eq_self,reduceEqDiff,reduceIte,reduceSub,reduceAdd,JxA,JxB]);all_goals rfl)
      ·
       intro gh X K zq zc zq2 zc2 zb zv hK;refine Jx fn44 rfl rfl fun w hH=>hH.lend (.s .z) fun Hl1 hle1 hA1 hB1 hH=>(l01Pick_c (hbt.le hle1) hbk (own_ints hA1) (Nat.le_of_ble_eq_true rfl) (Nat.le_of_ble_eq_true rfl) hcl (hH.front .z)).mono ?_;rintro _ w ⟨rfl,hH⟩;replace hH:=hB1 _ _ hH;refine ⟨_,rfl,fun a hF=>JQ hF hH ?_⟩;refine Jh .z (Jh (.s .z) (Jo ?_));exact hK zq zc zq2 zc2 zb zv
      ·
       intro gh gh' h;refine ⟨?_,?_⟩ <;> (first | simp only [h 3 rfl] | rfl)
      apply Jw 6 rfl
      iterate 3 focus (intros;(conv=>lhs;simp only [Jj,JA,JX,JC,JU,eq_self,reduceEqDiff,reduceIte,reduceSub,reduceAdd,JxA,JxB]);all_goals rfl)
      ·
       intro gh X K zq zc zq2 zc2 zb zv hK;refine Jg (EN (i':=0) u24 sz2 rfl rfl rfl (by omega) At.z) rfl (Jo ?_);exact hK zq zc zq2 zc2 zb zv
      ·
       intro gh gh' h
       first | simp only [h 3 rfl] | rfl
      apply EB 7 rfl
      iterate 3 focus (intros;(conv=>lhs;simp only [Jj,JA,JX,JC,JU,eq_self,reduceEqDiff,reduceIte,reduceSub,reduceAdd,JxA,JxB]);all_goals rfl)
      ·
       intro gh X K hK;refine J.storeWI rfl rfl sz2 (by omega) At.z (Jo ?_);exact hK
      ·
       intro gh gh' h
       first | simp only [h 3 rfl] | rfl
      apply Eu [0,1,2,3,4,5,6] [0,1,2,3,4,5,6,8,10,11] foll0 rfl rfl rfl (by rfl)
      iterate 2 focus (intros;(conv=>lhs;simp only [Jj,JA,JX,JC,JU,eq_self,reduceEqDiff,reduceIte,reduceSub,reduceAdd,JxA,JxB]);all_goals rfl)
      intro gh;generalize (gh 3).b=g55;clear gh;refine JD (Ja (hK3 (Je fun _ hK15 _=>(Jb (Jg (Jn rfl (.s (.s (.s .z))) (by simpa [*] using ag27)) rfl (Jr rfl rfl (by first | exact bytesC_one _ | exact intsC_one _ | exact Term.c_one _ | simp [Value.oneCell']) (by simpa [*] using sz27) (by simp [*]) (.s (.s (.s (.s (.s .z))))) (Jf (Ja (hK15 (Js (Ju rfl (Res.agg rfl (.s (.s (.s (.s (.s .z))))) (by simpa [*] using ag27)) fun w hH=>?_)))))))))));replace hH:=hH.sublist (.cons _ (.cons_cons _ (.cons_cons _ (.cons _ (.cons_cons _ (.cons _ (List.Sublist.refl _)))))));exact ⟨ka8.set 0 (pkV code (nxS code ks8 40) [0,13,1,2]),kf8,_,_,_,_,_,_,DrB.of (by rw [List.length_set];omega) (by omega) hk8.b.all,(by rw [List.length_set]),(by rw [List.length_set];exact (hH.front (.s (.s .z))).front (.s (.s .z)))⟩
     ·
      refine Jk (JD (Ja (hK3 (Je fun _ hK16 _=>(Jb (Jg (Jn rfl (.s .z) (by simpa [*] using ag27)) rfl (Jr rfl rfl (by first | exact bytesC_one _ | exact intsC_one _ | exact Term.c_one _ | simp [Value.oneCell']) (by simpa [*] using sz27) (by simp [*]) (.s (.s (.s (.s .z)))) (Jf (Ja (hK16 (Js (Ju rfl (Res.agg rfl (.s (.s (.s (.s .z)))) (by simpa [*] using ag27)) fun w hH=>?_))))))))))));replace hH:=hH.sublist (.cons_cons _ (.cons _ (.cons_cons _ (.cons_cons _ (.cons _ (List.Sublist.refl _))))));exact ⟨ka8,kf8,_,_,_,_,_,_,hk8.b,rfl,(hH.front (.s (.s .z))).front (.s (.s .z))⟩
    ·
     refine Jk (JD (Ja (hK3 (Je fun _ hK17 _=>(Jb (Jg (Jn rfl (.s .z) (by simpa [*] using ag27)) rfl (Jr rfl rfl (by first | exact bytesC_one _ | exact intsC_one _ | exact Term.c_one _ | simp [Value.oneCell']) (by simpa [*] using sz27) (by simp [*]) (.s (.s (.s (.s .z)))) (Jf (Ja (hK17 (Js (Ju rfl (Res.agg rfl (.s (.s (.s (.s .z)))) (by simpa [*] using ag27)) fun w hH=>?_))))))))))));replace hH:=hH.sublist (.cons_cons _ (.cons _ (.cons_cons _ (.cons_cons _ (.cons _ (List.Sublist.refl _))))));exact ⟨ka8,kf8,_,_,_,_,_,_,hk8.b,rfl,(hH.front (.s (.s .z))).front (.s (.s .z))⟩
theorem fn21:Fn Tryz.prog 21:=⟨_,Tryz.func21,by kernel_rfl,rfl⟩
theorem fn22:Fn Tryz.prog 22:=⟨_,Tryz.func22,by kernel_rfl,rfl⟩
theorem fn36:Fn Tryz.prog 36:=⟨_,Tryz.func36,by kernel_rfl,rfl⟩
theorem fn66:Fn Tryz.prog 66:=⟨_,Tryz.func66,by kernel_rfl,rfl⟩
theorem isAlg_dg {ds:List Int} {fs:List (List Term)} (h:isAlg ds fs=true):isDeg ds=true:=by
 unfold isAlg at h;simp only [Bool.and_eq_true] at h;exact h.1.1.1
theorem dS_len2 {ds:List Int} {fs:List (List Term)} {f:List Term} (hL : ∀i,i<fs.length→(fm fs i).length≤10000) (ho:Occ fs.length (toS f)):(ofS (dS ds fs (toS f))).length≤f.length * 80000:=by
 have h1:=dAll_len (ds:=ds) hL ho;have h2:=acc_len (dAll ds fs (toS f)) [];rw [ofS_len];rw [toS_len] at h1;unfold dS;simp only [List.length_nil] at h2
 omega
theorem l02Two_c {B:World} {H0 H:HP} {L:List SA} {w:World} {qb:Option Addr} {cb:Nat} {code:List Int} (hbt:Bts H qb code) (hbk:BtOk code) (hcl:code.length≤1048576) (hH:Hp B H0 H L w):Calls Tryz.prog 36 [.slice qb code.length cb].toArray w fun e w'=>∃ad af f qd cd qf cf vs q c,DrB ad af∧(Wfs f∧f.length≤1048576)∧e = .returned (.tuple #[.agg [.slice qd ad.length cd,.slice qf af.length cf].toArray,.agg [.slice q f.length c].toArray])∧Hp B H0 H (own 2 1 qd ad.length cd (intsC ad)::ownFs 43 52 qf cf vs af::own 52 9 q f.length c (tsC f)::L) w':=by
 refine JB Tryz.func36 rfl 35 rfl rfl [(0,.slice qb code.length cb)] rfl hH ?_;clear hH;refine Je fun _ hK1 _=>(Jb (JM ze27 rfl fun g2=>(JM ze43 rfl fun g3=>(Jf (Ja (hK1 (Je fun _ hK2 _=>(Jb (Jg (Jc rfl) rfl (Jx fn22 rfl rfl fun w hH=>(l01From_c hbt hbk hcl hH).mono ?_))))))))));rintro _ w ⟨gs,s0,rfl,hH⟩;refine ⟨_,rfl,fun a hF=>JQ hF hH ?_⟩;refine Jg (Jd rfl) rfl (Jf (Ja (hK2 (Je fun _ hK3 _=>(Jb (Jg (Jc rfl) rfl (Jx fn21 rfl rfl fun w hH=>(l02Spoil_c hbt hbk (by omega) hcl (hH.front .z)).mono ?_)))))));rintro _ w ⟨ka9,kf9,ks9,qd9,cd9,qf9,cf9,vs9,hk9,rfl,hH⟩;refine ⟨_,rfl,fun a hF=>JQ hF hH ?_⟩;refine JM ze27 rfl fun g5=>(Jr rfl rfl (by first | exact bytesC_one _ | exact intsC_one _ | exact Term.c_one _ | simp [Value.oneCell']) (by simpa [*] using sz27) (by simp [*]) At.z (Jf (Ja (hK3 (Je fun _ hK4 _=>(Je fun _ hK5 _=>(Jb (Jg (Jn rfl At.z (by simpa [*] using ag27)) rfl (Jx fn25 rfl rfl fun w hH=>hH.lend (.s .z) fun Hl1 hle1 hA1 hB1 hH=>hH.lend (.s .z) fun Hl2 hle2 hA2 hB2 hH=>(l02Is_c ((own_ints hA1).le hle2) (own_forms hk9.wf hA2) (by have:=hk9.hn;omega) (by have:=hk9.hl;omega) (fun i hi=>by have:=hk9.len i hi;omega) hH).mono ?_)))))))));rintro _ w ⟨rfl,hH⟩;replace hH:=hB2 _ _ hH;replace hH:=hB1 _ _ hH;refine ⟨_,rfl,fun a hF=>JQ hF hH ?_⟩;refine Jg (Es rfl) rfl (Jf (Ja (hK5 (Ei rfl (fun h12=>?_) (fun h12=>?_)))))
 ·
  refine Je fun _ hK6 _=>(Jb (Jg (Jn rfl (.s (.s .z)) (by simpa [*] using ag27)) rfl (ED 52 9 (Jg (Ea bz43) rfl (Jr rfl rfl (by first | exact bytesC_one _ | exact intsC_one _ | exact Term.c_one _ | simp [Value.oneCell']) (by simpa [*] using sz27) (by simp [*]) (.s (.s (.s (.s (.s (.s .z)))))) (Jr rfl rfl (by first | exact bytesC_one _ | exact intsC_one _ | exact Term.c_one _ | simp [Value.oneCell']) (by simpa [*] using sz43) (by simp [*]) (.s (.s (.s (.s (.s .z))))) (Jf (Ja (hK6 (Js (Ji (Eb rfl (Res.agg rfl (.s (.s (.s (.s (.s (.s .z)))))) (by simpa [*] using ag27)) (Res.agg rfl (.s (.s (.s (.s (.s .z))))) (by simpa [*] using ag43)) fun w hH=>?_))))))))))));replace hH:=hH.sublist (.cons_cons _ (.cons_cons _ (.cons_cons _ (.cons _ (.cons _ (.cons _ (.cons _ (List.Sublist.refl _))))))));exact ⟨ka9,kf9, [],_,_,_,_,_,_,_,hk9,⟨Wfs.nil,by simp⟩,rfl,(hH.front (.s (.s .z))).front (.s (.s .z))⟩
 ·
  have hAlg:isAlg ka9 kf9=true:=not_t h12;have hA:=isAlg_ok hAlg hk9.wf;have hn1:=nxV_bd hbk (nxS code ks9 3) 10;refine Jk (Ja (hK4 (Je fun _ hK7 _=>(Je fun _ hK8 _=>(Jb (Jg (Jc rfl) rfl (Jx fn41 rfl rfl fun w hH=>(l01Next_c hbt hbk hcl (hH.front (.s (.s (.s .z))))).mono ?_)))))));rintro _ w ⟨rfl,hH⟩;refine ⟨_,rfl,fun a hF=>JQ hF hH ?_⟩;refine Jg (Ef rfl rfl) rfl (Jf (Ja (hK8 (Jm rfl (fun h17=>?_) (fun h17=>?_)))))
  ·
   refine Je fun _ hK9 _=>(Ev (Rs:=[_,_,_,_,_,_]) 12 [[], [], [], [], [3], [], [5], [5,6], [2,3,4,5,6,7], [1,2,3,4,5,6,7,8], [0,1,2,3,4,5,6,7,8,9], [0,1,2,3,4,5,6,7,8,9,10]] [[15], [15], [], [], [15], [], [], [], [13], [8,13,14], [], []] [[], [], [], [], [], [], [12], [], [6], [], [17], [16]] rfl rfl (by kernel_rfl) ?_);apply Jw 1 rfl
   iterate 3 focus (intros;(conv=>lhs;simp only [Jj,JA,JX,JC,JU,eq_self,reduceEqDiff,reduceIte,reduceSub,reduceAdd,JxA,JxB]);all_goals rfl)
   ·
    intro gh X K zq zc zq2 zc2 zb zv hK;refine Jg (Jn rfl At.z (by simpa [*] using ag27)) rfl (Jo ?_);exact hK zq zc zq2 zc2 zb zv
   ·
    intro gh gh' h
    rfl
   apply Jw 2 rfl
   iterate 3 focus (intros;(conv=>lhs;simp only [Jj,JA,JX,JC,JU,eq_self,reduceEqDiff,reduceIte,reduceSub,reduceAdd,JxA,JxB]);all_goals rfl)
   ·
    intro gh X K zq zc zq2 zc2 zb zv hK;refine Jg (Jn rfl At.z (by simpa [*] using ag27)) rfl (Jo ?_);exact hK zq zc zq2 zc2 zb zv
   ·
    intro gh gh' h
    rfl
   apply Jw 3 rfl
   iterate 3 focus (intros;(conv=>lhs;simp only [Jj,JA,JX,JC,JU,eq_self,reduceEqDiff,reduceIte,reduceSub,reduceAdd,JxA,JxB]);all_goals rfl)
   ·
    intro gh X K zq zc zq2 zc2 zb zv hK;refine Jg (Jc rfl) rfl (Jo ?_);exact hK zq zc zq2 zc2 zb zv
   ·
    intro gh gh' h
    rfl
   apply Jw 4 rfl
   iterate 3 focus (intros;(conv=>lhs;simp only [Jj,JA,JX,JC,JU,eq_self,reduceEqDiff,reduceIte,reduceSub,reduceAdd,JxA,JxB]);all_goals rfl)
   ·
    intro gh X K zq zc zq2 zc2 zb zv hK;refine Jg (Jt u27 rfl sz24 rfl) rfl (Jo ?_);exact hK zq zc zq2 zc2 zb zv
   ·
    intro gh gh' h
    rfl
   apply Jw 5 rfl
   iterate 3 focus (intros;(conv=>lhs;simp only [Jj,JA,JX,JC,JU,eq_self,reduceEqDiff,reduceIte,reduceSub,reduceAdd,JxA,JxB]);all_goals rfl)
   ·
    intro gh X K zq zc zq2 zc2 zb zv hK;refine Jg (Jv rfl At.z rfl pl24) rfl (Jo ?_);exact hK zq zc zq2 zc2 zb zv
   ·
    intro gh gh' h
    rfl
   apply Jw 6 rfl
   iterate 3 focus (intros;(conv=>lhs;simp only [Jj,JA,JX,JC,JU,eq_self,reduceEqDiff,reduceIte,reduceSub,reduceAdd,JxA,JxB]);all_goals rfl)
   ·
    intro gh X K zq zc zq2 zc2 zb zv hK;refine Jg (Jc rfl) rfl (Jo ?_);exact hK zq zc zq2 zc2 zb zv
   ·
    intro gh gh' h
    rfl
   apply Eq 7 rfl
   iterate 3 focus (intros;(conv=>lhs;simp only [Jj,JA,JX,JC,JU,eq_self,reduceEqDiff,reduceIte,reduceSub,reduceAdd,JxA,JxB]);all_goals rfl)
   ·
    intro gh X K zq zc zq2 zc2 zb zv hK;refine Jx fn41 rfl rfl fun w hH=>(l01Next_c hbt hbk hcl (hH.front .z)).mono ?_;rintro _ w ⟨rfl,hH⟩;refine ⟨_,rfl,fun a hF=>JQ hF hH ?_⟩;refine Jo ?_;exact hK zq zc zq2 zc2 zb zv
   ·
    intro gh gh' h;refine ⟨?_,?_⟩ <;> rfl
   apply Jw 8 rfl
   iterate 3 focus (intros;(conv=>lhs;simp only [Jj,JA,JX,JC,JU,eq_self,reduceEqDiff,reduceIte,reduceSub,reduceAdd,JxA,JxB]);all_goals rfl)
   ·
    intro gh X K zq zc zq2 zc2 zb zv hK;refine Jg (Jy rfl rfl (nw _ (by omega))) rfl (Jo ?_);exact hK zq zc zq2 zc2 zb zv
   ·
    intro gh gh' h
    rfl
   apply GJ.st2 9 rfl
   iterate 3 focus (intros;(conv=>lhs;simp only [Jj,JA,JX,JC,JU,eq_self,reduceEqDiff,reduceIte,reduceSub,reduceAdd,JxA,JxB]);all_goals rfl)
   ·
    intro gh X K zq zc zq2 zc2 zb zv hK;refine Jx fn65 rfl rfl fun w hH=>hH.lend (.s .z) fun Hl1 hle1 hA1 hB1 hH=>(l01DrawForm_c (hbt.le hle1) hbk (own_ints hA1) (isDeg_1 (isAlg_dg hAlg)) hA.hn (by omega) (by omega) hcl (hH.front .z)).mono ?_;rintro _ w ⟨qo26,co26,rfl,hH⟩;replace hH:=hB1 _ _ hH;refine ⟨_,rfl,fun a hF=>JQ hF hH ?_⟩;refine Jh .z (Jh (.s (.s .z)) (Jh (.s (.s .z)) (Jo ?_)));exact hK qo26 co26 zq2 zc2 zb zv
   ·
    intro gh gh' h;refine ⟨?_,?_,?_⟩ <;> rfl
   apply Eq 10 rfl
   iterate 3 focus (intros;(conv=>lhs;simp only [Jj,JA,JX,JC,JU,eq_self,reduceEqDiff,reduceIte,reduceSub,reduceAdd,JxA,JxB]);all_goals rfl)
   ·
    intro gh X K zq zc zq2 zc2 zb zv hK;refine Jx fn54 rfl rfl fun w hH=>hH.lend (.s (.s .z)) fun Hl1 hle1 hA1 hB1 hH=>hH.lend (.s (.s .z)) fun Hl2 hle2 hA2 hB2 hH=>hH.lend .z fun Hl3 hle3 hA3 hB3 hH=>(l02D_c (((own_ints hA1).le hle2).le hle3) ((own_forms hk9.wf hA2).le hle3) (own_terms (dfV_ok hbk hA.hn (isDeg_1 (isAlg_dg hAlg)) (1+(nxV code (nxS code ks9 3) 10)) (nxS code (nxS code ks9 3) 10) (most:=3) (by omega)).wf hA3) hA.hn hA.hd hA.fok hA.hl hA.kex (dfV_ok hbk hA.hn (isDeg_1 (isAlg_dg hAlg)) (1+(nxV code (nxS code ks9 3) 10)) (nxS code (nxS code ks9 3) 10) (most:=3) (by omega)).sok (dfV_ok hbk hA.hn (isDeg_1 (isAlg_dg hAlg)) (1+(nxV code (nxS code ks9 3) 10)) (nxS code (nxS code ks9 3) 10) (most:=3) (by omega)).kex (by omega) hA.len (by have:=(dfV_ok hbk hA.hn (isDeg_1 (isAlg_dg hAlg)) (1+(nxV code (nxS code ks9 3) 10)) (nxS code (nxS code ks9 3) 10) (most:=3) (by omega)).len;omega) hH).mono ?_;rintro _ w ⟨qo27,co27,rfl,hH⟩;replace hH:=hB3 _ _ hH;replace hH:=hB2 _ _ hH;replace hH:=hB1 _ _ hH;refine ⟨_,rfl,fun a hF=>JQ hF hH ?_⟩;refine Jh (.s .z) (Jh (.s .z) (Jh (.s (.s (.s (.s .z)))) (Jh (.s (.s (.s .z))) (Jh (.s (.s (.s (.s .z)))) (Jo ?_)))));exact hK qo27 co27 zq2 zc2 zb zv
   ·
    intro gh gh' h;refine ⟨?_,?_⟩ <;> (first | simp only [h 8 rfl] | rfl)
   apply EB 11 rfl
   iterate 3 focus (intros;(conv=>lhs;simp only [Jj,JA,JX,JC,JU,eq_self,reduceEqDiff,reduceIte,reduceSub,reduceAdd,JxA,JxB]);all_goals rfl)
   ·
    intro gh X K hK;refine Jr rfl rfl (by first | exact bytesC_one _ | exact intsC_one _ | exact Term.c_one _ | simp [Value.oneCell']) (by simpa [*] using sz27) (by simp [*]) At.z (Jo ?_);exact hK
   ·
    intro gh gh' h
    first | simp only [h 8 rfl,h 9 rfl] | rfl
   apply EB 12 rfl
   iterate 3 focus (intros;(conv=>lhs;simp only [Jj,JA,JX,JC,JU,eq_self,reduceEqDiff,reduceIte,reduceSub,reduceAdd,JxA,JxB]);all_goals rfl)
   ·
    intro gh X K hK;refine Jr rfl rfl (by first | exact bytesC_one _ | exact intsC_one _ | exact Term.c_one _ | simp [Value.oneCell']) (by simpa [*] using sz43) (by simp [*]) At.z (Jo ?_);exact hK
   ·
    intro gh gh' h
    first | simp only [h 8 rfl,h 9 rfl] | rfl
   apply Eu [0,1,2,3,4,5,6,7,8,9,10,11] [0,1,2,3,4,5,7,8,9,10,11,13,14,15] foll0 rfl rfl rfl (by rfl)
   iterate 2 focus (intros;(conv=>lhs;simp only [Jj,JA,JX,JC,JU,eq_self,reduceEqDiff,reduceIte,reduceSub,reduceAdd,JxA,JxB]);all_goals rfl)
   intro gh;generalize (gh 8).c=co26;generalize (gh 8).q=qo26;generalize (gh 9).c=co27;generalize (gh 9).q=qo27;clear gh;refine Ja (hK9 (Js (Ji (Eb rfl (Res.agg rfl (.s (.s (.s .z))) (by simpa [*] using ag27)) (Res.agg rfl (.s (.s (.s (.s .z)))) (by simpa [*] using ag43)) fun w hH=>?_))));replace hH:=hH.sublist (.cons _ (.cons _ (.cons_cons _ (.cons _ (.cons _ (.cons_cons _ (.cons_cons _ (.cons _ (List.Sublist.refl _)))))))));have h9:=dS_len2 (ds:=ka9) (fs:=kf9) (f:=(dfV code ka9 (1+(nxV code (nxS code ks9 3) 10)) (nxS code (nxS code ks9 3) 10) 3)) hA.len (Ex.occ (dfV_ok hbk hA.hn (isDeg_1 (isAlg_dg hAlg)) (1+(nxV code (nxS code ks9 3) 10)) (nxS code (nxS code ks9 3) 10) (most:=3) (by omega)).kex hA.hl);have h8:=(dfV_ok hbk hA.hn (isDeg_1 (isAlg_dg hAlg)) (1+(nxV code (nxS code ks9 3) 10)) (nxS code (nxS code ks9 3) 10) (most:=3) (by omega)).len;exact ⟨ka9,kf9,_,_,_,_,_,_,_,_,hk9,⟨(dS_sok (dfV_ok hbk hA.hn (isDeg_1 (isAlg_dg hAlg)) (1+(nxV code (nxS code ks9 3) 10)) (nxS code (nxS code ks9 3) 10) (most:=3) (by omega)).sok hA.fok (Ex.occ (dfV_ok hbk hA.hn (isDeg_1 (isAlg_dg hAlg)) (1+(nxV code (nxS code ks9 3) 10)) (nxS code (nxS code ks9 3) 10) (most:=3) (by omega)).kex hA.hl)).wf (by omega),by omega⟩,rfl,(hH.front (.s (.s .z))).front (.s (.s .z))⟩
  ·
   refine Jk (Ja (hK7 (Je fun _ hK10 _=>(Ev (Rs:=[_,_,_,_,_,_]) 9 [[], [], [], [], [3], [2,3,4], [1,2,3,4,5], [0,1,2,3,4,5,6], [0,1,2,3,4,5,6,7]] [[12], [], [], [], [12], [10], [], [], []] [[], [], [], [], [], [9], [5], [14], [13]] rfl rfl (by kernel_rfl) ?_))));apply Jw 1 rfl
   iterate 3 focus (intros;(conv=>lhs;simp only [Jj,JA,JX,JC,JU,eq_self,reduceEqDiff,reduceIte,reduceSub,reduceAdd,JxA,JxB]);all_goals rfl)
   ·
    intro gh X K zq zc zq2 zc2 zb zv hK;refine Jg (Jn rfl At.z (by simpa [*] using ag27)) rfl (Jo ?_);exact hK zq zc zq2 zc2 zb zv
   ·
    intro gh gh' h
    rfl
   apply Jw 2 rfl
   iterate 3 focus (intros;(conv=>lhs;simp only [Jj,JA,JX,JC,JU,eq_self,reduceEqDiff,reduceIte,reduceSub,reduceAdd,JxA,JxB]);all_goals rfl)
   ·
    intro gh X K zq zc zq2 zc2 zb zv hK;refine Jg (Jc rfl) rfl (Jo ?_);exact hK zq zc zq2 zc2 zb zv
   ·
    intro gh gh' h
    rfl
   apply Jw 3 rfl
   iterate 3 focus (intros;(conv=>lhs;simp only [Jj,JA,JX,JC,JU,eq_self,reduceEqDiff,reduceIte,reduceSub,reduceAdd,JxA,JxB]);all_goals rfl)
   ·
    intro gh X K zq zc zq2 zc2 zb zv hK;refine Jg (Jc rfl) rfl (Jo ?_);exact hK zq zc zq2 zc2 zb zv
   ·
    intro gh gh' h
    rfl
   apply Jw 4 rfl
   iterate 3 focus (intros;(conv=>lhs;simp only [Jj,JA,JX,JC,JU,eq_self,reduceEqDiff,reduceIte,reduceSub,reduceAdd,JxA,JxB]);all_goals rfl)
   ·
    intro gh X K zq zc zq2 zc2 zb zv hK;refine Jg (Jt u27 rfl sz24 rfl) rfl (Jo ?_);exact hK zq zc zq2 zc2 zb zv
   ·
    intro gh gh' h
    rfl
   apply Jw 5 rfl
   iterate 3 focus (intros;(conv=>lhs;simp only [Jj,JA,JX,JC,JU,eq_self,reduceEqDiff,reduceIte,reduceSub,reduceAdd,JxA,JxB]);all_goals rfl)
   ·
    intro gh X K zq zc zq2 zc2 zb zv hK;refine Jg (Jv rfl At.z rfl pl24) rfl (Jo ?_);exact hK zq zc zq2 zc2 zb zv
   ·
    intro gh gh' h
    rfl
   apply GJ.st2 6 rfl
   iterate 3 focus (intros;(conv=>lhs;simp only [Jj,JA,JX,JC,JU,eq_self,reduceEqDiff,reduceIte,reduceSub,reduceAdd,JxA,JxB]);all_goals rfl)
   ·
    intro gh X K zq zc zq2 zc2 zb zv hK;refine Jx fn43 rfl rfl fun w hH=>hH.lend (.s .z) fun Hl1 hle1 hA1 hB1 hH=>(l01DrawAny_c (hbt.le hle1) hbk (own_ints hA1) hA.hd hA.hn (by omega) hcl (hH.front .z)).mono ?_;rintro _ w ⟨qo33,co33,rfl,hH⟩;replace hH:=hB1 _ _ hH;refine ⟨_,rfl,fun a hF=>JQ hF hH ?_⟩;refine Jh .z (Jh (.s (.s .z)) (Jh (.s (.s .z)) (Jo ?_)));exact hK qo33 co33 zq2 zc2 zb zv
   ·
    intro gh gh' h;refine ⟨?_,?_,?_⟩ <;> rfl
   apply GJ.st2 7 rfl
   iterate 3 focus (intros;(conv=>lhs;simp only [Jj,JA,JX,JC,JU,eq_self,reduceEqDiff,reduceIte,reduceSub,reduceAdd,JxA,JxB]);all_goals rfl)
   ·
    intro gh X K zq zc zq2 zc2 zb zv hK;refine Jx fn66 rfl rfl fun w hH=>(l01Wrong_c hbt hbk (daV_ok hbk hA.hd hA.hn (nxS code ks9 3) (most:=5) (by omega)).wf (by have:=(daV_ok hbk hA.hd hA.hn (nxS code ks9 3) (most:=5) (by omega)).len;omega) hcl ((hH.front .z).front (.s .z))).mono ?_;rintro _ w ⟨qo34,co34,rfl,hH⟩;refine ⟨_,rfl,fun a hF=>JQ hF hH ?_⟩;refine Jo ?_;exact hK qo34 co34 zq2 zc2 zb zv
   ·
    intro gh gh' h;refine ⟨?_,?_,?_⟩ <;> (first | simp only [h 5 rfl] | rfl)
   apply EB 8 rfl
   iterate 3 focus (intros;(conv=>lhs;simp only [Jj,JA,JX,JC,JU,eq_self,reduceEqDiff,reduceIte,reduceSub,reduceAdd,JxA,JxB]);all_goals rfl)
   ·
    intro gh X K hK;refine Jr rfl rfl (by first | exact bytesC_one _ | exact intsC_one _ | exact Term.c_one _ | simp [Value.oneCell']) (by simpa [*] using sz27) (by simp [*]) At.z (Jo ?_);exact hK
   ·
    intro gh gh' h
    first | simp only [h 5 rfl,h 6 rfl] | rfl
   apply EB 9 rfl
   iterate 3 focus (intros;(conv=>lhs;simp only [Jj,JA,JX,JC,JU,eq_self,reduceEqDiff,reduceIte,reduceSub,reduceAdd,JxA,JxB]);all_goals rfl)
   ·
    intro gh X K hK;refine Jr rfl rfl (by first | exact bytesC_one _ | exact intsC_one _ | exact Term.c_one _ | simp [Value.oneCell']) (by simpa [*] using sz43) (by simp [*]) At.z (Jo ?_);exact hK
   ·
    intro gh gh' h
    first | simp only [h 5 rfl,h 6 rfl] | rfl
   apply Eu [0,1,2,3,4,5,6,7,8] [0,1,2,3,4,6,7,8,10,11,12] foll0 rfl rfl rfl (by rfl)
   iterate 2 focus (intros;(conv=>lhs;simp only [Jj,JA,JX,JC,JU,eq_self,reduceEqDiff,reduceIte,reduceSub,reduceAdd,JxA,JxB]);all_goals rfl)
   intro gh;generalize (gh 5).c=co33;generalize (gh 5).q=qo33;generalize (gh 6).c=co34;generalize (gh 6).q=qo34;clear gh;refine Ja (hK10 (Js (Eb rfl (Res.agg rfl (.s (.s .z)) (by simpa [*] using ag27)) (Res.agg rfl (.s (.s (.s .z))) (by simpa [*] using ag43)) fun w hH=>?_)));replace hH:=hH.sublist (.cons_cons _ (.cons _ (.cons _ (.cons _ (.cons_cons _ (.cons_cons _ (.cons _ (List.Sublist.refl _))))))));have h9:=wrV_len code (daS code ka9 (nxS code ks9 3) 5) (daV code ka9 (nxS code ks9 3) 5);have h8:=(daV_ok hbk hA.hd hA.hn (nxS code ks9 3) (most:=5) (by omega)).len;exact ⟨ka9,kf9,_,_,_,_,_,_,_,_,hk9,⟨wrV_wf hbk (daV_ok hbk hA.hd hA.hn (nxS code ks9 3) (most:=5) (by omega)).wf,by omega⟩,rfl,(hH.front (.s (.s .z))).front (.s (.s .z))⟩
theorem DrawLinearTable_c {B:World} {H0 H:HP} {L:List SA} {w:World} {qb:Option Addr} {cb:Nat} {code:List Int} (hbt:Bts H qb code) (hbk:BtOk code) (hcl:code.length≤1048576) (hH:Hp B H0 H L w):Calls Tryz.prog 5 [.slice qb code.length cb].toArray w fun e w'=>∃ad af qd cd qf cf vs,DrB ad af∧e = .returned (.agg [.slice qd ad.length cd,.slice qf af.length cf].toArray)∧Hp B H0 H (own 2 1 qd ad.length cd (intsC ad)::ownFs 43 52 qf cf vs af::L) w':=by
 refine JB Tryz.func5 rfl 6 rfl rfl [(0,.slice qb code.length cb)] rfl hH ?_;clear hH;refine Je fun _ hK1 _=>(Jb (JM ze27 rfl fun g2=>(Jf (Ja (hK1 (Je fun _ hK2 _=>(Jb (Jg (Jc rfl) rfl (Jx fn22 rfl rfl fun w hH=>(l01From_c hbt hbk hcl hH).mono ?_)))))))));rintro _ w ⟨gs,s0,rfl,hH⟩;refine ⟨_,rfl,fun a hF=>JQ hF hH ?_⟩;refine Jx fn21 rfl rfl fun w hH=>(l02Spoil_c hbt hbk (by omega) hcl (hH.front .z)).mono ?_;rintro _ w ⟨ka5,kf5,ks5,qd5,cd5,qf5,cf5,vs5,hk5,rfl,hH⟩;refine ⟨_,rfl,fun a hF=>JQ hF hH ?_⟩;refine Jr rfl rfl (by first | exact bytesC_one _ | exact intsC_one _ | exact Term.c_one _ | simp [Value.oneCell']) (by simpa [*] using sz27) (by simp [*]) (.s (.s (.s .z))) (Jf (Ja (hK2 (Js (Ju rfl (Res.agg rfl (.s (.s (.s .z))) (by simpa [*] using ag27)) fun w hH=>?_)))));replace hH:=hH.sublist (.cons_cons _ (.cons_cons _ (.cons _ (.cons _ (List.Sublist.refl _)))));exact ⟨_,_,_,_,_,_,_,hk5,rfl,hH⟩
theorem DrawWordLengthOf_c {B:World} {H0 H:HP} {L:List SA} {w:World} {qb:Option Addr} {cb:Nat} {code:List Int} (hbt:Bts H qb code) (hbk:BtOk code) (hcl:code.length≤1048576) (hH:Hp B H0 H L w):Calls Tryz.prog 17 [.slice qb code.length cb].toArray w fun e w'=>∃ad af f qd cd qf cf vs q c,DrB ad af∧(Wfs f∧f.length≤1048576)∧e = .returned (.tuple #[.agg [.slice qd ad.length cd,.slice qf af.length cf].toArray,.agg [.slice q f.length c].toArray])∧Hp B H0 H (own 2 1 qd ad.length cd (intsC ad)::ownFs 43 52 qf cf vs af::own 52 9 q f.length c (tsC f)::L) w':=by
 refine JB Tryz.func17 rfl 8 rfl rfl [(0,.slice qb code.length cb)] rfl hH ?_;clear hH;refine Je fun _ hK1 _=>(Jb (JM ze27 rfl fun g2=>(JM ze43 rfl fun g3=>(Jf (Ja (hK1 (Je fun _ hK2 _=>(Jb (Jg (Jc rfl) rfl (Jx fn36 rfl rfl fun w hH=>(l02Two_c hbt hbk hcl hH).mono ?_))))))))));rintro _ w ⟨ka5,kf5,kg5,qd5,cd5,qf5,cf5,vs5,qg5,cg5,hk5,hg5,rfl,hH⟩;refine ⟨_,rfl,fun a hF=>JQ hF hH ?_⟩;refine Jg (JJ rfl rfl) rfl (Jg (JJ rfl rfl) rfl (Jr rfl rfl (by first | exact bytesC_one _ | exact intsC_one _ | exact Term.c_one _ | simp [Value.oneCell']) (by simpa [*] using sz27) (by simp [*]) (.s (.s (.s (.s .z)))) (Jr rfl rfl (by first | exact bytesC_one _ | exact intsC_one _ | exact Term.c_one _ | simp [Value.oneCell']) (by simpa [*] using sz43) (by simp [*]) (.s (.s (.s .z))) (Jf (Ja (hK2 (Js (Eb rfl (Res.agg rfl (.s (.s (.s (.s .z)))) (by simpa [*] using ag27)) (Res.agg rfl (.s (.s (.s .z))) (by simpa [*] using ag43)) fun w hH=>?_))))))));replace hH:=hH.sublist (.cons_cons _ (.cons_cons _ (.cons_cons _ (.cons _ (.cons _ (List.Sublist.refl _))))));exact ⟨_,_,_,_,_,_,_,_,_,_,hk5,hg5,rfl,hH⟩
section
variable {P : Program} {ops : Array Oper} {Q : Exit → Act → World → Prop} {n : Nat} {B : World} {H0 H : HP} {rest : List Oper} {us : List (Nat × Value)} {L L' : List SA} {t : TypeId} {p : String} {af : Array Edge} {d : Nat} {x y : Operand}
theorem all_range_int : ∀(xs ys:List Int),xs.length=ys.length→((List.range xs.length).all fun i=>xs.getD i 0 == ys.getD i 0)=(xs == ys)
 | [], [],_=>rfl
 | x::xs,y::ys,h=>by
  have ih:=all_range_int xs ys (by simpa using h)
  rw [List.length_cons,List.range_succ_eq_map,List.all_cons,List.all_map]
  simp only [List.getD_cons_zero,Function.comp_def,List.getD_cons_succ,ih]
  simp [List.cons_beq_cons]
 | [],_::_,h=>by simp at h
 | _::_, [],h=>by simp at h
theorem run_equalIn_u8 (w:World) (d:Nat) (t e:TypeId) (n:Nat) (ht:P.underlying t=some (.array n e)) (he:P.underlying e=some (.int .u8)) (hsz : ∀w,(sizeOf e).run P w = .ok 1 w) (xs ys:List Int) (hx:xs.length=n) (hy:ys.length=n):(Op.equalIn (d+2) t (.agg (bytesC xs).toArray) (.agg (bytesC ys).toArray)).run P w = .ok (decide (xs=ys)) w:=by
 rw [show decide (xs=ys)=(xs == ys) from by rw [Bool.eq_iff_iff];simp,← all_range_int xs ys (hx.trans hy.symm),hx,List.range_eq_range',Op.equalIn];simp only [Sem.run_bind,run_underlying ht,Result.andThen_ok,hsz,Std.Legacy.Range.forIn_eq_forIn_range',Std.Legacy.Range.size,Nat.sub_zero,Nat.add_sub_cancel,Nat.div_one]
 have hl : ∀i∈List.range' 0 n 1,i<n:=fun i hi=>by simpa using (List.mem_range'_1.1 hi).2
 generalize List.range' 0 n 1=l at hl ⊢
 induction l with
 | nil=>simp
 | cons i l ih=>
  have hi:i<n:=hl i (by simp)
  have px:(_root_.Go.part e (bytesC xs).toArray (i * 1)).run P w = .ok (.int .u8 (xs.getD i 0)) w:=by
   simp [_root_.Go.part,isAgg,run_underlying he,bytesC,List.getD,List.getElem?_eq_getElem (show i<xs.length by omega)]
  have py:(_root_.Go.part e (bytesC ys).toArray (i * 1)).run P w = .ok (.int .u8 (ys.getD i 0)) w:=by
   simp [_root_.Go.part,isAgg,run_underlying he,bytesC,List.getD,List.getElem?_eq_getElem (show i<ys.length by omega)]
  have pe:(Op.equalIn (d+1) e (.int .u8 (xs.getD i 0)) (.int .u8 (ys.getD i 0))).run P w = .ok (xs.getD i 0 == ys.getD i 0) w:=run_equalIn_int w d e .u8 .u8 _ _ he;simp only [List.forIn_cons,Sem.run_bind,px,py,pe,Result.andThen_ok,List.all_cons]
  cases hb:(xs.getD i 0 == ys.getD i 0)
  ·simp
  ·simp only [Bool.not_true,Bool.false_eq_true,if_false,Sem.run_pure,Result.andThen_ok,Bool.true_and];exact ih fun j hj=>hl j (by simp [hj])
end
section
variable {P : Program} {ops : Array Oper} {Q : Exit → Act → World → Prop} {n : Nat} {B : World} {H0 H : HP} {rest : List Oper} {us : List (Nat × Value)} {L L' : List SA} {t xt yt : TypeId} {p : String} {af : Array Edge} {d : Nat} {x y z : Operand}
theorem Size.sz {e:TypeId} {k:Nat} (hs:Size P e k) (w:World):(sizeOf e).run P w = .ok k w:=by
 unfold Size at hs;obtain ⟨i,h1,h2⟩:=Option.map_eq_some_iff.1 hs
 simp [sizeOf,typeInfo,h1,h2]
theorem term_eq (a b:Term):((a.mono=b.mono)∧a.fac=b.fac)↔a=b:=by
 cases a
 cases b
 simp
theorem PR.neqT {tm ti e:TypeId} {a b:Term} {f1 f2:Field} (ht:P.underlying xt=some (.struct (P.fieldsOf xt))) (hp:P.stoodInHeld xt=false) (hfs:(P.fieldsOf xt).toList=[f1,f2]) (n1:f1.name≠ "_") (t1:f1.type=tm) (o1:f1.offset=0) (n2:f2.name≠ "_") (t2:f2.type=ti) (o2:f2.offset=8)
 (hm:P.underlying tm=some (.array 8 e)) (he:P.underlying e=some (.int .u8)) (hs1:Size P e 1) (hs8:Size P tm 8) (hi:P.underlying ti=some (.int .i64)) (hg:P.eqGuardType P.depth xt=false) (hx:opv us x=some (.agg a.c.toArray)) (hy:opv us y=some (.agg b.c.toArray)) (ha:a.wf) (hb:b.wf) :
 PR P n B H0 us H L (.binOp .neq xt x y yt) t (.bool (!decide (a=b))):=
 fun _ _ _ _ ac w hF _=>by
  have la:a.mono.length=8:=ha.mono.len
  have lb:b.mono.length=8:=hb.mono.len
  have pm : ∀c:Term,c.mono.length=8→∀w,(_root_.Go.part tm c.c.toArray 0).run P w = .ok (.agg (bytesC c.mono).toArray) w:=fun c hc w=>by
   have e1:List.take 8 c.c=bytesC c.mono:=by
    unfold Term.c
    rw [List.take_append_of_le_length (by simp [bytesC,hc]),List.take_of_length_le (by simp [bytesC,hc])]
   simp [_root_.Go.part,isAgg,run_underlying hm,hs8.sz,e1]
  have pf : ∀c:Term,c.mono.length=8→∀w,(_root_.Go.part ti c.c.toArray 8).run P w = .ok (.int .i64 c.fac) w:=fun c hc w=>by
   have e1:(c.c.toArray)[8]? = some (.int .i64 c.fac):=by
    unfold Term.c
    simp [bytesC,hc]
   simp [_root_.Go.part,isAgg,run_underlying hi,e1]
  have q1:=run_equalIn_u8 (P:=P) w 9997 tm e 8 hm he (fun w=>hs1.sz w) a.mono b.mono la lb
  have q2:=run_equalIn_int (P:=P) w 9998 ti .i64 .i64 a.fac b.fac hi
  have q0:=run_equalIn_struct (P:=P) w 9999 xt a.c.toArray b.c.toArray ht hp
  have key:(Op.eqFields 9999 a.c.toArray b.c.toArray (P.fieldsOf xt).toList).run P w = .ok (decide (a=b)) w:=by
   rw [hfs]
   simp only [Op.eqFields,t1,o1,t2,o2]
   rw [if_pos n1]
   simp only [Sem.run_bind,pm a la,pm b lb,Result.andThen_ok,q1]
   by_cases hmm:a.mono=b.mono
   ·rw [decide_eq_true hmm]
    simp only [Bool.not_true,Bool.false_eq_true,if_false]
    rw [if_pos n2]
    simp only [Sem.run_bind,pf a la,pf b lb,Result.andThen_ok,q2]
    have e:decide (a=b)=(a.fac == b.fac):=by
     rw [Bool.eq_iff_iff]
     simp only [decide_eq_true_eq,beq_iff_eq]
     rw [← term_eq]
     exact ⟨fun h=>h.2,fun h=>⟨hmm,h⟩⟩
    rw [e]
    cases (a.fac == b.fac) <;> simp
   ·rw [decide_eq_false hmm]
    have e:decide (a=b)=false:=decide_eq_false fun h=>hmm (by rw [h])
    rw [e]
    simp
  rw [key] at q0
  simp [execOp,hF.ev hx,hF.ev hy,run_eqGuard_agg w .neq xt x y _ _ hg,run_neq_struct,q0]
end
theorem eg52:Tryz.prog.eqGuardType Tryz.prog.depth 52=false:=by kernel_rfl
theorem fn16:Fn Tryz.prog 16:=⟨_,Tryz.func16,by kernel_rfl,rfl⟩
theorem fn31:Fn Tryz.prog 31:=⟨_,Tryz.func31,by kernel_rfl,rfl⟩
theorem uf52:Tryz.prog.underlying 52=some (.struct (Tryz.prog.fieldsOf 52)):=by kernel_rfl
theorem sh52:Tryz.prog.stoodInHeld 52=false:=by kernel_rfl
theorem fl52:(Tryz.prog.fieldsOf 52).toList=[{name:="Monomial",type:=50,offset:=0,embedded:=false,tag:="",pkgPath:="",byteOffset:=0},{name:="Factor",type:=2,offset:=8,embedded:=false,tag:="",pkgPath:="",byteOffset:=8}]:=by kernel_rfl
def sumI:List Int→Int
 | []=>0
 | x::xs=>x+sumI xs
theorem sumI_app (x:Int) : ∀xs:List Int,sumI (xs++[x])=sumI xs+x
 | []=>by simp [sumI]
 | y::ys=>by
  simp only [JxA,sumI,sumI_app x ys]
  omega
theorem sumI_take {xs:List Int} {k:Nat} (hk:k<xs.length):sumI (xs.take (k+1))=sumI (xs.take k)+xs.getD k 0:=by
 rw [List.take_succ_eq_append_getElem hk,sumI_app,List.getD_eq_getElem?_getD,List.getElem?_eq_getElem hk]
 rfl
theorem sumI_bd {xs:List Int} {M:Int} (h : ∀k,0≤xs.getD k 0∧xs.getD k 0≤M) : ∀k:Nat,0≤sumI (xs.take k)∧sumI (xs.take k)≤(k:Int) * M
 | 0=>by simp [sumI]
 | k+1=>by
  have ih:=sumI_bd h k
  have hk:=h k
  have e:((k+1:Nat):Int) * M=(k:Int) * M+M:=by rw [Int.natCast_succ,Int.add_mul,Int.one_mul]
  rcases Nat.lt_or_ge k xs.length with h1 | h1
  ·rw [sumI_take h1,e]
   omega
  ·rw [List.take_of_length_le (by omega:xs.length≤k+1),e]
   rw [List.take_of_length_le h1] at ih
   omega
theorem big_c {B:World} {H0 H:HP} {L:List SA} {w:World} {qb:Option Addr} {cb:Nat} {code:List Int} (hbt:Bts H qb code) (hbk:BtOk code) (hH:Hp B H0 H L w):Calls Tryz.prog 4 [.slice qb code.length cb].toArray w fun e w'=>e = .returned (.bool (decide ((4096:Int)<(code.length:Int))))∧Hp B H0 H L w':=by
 refine JB Tryz.func4 rfl 6 rfl rfl [(0,.slice qb code.length cb)] rfl hH ?_;clear hH;refine Je fun _ hK1 _=>(Jb (Jg (Jd rfl) rfl (Jf (Ja (hK1 (Je fun _ hK2 _=>(Jb (Jg (Jc rfl) rfl (Jg (Jq u22 rfl rfl) rfl (Jg (Em rfl rfl) rfl (Jg (Jd rfl) rfl (Jf (Ja (hK2 (Js (Ju rfl (Res.tmp rfl) fun w hH=>?_))))))))))))))));exact ⟨rfl,hH⟩
theorem likeInts_c {B:World} {H0 H:HP} {L:List SA} {w:World} {qxs:Option Addr} {cxs:Nat} {xs:List Int} {qys:Option Addr} {cys:Nat} {ys:List Int} (hxs:Ints H qxs xs) (hys:Ints H qys ys) (hn:xs.length≤1048576) (hH:Hp B H0 H L w):Calls Tryz.prog 16 [.slice qxs xs.length cxs,.slice qys ys.length cys].toArray w fun e w'=>e = .returned (.bool (decide (xs=ys)))∧Hp B H0 H L w':=by
 refine JB Tryz.func16 rfl 26 rfl rfl [(0,.slice qxs xs.length cxs),(1,.slice qys ys.length cys)] rfl hH ?_;clear hH;refine Je fun _ hK1 _=>(Jb (Jg (Jd rfl) rfl (Jf (Ja (hK1 (Je fun _ hK2 _=>(Je fun _ hK3 _=>(Jb (Jg (Jc rfl) rfl (Jg (Jq u24 rfl rfl) rfl (Jg (Jc rfl) rfl (Jg (Jq u24 rfl rfl) rfl (Jg (En rfl rfl) rfl (Jf (Ja (hK3 ?_))))))))))))))));refine Jm rfl (fun h10=>?_) (fun h10=>?_)
 ·
  refine Je fun _ hK4 _=>(Jb (Jg (Jd rfl) rfl (Jf (Ja (hK4 (Js (Ji (Ju rfl (Res.tmp rfl) fun w hH=>?_))))))));exact ⟨rb (decide_eq_false (fun e=>h10 (by rw [e]))).symm,hH⟩
 ·
  refine Jk (Ja (hK2 (Je fun _ hK5 _=>(Je fun _ hK6 _=>(Jb (Jg (Jd rfl) rfl (Jf (Ja (hK6 (Jp (JH (σ:=Nat) (fun (k:Nat)=>[(5,.int .i64 (k:Int))]) (fun (k:Nat)=>H) (fun (k:Nat)=>L) (fun (k:Nat)=>k≤xs.length∧∀j,j<k→xs.getD j 0=ys.getD j 0) (fun (k:Nat)=>xs.length - k) 0 ⟨by omega,fun j hj=>by omega⟩ ⟨rfl,trivial⟩ rfl rfl ?_)))))))))));rintro k hI _ hAg0;have hk:=hI.1;refine Je fun _ hK7 _=>(Je fun _ hK8 _=>(Jb (Jg (Jc rfl) rfl (Jg (Jc rfl) rfl (Jg (Jq u24 rfl rfl) rfl (Jg (JV rfl rfl) rfl (Jf (Ja (hK8 (Jm rfl (fun hc14=>?_) (fun hc14=>?_)))))))))))
  ·
   refine Jk (Ja (hK7 (Je fun _ hK9 _=>(Jp (Je fun _ hK10 _=>(Ey foll0 (by kernel_rfl) (JG (Jc rfl) rfl (JG (Jc rfl) rfl (JG (JY u24 sz2 rfl rfl rfl (by omega) hxs.sm) rfl (JG (JR rfl (hxs _ (by omega)) pl2) rfl (JG (Jc rfl) rfl (JG (Jc rfl) rfl (JG (JY u24 sz2 rfl rfl rfl (by omega) hys.sm) rfl (JG (JR rfl (hys _ (by omega)) pl2) rfl (JG (En rfl rfl) rfl ?_)))))))))))))));refine Ee (Ja (hK10 (Jm rfl (fun h25=>?_) (fun h25=>?_))))
   ·
    refine Je fun _ hK11 _=>(Jb (Jg (Jd rfl) rfl (Jf (Ja (hK11 (Js (JL (Ji (Ji (JL (Ji (Ju rfl (Res.tmp rfl) fun w hH=>?_))))))))))));exact ⟨rb (decide_eq_false (fun e=>h25 (by rw [e]))).symm,hH⟩
   ·
    refine Jk (JD (Ja (hK9 (Jb (Jg (Jc rfl) rfl (Jg (Jy rfl rfl (by first | exact nw _ (by omega) | rfl)) rfl (Jg (Jd rfl) rfl (Jf (Ja ?_)))))))));exact hAg0 (k+1) ⟨by omega,upto hI.2 (by omega)⟩ (by omega) 17 rfl rfl ⟨rfl,trivial⟩ rfl rfl
  ·
   refine JI (Jl (Jl (JT (Ja (hK5 (Je fun _ hK12 _=>(Jb (Jg (Jd rfl) rfl (Jf (Ja (hK12 (Js (Ju rfl (Res.tmp rfl) fun w hH=>?_)))))))))))));exact ⟨rb (decide_eq_true (list_eq_of (by omega) (fun j hj=>hI.2 j (by omega)))).symm,hH⟩
theorem sum_c {B:World} {H0 H:HP} {L:List SA} {w:World} {qxs:Option Addr} {cxs:Nat} {xs:List Int} (hxs:Ints H qxs xs) (hn:xs.length≤1000) (hv : ∀k,0≤xs.getD k 0∧xs.getD k 0≤1000000) (hH:Hp B H0 H L w):Calls Tryz.prog 20 [.slice qxs xs.length cxs].toArray w fun e w'=>e = .returned (.int .i64 (sumI xs))∧Hp B H0 H L w':=by
 refine JB Tryz.func20 rfl 18 rfl rfl [(0,.slice qxs xs.length cxs)] rfl hH ?_;clear hH;have hsb:=sumI_bd hv;refine Je fun _ hK1 _=>(Jb (Jg (Jd rfl) rfl (Jf (Ja (hK1 (Je fun _ hK2 _=>(Jb (Jg (Jd rfl) rfl (Jf (Ja (hK2 (Je fun _ hK3 _=>(Je fun _ hK4 _=>(Jb (Jg (Jd rfl) rfl (Jf ?_))))))))))))))));refine Ja (hK4 (Jp (JH (σ:=Nat) (fun (k:Nat)=>[(4,.int .i64 (k:Int)),(3,.int .i64 (sumI (xs.take k)))]) (fun (k:Nat)=>H) (fun (k:Nat)=>L) (fun (k:Nat)=>k≤xs.length) (fun (k:Nat)=>xs.length - k) 0 (by omega) ⟨rfl,⟨rfl,trivial⟩⟩ rfl rfl ?_)));rintro k hk _ hAg0;refine Je fun _ hK5 _=>(Je fun _ hK6 _=>(Jb (Jg (Jc rfl) rfl (Jg (Jc rfl) rfl (Jg (Jq u24 rfl rfl) rfl (Jg (JV rfl rfl) rfl (Jf (Ja (hK6 (Jm rfl (fun h8=>?_) (fun h8=>?_)))))))))))
 ·
  have hk1:k<xs.length:=by omega
  have hsk:=hsb k;have hvk:=hv k;refine Jk (Ja (hK5 (Je fun _ hK7 _=>(Jp (Jb (Jg (Jc rfl) rfl (Jg (Jc rfl) rfl (Jg (Jc rfl) rfl (Jg (JY u24 sz2 rfl rfl rfl hk1 hxs.sm) rfl (Jg (JR rfl (hxs _ hk1) pl2) rfl (Jg (Jy rfl rfl (nw _ (by omega))) rfl (Jg (Jd rfl) rfl (Jf (JD (Ja (hK7 ?_))))))))))))))));refine Jb (Jg (Jc rfl) rfl (Jg (Jy rfl rfl (by first | exact nw _ (by omega) | rfl)) rfl (Jg (Jd rfl) rfl (Jf (Ja ?_)))));exact hAg0 (k+1) (by show k+1≤xs.length;omega) (by show xs.length - (k+1)<xs.length - k;omega) 16 rfl rfl ⟨rfl,⟨(congrArg (fun z=>some (Value.int .i64 z)) (sumI_take hk1).symm),trivial⟩⟩ rfl rfl
 ·
  refine JI (Jl (Jl (JT (Ja (hK3 (Je fun _ hK8 _=>(Jb (Jg (Jc rfl) rfl (Jg (Jd rfl) rfl (Jf (Ja (hK8 (Js (Ju rfl (Res.tmp rfl) fun w hH=>?_))))))))))))))
  obtain rfl:k=xs.length:=by omega
  rw [List.take_length];exact ⟨rfl,hH⟩
theorem rows9_c {B:World} {H0 H:HP} {L:List SA} {w:World} {qxs:Option Addr} {cxs:Nat} {xs:List (List Int)} {qys:Option Addr} {cys:Nat} {ys:List (List Int)} (hxs:RowsR H qxs xs) (hys:RowsR H qys ys) (hn:xs.length≤9223372036854775807) (hf : ∀i,i<xs.length→(rw_ xs i).length≤1048576) (hH:Hp B H0 H L w):Calls Tryz.prog 8 [.slice qxs xs.length cxs,.slice qys ys.length cys].toArray w fun e w'=>e = .returned (.bool (decide (xs=ys)))∧Hp B H0 H L w':=by
 refine JB Tryz.func8 rfl 27 rfl rfl [(0,.slice qxs xs.length cxs),(1,.slice qys ys.length cys)] rfl hH ?_;clear hH;refine Je fun _ hK1 _=>(Jb (Jg (Jd rfl) rfl (Jf (Ja (hK1 (Je fun _ hK2 _=>(Je fun _ hK3 _=>(Jb (Jg (Jc rfl) rfl (Jg (Jq u29 rfl rfl) rfl (Jg (Jc rfl) rfl (Jg (Jq u29 rfl rfl) rfl (Jg (En rfl rfl) rfl (Jf (Ja (hK3 ?_))))))))))))))));refine Jm rfl (fun h10=>?_) (fun h10=>?_)
 ·
  refine Je fun _ hK4 _=>(Jb (Jg (Jd rfl) rfl (Jf (Ja (hK4 (Js (Ji (Ju rfl (Res.tmp rfl) fun w hH=>?_))))))));exact ⟨rb (decide_eq_false (fun e=>h10 (by rw [e]))).symm,hH⟩
 ·
  refine Jk (Ja (hK2 (Je fun _ hK5 _=>(Je fun _ hK6 _=>(Jb (Jg (Jd rfl) rfl (Jf (Ja (hK6 (Jp (JH (σ:=Nat) (fun (k:Nat)=>[(5,.int .i64 (k:Int))]) (fun (k:Nat)=>H) (fun (k:Nat)=>L) (fun (k:Nat)=>k≤xs.length∧∀j,j<k→rw_ xs j=rw_ ys j) (fun (k:Nat)=>xs.length - k) 0 ⟨by omega,fun j hj=>by omega⟩ ⟨rfl,trivial⟩ rfl rfl ?_)))))))))));rintro k hI _ hAg0;have hk:=hI.1;refine Je fun _ hK7 _=>(Je fun _ hK8 _=>(Jb (Jg (Jc rfl) rfl (Jg (Jc rfl) rfl (Jg (Jq u29 rfl rfl) rfl (Jg (JV rfl rfl) rfl (Jf (Ja (hK8 (Jm rfl (fun hc14=>?_) (fun hc14=>?_)))))))))))
  ·
   refine Jk (Ja (hK7 (Je fun _ hK9 _=>(Jp (Je fun _ hK10 _=>(Et [[], [], [0,1], [2], [], [], [4,5], [6]] (by kernel_rfl) (Jz (fun gh=>Jc rfl) (Jz (fun gh=>Jc rfl) (Jz (fun gh=>JY u29 sz24 rfl rfl rfl (by omega) hxs.sm) ?_)))))))));obtain ⟨qe20,ce20,he20,le20,Fe20⟩:=hxs k (by omega);refine Jz (fun gh=>JR rfl he20 pl24) (Jz (fun gh=>Jc rfl) (Jz (fun gh=>Jc rfl) (Jz (fun gh=>JY u29 sz24 rfl rfl rfl (by omega) hys.sm) ?_)));obtain ⟨qe24,ce24,he24,le24,Fe24⟩:=hys k (by omega);refine Jz (fun gh=>JR rfl he24 pl24) (Ec 8 1 foll0 (by kernel_rfl) rfl rfl fun gh=>(Er (us':=(17,_)::(18,_)::(19,_)::(20,_)::(21,_)::(22,_)::(23,_)::(24,_)::_) (L':=_) rfl rfl (Jx fn16 rfl rfl fun w hH=>(likeInts_c Fe20 Fe24 (hf k (by omega)) hH).mono ?_)));rintro _ w ⟨rfl,hH⟩;refine ⟨_,rfl,fun a hF=>JQ hF hH ?_⟩;refine Jf (Ed (JG (Es rfl) rfl (Ee (Ja (hK10 (Ei rfl (fun h26=>?_) (fun h26=>?_)))))))
   ·
    refine Je fun _ hK11 _=>(Jb (Jg (Jd rfl) rfl (Jf (Ja (hK11 (Js (JL (Ji (Ji (JL (Ji (Ju rfl (Res.tmp rfl) fun w hH=>?_))))))))))));exact ⟨rb (decide_eq_false (fun e=>(by rw [e] at h26;simp at h26))).symm,hH⟩
   ·
    refine Jk (JD (Ja (hK9 (Jb (Jg (Jc rfl) rfl (Jg (Jy rfl rfl (by first | exact nw _ (by omega) | rfl)) rfl (Jg (Jd rfl) rfl (Jf (Ja ?_)))))))));exact hAg0 (k+1) ⟨by omega,upto hI.2 (of_decide_eq_true (notf h26))⟩ (by omega) 18 rfl rfl ⟨rfl,trivial⟩ rfl rfl
  ·
   refine JI (Jl (Jl (JT (Ja (hK5 (Je fun _ hK12 _=>(Jb (Jg (Jd rfl) rfl (Jf (Ja (hK12 (Js (Ju rfl (Res.tmp rfl) fun w hH=>?_)))))))))))));exact ⟨rb (decide_eq_true (rows_eq_of (by omega) (fun j hj=>hI.2 j (by omega)))).symm,hH⟩
theorem form9_c {B:World} {H0 H:HP} {L:List SA} {w:World} {qxs:Option Addr} {cxs:Nat} {xs:List Term} {qys:Option Addr} {cys:Nat} {ys:List Term} (hxs:Terms H qxs xs) (hys:Terms H qys ys) (hn:xs.length≤9223372036854775807) (hH:Hp B H0 H L w):Calls Tryz.prog 31 [.agg [.slice qxs xs.length cxs].toArray,.agg [.slice qys ys.length cys].toArray].toArray w fun e w'=>e = .returned (.bool (decide (xs=ys)))∧Hp B H0 H L w':=by
 refine JB Tryz.func31 rfl 31 rfl rfl [(0,.agg [.slice qxs xs.length cxs].toArray),(1,.agg [.slice qys ys.length cys].toArray)] rfl hH ?_;clear hH;refine Je fun _ hK1 _=>(Jb (Eg rfl rfl rfl fun g2=>(Eg rfl rfl rfl fun g3=>(Jg (Jd rfl) rfl (Jf (Ja (hK1 (Je fun _ hK2 _=>(Je fun _ hK3 _=>(Jb (Jg (Jt u43 rfl sz41 rfl) rfl (Jg (Jv rfl (.s .z) rfl pl41) rfl (Jg (Jq u41 rfl rfl) rfl (Jg (Jt u43 rfl sz41 rfl) rfl (Jg (Jv rfl At.z rfl pl41) rfl ?_)))))))))))))));refine Jg (Jq u41 rfl rfl) rfl (Jg (En rfl rfl) rfl (Jf (Ja (hK3 (Jm rfl (fun h12=>?_) (fun h12=>?_))))))
 ·
  refine Je fun _ hK4 _=>(Jb (Jg (Jd rfl) rfl (Jf (Ja (hK4 (Js (Ji (Ju rfl (Res.tmp rfl) fun w hH=>?_))))))));replace hH:=hH.tail;replace hH:=hH.tail;exact ⟨rb (decide_eq_false (fun e=>h12 (by rw [e]))).symm,hH⟩
 ·
  refine Jk (Ja (hK2 (Je fun _ hK5 _=>(Je fun _ hK6 _=>(Jb (Jg (Jd rfl) rfl (Jf (Ja (hK6 (Jp (JH (σ:=Nat) (fun (k:Nat)=>[(5,.int .i64 (k:Int))]) (fun (k:Nat)=>H) (fun (k:Nat)=>obj g3 (.cells [.slice qys ys.length cys].toArray 43 (0,0))::obj g2 (.cells [.slice qxs xs.length cxs].toArray 43 (0,0))::L) (fun (k:Nat)=>k≤xs.length∧∀j,j<k→tm xs j=tm ys j) (fun (k:Nat)=>xs.length - k) 0 ⟨by omega,fun j hj=>by omega⟩ ⟨rfl,trivial⟩ rfl rfl ?_)))))))))));rintro k hI _ hAg0;have hk:=hI.1;refine Je fun _ hK7 _=>(Je fun _ hK8 _=>(Jb (Jg (Jc rfl) rfl (Jg (Jt u43 rfl sz41 rfl) rfl (Jg (Jv rfl (.s .z) rfl pl41) rfl (Jg (Jq u41 rfl rfl) rfl (Jg (JV rfl rfl) rfl (Jf (Ja (hK8 (Jm rfl (fun hc17=>?_) (fun hc17=>?_))))))))))))
  ·
   refine Jk (Ja (hK7 (Je fun _ hK9 _=>(Jp (Je fun _ hK10 _=>(Ey foll0 (by kernel_rfl) (JG (Jt u43 rfl sz41 rfl) rfl (JG (Jv rfl (.s .z) rfl pl41) rfl (JG (Jc rfl) rfl (JG (Eo u41 sz52 rfl rfl rfl (by omega) hxs.sm) rfl (JG (JO rfl (hxs.cell _ (by omega)) (hxs.sm (i:=k) (by omega)) (by rw [Term.c_length (hxs.wf _ (by omega))];exact ag52)) rfl (JG (Jt u43 rfl sz41 rfl) rfl (JG (Jv rfl At.z rfl pl41) rfl (JG (Jc rfl) rfl (JG (Eo u41 sz52 rfl rfl rfl (by omega) hys.sm) rfl ?_)))))))))))))));refine JG (JO rfl (hys.cell _ (by omega)) (hys.sm (i:=k) (by omega)) (by rw [Term.c_length (hys.wf _ (by omega))];exact ag52)) rfl (JG (PR.neqT uf52 sh52 fl52 (by decide) rfl rfl (by decide) rfl rfl u50 u5 sz5 sz50 u2 eg52 rfl rfl (hxs.wf k (by omega)) (hys.wf k (by omega))) rfl (Ee (Ja (hK10 (Ei rfl (fun h30=>?_) (fun h30=>?_))))))
   ·
    refine Je fun _ hK11 _=>(Jb (Jg (Jd rfl) rfl (Jf (Ja (hK11 (Js (JL (Ji (Ji (JL (Ji (Ju rfl (Res.tmp rfl) fun w hH=>?_))))))))))));replace hH:=hH.tail;replace hH:=hH.tail;exact ⟨rb (decide_eq_false (fun e=>(by rw [e] at h30;simp at h30))).symm,hH⟩
   ·
    refine Jk (JD (Ja (hK9 (Jb (Jg (Jc rfl) rfl (Jg (Jy rfl rfl (by first | exact nw _ (by omega) | rfl)) rfl (Jg (Jd rfl) rfl (Jf (Ja ?_)))))))));exact hAg0 (k+1) ⟨by omega,upto hI.2 (of_decide_eq_true (notf h30))⟩ (by omega) 20 rfl rfl ⟨rfl,trivial⟩ rfl rfl
  ·
   refine JI (Jl (Jl (JT (Ja (hK5 (Je fun _ hK12 _=>(Jb (Jg (Jd rfl) rfl (Jf (Ja (hK12 (Js (Ju rfl (Res.tmp rfl) fun w hH=>?_)))))))))))));replace hH:=hH.tail;replace hH:=hH.tail;exact ⟨rb (decide_eq_true (terms_eq_of (by omega) (fun j hj=>hI.2 j (by omega)))).symm,hH⟩
theorem forms9_c {B:World} {H0 H:HP} {L:List SA} {w:World} {qxs:Option Addr} {cxs:Nat} {xs:List (List Term)} {qys:Option Addr} {cys:Nat} {ys:List (List Term)} (hxs:Forms H qxs xs) (hys:Forms H qys ys) (hn:xs.length≤9223372036854775807) (hf : ∀i,i<xs.length→(fm xs i).length≤9223372036854775807) (hH:Hp B H0 H L w):Calls Tryz.prog 11 [.slice qxs xs.length cxs,.slice qys ys.length cys].toArray w fun e w'=>e = .returned (.bool (decide (xs=ys)))∧Hp B H0 H L w':=by
 refine JB Tryz.func11 rfl 27 rfl rfl [(0,.slice qxs xs.length cxs),(1,.slice qys ys.length cys)] rfl hH ?_;clear hH;refine Je fun _ hK1 _=>(Jb (Jg (Jd rfl) rfl (Jf (Ja (hK1 (Je fun _ hK2 _=>(Je fun _ hK3 _=>(Jb (Jg (Jc rfl) rfl (Jg (Jq u25 rfl rfl) rfl (Jg (Jc rfl) rfl (Jg (Jq u25 rfl rfl) rfl (Jg (En rfl rfl) rfl (Jf (Ja (hK3 ?_))))))))))))))));refine Jm rfl (fun h10=>?_) (fun h10=>?_)
 ·
  refine Je fun _ hK4 _=>(Jb (Jg (Jd rfl) rfl (Jf (Ja (hK4 (Js (Ji (Ju rfl (Res.tmp rfl) fun w hH=>?_))))))));exact ⟨rb (decide_eq_false (fun e=>h10 (by rw [e]))).symm,hH⟩
 ·
  refine Jk (Ja (hK2 (Je fun _ hK5 _=>(Je fun _ hK6 _=>(Jb (Jg (Jd rfl) rfl (Jf (Ja (hK6 (Jp (JH (σ:=Nat) (fun (k:Nat)=>[(5,.int .i64 (k:Int))]) (fun (k:Nat)=>H) (fun (k:Nat)=>L) (fun (k:Nat)=>k≤xs.length∧∀j,j<k→fm xs j=fm ys j) (fun (k:Nat)=>xs.length - k) 0 ⟨by omega,fun j hj=>by omega⟩ ⟨rfl,trivial⟩ rfl rfl ?_)))))))))));rintro k hI _ hAg0;have hk:=hI.1;refine Je fun _ hK7 _=>(Je fun _ hK8 _=>(Jb (Jg (Jc rfl) rfl (Jg (Jc rfl) rfl (Jg (Jq u25 rfl rfl) rfl (Jg (JV rfl rfl) rfl (Jf (Ja (hK8 (Jm rfl (fun hc14=>?_) (fun hc14=>?_)))))))))))
  ·
   refine Jk (Ja (hK7 (Je fun _ hK9 _=>(Jp (Je fun _ hK10 _=>(Et [[], [], [0,1], [2], [], [], [4,5], [6]] (by kernel_rfl) (Jz (fun gh=>Jc rfl) (Jz (fun gh=>Jc rfl) (Jz (fun gh=>JY u25 sz43 rfl rfl rfl (by omega) hxs.sm) ?_)))))))));obtain ⟨qe20,ce20,he20,le20,Fe20⟩:=hxs k (by omega);refine Jz (fun gh=>JO (cs:=[_]) rfl (one_cell he20) (hxs.sm (i:=k) (by omega)) ag43) (Jz (fun gh=>Jc rfl) (Jz (fun gh=>Jc rfl) (Jz (fun gh=>JY u25 sz43 rfl rfl rfl (by omega) hys.sm) ?_)));obtain ⟨qe24,ce24,he24,le24,Fe24⟩:=hys k (by omega);refine Jz (fun gh=>JO (cs:=[_]) rfl (one_cell he24) (hys.sm (i:=k) (by omega)) ag43) (Ec 8 1 foll0 (by kernel_rfl) rfl rfl fun gh=>(Er (us':=(17,_)::(18,_)::(19,_)::(20,_)::(21,_)::(22,_)::(23,_)::(24,_)::_) (L':=_) rfl rfl (Jx fn31 rfl rfl fun w hH=>(form9_c Fe20 Fe24 (hf k (by omega)) hH).mono ?_)));rintro _ w ⟨rfl,hH⟩;refine ⟨_,rfl,fun a hF=>JQ hF hH ?_⟩;refine Jf (Ed (JG (Es rfl) rfl (Ee (Ja (hK10 (Ei rfl (fun h26=>?_) (fun h26=>?_)))))))
   ·
    refine Je fun _ hK11 _=>(Jb (Jg (Jd rfl) rfl (Jf (Ja (hK11 (Js (JL (Ji (Ji (JL (Ji (Ju rfl (Res.tmp rfl) fun w hH=>?_))))))))))));exact ⟨rb (decide_eq_false (fun e=>(by rw [e] at h26;simp at h26))).symm,hH⟩
   ·
    refine Jk (JD (Ja (hK9 (Jb (Jg (Jc rfl) rfl (Jg (Jy rfl rfl (by first | exact nw _ (by omega) | rfl)) rfl (Jg (Jd rfl) rfl (Jf (Ja ?_)))))))));exact hAg0 (k+1) ⟨by omega,upto hI.2 (of_decide_eq_true (notf h26))⟩ (by omega) 18 rfl rfl ⟨rfl,trivial⟩ rfl rfl
  ·
   refine JI (Jl (Jl (JT (Ja (hK5 (Je fun _ hK12 _=>(Jb (Jg (Jd rfl) rfl (Jf (Ja (hK12 (Js (Ju rfl (Res.tmp rfl) fun w hH=>?_)))))))))))));exact ⟨rb (decide_eq_true (forms_eq_of (by omega) (fun j hj=>hI.2 j (by omega)))).symm,hH⟩
theorem sumI_pos : ∀{r:List Int},(∀x∈r,0≤x)→0≤sumI r∧(0<sumI r↔anyN r=true)
 | [],_=>by simp [sumI,anyN]
 | x::r,h=>by
  obtain ⟨h1,h2⟩:=sumI_pos (r:=r) fun y hy=>h y (List.mem_cons_of_mem _ hy)
  have hx:=h x List.mem_cons_self
  unfold anyN at h2 ⊢
  simp only [sumI,List.any_cons,Bool.or_eq_true,decide_eq_true_eq]
  refine ⟨by omega,?_⟩
  rw [← h2]
  omega
theorem least_same {ts:List Term} {v:Int} (h : ∀t∈ts,wrd t.mono 8=v) : ∀k:Nat,0<k→k≤ts.length→least ts k=v
 | 0,h0,_=>absurd h0 (Nat.lt_irrefl 0)
 | k+1,_,hk=>by
  have h1:wrdAt ts k=v:=by
   unfold wrdAt
   rw [← tm_eq (show k<ts.length by omega)]
   exact h _ (List.getElem_mem _)
  simp only [least]
  split
  ·exact h1
  ·rename_i h2
   exact least_same h k (by omega) (by omega)
theorem quad_least {ts:List Term} (h:0<(wordsF ts 2).length):least (wordsF ts 2) (wordsF ts 2).length=2:=
 least_same (fun t ht=>by
  have h1:=(List.mem_filter.1 ht).2
  unfold ofWord at h1
  exact of_decide_eq_true h1) _ h (Nat.le_refl _)
def RkFx (fs:List (List Term)) (r:List Int):Prop:=∀i,r.getD i 0≠0→okF (fm fs i) r (fm fs i).length∧r.getD i 0=mxF (fm fs i) r (fm fs i).length
theorem RkFx.step {fs:List (List Term)} {r:List Int} (h:RkFx fs r) (i:Nat):RkFx fs (stepR fs r i):=by
 unfold stepR
 split
 ·rename_i hi
  by_cases hk:rkF (fm fs i) r=0
  ·have e : ∀j,(r.set i (rkF (fm fs i) r)).getD j 0=r.getD j 0:=fun j=>by
    rw [getD_set]
    split
    ·rename_i h1;rw [← h1.1,hi,hk]
    ·rfl
   intro j hj;rw [e] at hj ⊢;obtain ⟨h1,h2⟩:=h j hj;exact ⟨fun a ha b hb hm=>by rw [e];exact h1 a ha b hb hm,h2.trans (mxF_congr _ fun a ha b hb hm=>(e b).symm)⟩
  ·have e : ∀j,r.getD j 0≠0→(r.set i (rkF (fm fs i) r)).getD j 0=r.getD j 0:=fun j hj=>by
    rw [getD_set,if_neg fun x=>hj (by rw [← x.1];exact hi)]
   have key : ∀ts:List Term,okF ts r ts.length→okF ts (r.set i (rkF (fm fs i) r)) ts.length∧mxF ts r ts.length=mxF ts (r.set i (rkF (fm fs i) r)) ts.length:=fun ts ho=>
    ⟨fun a ha b hb hm=>by rw [e b (ho a ha b hb hm)];exact ho a ha b hb hm,mxF_congr _ fun a ha b hb hm=>(e b (ho a ha b hb hm)).symm⟩
   intro j hj;rw [getD_set] at hj ⊢
   by_cases hij:i=j∧i<r.length
   ·rw [if_pos hij] at hj ⊢;obtain ⟨rfl,_⟩:=hij;have ho:=okF_iff hk
    have hv:rkF (fm fs i) r=mxF (fm fs i) r (fm fs i).length:=by unfold rkF;rw [if_pos ho]
    obtain ⟨k1,k2⟩:=key _ ho;exact ⟨k1,hv.trans k2⟩
   ·rw [if_neg hij] at hj ⊢;obtain ⟨h1,h2⟩:=h j hj;obtain ⟨k1,k2⟩:=key _ h1;exact ⟨k1,h2.trans k2⟩
 ·exact h
theorem RkFx.inR {fs:List (List Term)} {r:List Int} (h:RkFx fs r) : ∀n,RkFx fs (inR fs r n)
 | 0=>h
 | n+1=>(RkFx.inR h n).step n
theorem RkFx.rnd (fs:List (List Term)) (n:Nat) : ∀t,RkFx fs (rndR fs n t)
 | 0=>fun i hi=>absurd (by simp only [rndR];rw [List.getD_eq_getElem?_getD,List.getElem?_replicate];split <;> rfl) hi
 | t+1=>(RkFx.rnd fs n t).inR n
theorem mxT_ge {m r:List Int} {x:Int} : ∀n:Nat,x≤mxT m r x n∧∀j,j<n→m.getD j 0≠0→r.getD j 0+1≤mxT m r x n
 | 0=>⟨Int.le_refl _,fun j hj=>by omega⟩
 | n+1=>by
  obtain ⟨h1,h2⟩:=mxT_ge (m:=m) (r:=r) (x:=x) n
  simp only [mxT]
  split
  ·rename_i h0
   refine ⟨h1,fun j hj hm=>?_⟩
   by_cases e:j=n
   ·rw [e] at hm;exact absurd h0 hm
   ·exact h2 j (by omega) hm
  ·refine ⟨by omega,fun j hj hm=>?_⟩
   by_cases e:j=n
   ·rw [e];omega
   ·have:=h2 j (by omega) hm;omega
theorem mxF_ge {ts:List Term} {r:List Int} : ∀k:Nat,1≤mxF ts r k∧∀i,i<k→∀j,j<8→(tm ts i).mono.getD j 0≠0→r.getD j 0+1≤mxF ts r k
 | 0=>⟨by simp [mxF],fun i hi=>by omega⟩
 | k+1=>by
  obtain ⟨h1,h2⟩:=mxF_ge (ts:=ts) (r:=r) k
  obtain ⟨h3,h4⟩:=mxT_ge (m:=(tm ts k).mono) (r:=r) (x:=mxF ts r k) 8
  simp only [mxF]
  refine ⟨by omega,fun i hi j hj hm=>?_⟩
  by_cases e:i=k
  ·rw [e] at hm;exact h4 j hj hm
  ·have:=h2 i (by omega) j hj hm;omega
theorem rnk_all {ds:List Int} {fs:List (List Term)} (h:rnkOk ds fs=true) {i:Nat} (hi:i<(rnkR ds fs).length):(rnkR ds fs).getD i 0=mxF (fm fs i) (rnkR ds fs) (fm fs i).length∧okF (fm fs i) (rnkR ds fs) (fm fs i).length:=by
 have h1:=List.all_eq_true.1 h ((rnkR ds fs).getD i 0) (getD_mem hi);obtain ⟨h2,h3⟩:=RkFx.rnd fs ds.length ds.length i (of_decide_eq_true h1);exact ⟨h3,h2⟩
theorem isForm_filter {ds:List Int} {ts:List Term} (hw:Wfs ts) (h:isForm ds ts=true) (p:Term→Bool):isForm ds (ts.filter p)=true:=by
 have hs:=isForm_sok hw h;have hsub:(ts.filter p).Sublist ts:=List.filter_sublist
 have hp:(ts.filter p).Pairwise fun x y=>before x.mono y.mono=true:=by
  have h1:=hs.srt;unfold toS at h1;rw [List.pairwise_map] at h1;exact h1.sublist hsub
 unfold isForm;rw [Bool.and_eq_true];refine ⟨decide_eq_true (Nat.le_trans hsub.length_le (isForm_len4 h)),List.all_eq_true.2 fun i hi=>?_⟩
 have hil:i<(ts.filter p).length:=by simpa using hi
 have hm:tm (ts.filter p) i∈ts:=by rw [← tm_eq hil];exact (List.mem_filter.1 (List.getElem_mem hil)).1
 obtain ⟨k,hk,ek⟩:=List.getElem_of_mem hm;have hg:=isForm_at h hk;rw [tm_eq hk] at ek;unfold goodAt at hg ⊢;rw [ek] at hg;simp only [Bool.and_eq_true,Bool.or_eq_true,decide_eq_true_eq] at hg ⊢;refine ⟨hg.1,?_⟩
 by_cases e:i=0
 ·exact .inl e
 ·right
  have h2:=List.pairwise_iff_getElem.1 hp (i - 1) i (by omega) hil (by omega)
  rwa [tm_eq (show i - 1<(ts.filter p).length by omega),tm_eq hil] at h2
def fltK (ds:List Int) (fs:List (List Term)) (i:Nat):Bool:=(List.range i).all fun j=>decide (sumI (rw_ (linV ds fs) j)=0)
theorem fltK_succ (ds:List Int) (fs:List (List Term)) (i:Nat):fltK ds fs (i+1)=(fltK ds fs i && decide (sumI (rw_ (linV ds fs) i)=0)):=by
 unfold fltK;rw [List.range_succ,List.all_append]
 simp
theorem linV_row {ds:List Int} {fs:List (List Term)} (h:isAlg ds fs=true) {i:Nat} (hi:i<fs.length):rw_ (linV ds fs) i=linR ds (toS (fm fs i)):=by rw [linV_yes h,linT_at hi]
theorem linR_cf {ds:List Int} {fs:List (List Term)} (h:isAlg ds fs=true) (hw:Wfss fs) {i:Nat} (hi:i<fs.length) : ∀x∈linR ds (toS (fm fs i)),0≤x∧x≤10006:=fun x hx=>by
 have hA:=isAlg_ok h hw
 unfold linR at hx
 obtain ⟨k,_,rfl⟩:=List.mem_map.1 hx
 exact cf_bd (hA.fok i hi).1 _
theorem sum_one {ds:List Int} {fs:List (List Term)} (h:isAlg ds fs=true) (hw:Wfss fs) {i:Nat} (hi:i<fs.length):0≤sumI (rw_ (linV ds fs) i)∧(0<sumI (rw_ (linV ds fs) i)↔least (fm fs i) (fm fs i).length=1):=by
 have hA:=isAlg_ok h hw;rw [linV_row h hi];obtain ⟨h1,h2⟩:=sumI_pos (r:=linR ds (toS (fm fs i))) fun x hx=>(linR_cf h hw hi x hx).1;refine ⟨h1,?_⟩;have h3:=lin_least hA.hn (hA.wf.fm i) (hA.ok i hi) (alg_wrd h hw hi);rw [h2];unfold anyN;rw [h3,decide_eq_true_eq]
theorem flt_min {ds:List Int} {fs:List (List Term)} (h:isAlg ds fs=true) (hw:Wfss fs):fltK ds fs fs.length=minV ds fs:=by
 unfold minV;rw [h,Bool.true_and,minB_eq h hw];unfold fltK minL;refine Bool.eq_iff_iff.2 ⟨fun h1=>?_,fun h1=>?_⟩
 ·refine List.all_eq_true.2 fun i hi=>?_;have h2:=List.all_eq_true.1 h1 i hi;obtain ⟨h3,h4⟩:=sum_one h hw (i:=i) (by simpa using hi);rw [decide_eq_true_eq] at h2 ⊢;intro e;have:=h4.2 e
  omega
 ·refine List.all_eq_true.2 fun i hi=>?_;have h2:=List.all_eq_true.1 h1 i hi;obtain ⟨h3,h4⟩:=sum_one h hw (i:=i) (by simpa using hi);rw [decide_eq_true_eq] at h2 ⊢;have h5 : ¬0<sumI (rw_ (linV ds fs) i):=fun e=>h2 (h4.1 e)
  omega
theorem linV_len2 {ds:List Int} {fs:List (List Term)} (h:isAlg ds fs=true):(linV ds fs).length=fs.length:=by rw [linV_yes h,linT_len]
theorem img_both {ds:List Int} {fs:List (List Term)} (h:isAlg ds fs=true) (hw:Wfss fs) {i:Nat} (hi:i<fs.length):bothC ds fs (fm fs i)=0∧wlen ds fs (fm fs i)=least (fm fs i) (fm fs i).length:=by
 have hA:=isAlg_ok h hw;unfold bothC wlen;rw [h,hA.ok i hi];exact ⟨rfl,rfl⟩
theorem qp_at {ds:List Int} {fs:List (List Term)} (h:isAlg ds fs=true) {i:Nat} (hi:i<fs.length):fm (qpV ds fs) i=wordsF (fm fs i) 2:=by
 rw [qpV_yes h];unfold quads fm;rw [List.getD_eq_getElem?_getD,List.getElem?_map,List.getD_eq_getElem?_getD,List.getElem?_eq_getElem hi]
 rfl
theorem quad_both {ds:List Int} {fs:List (List Term)} (h:isAlg ds fs=true) (hw:Wfss fs) {i:Nat} (hi:i<fs.length):bothC ds fs (fm (qpV ds fs) i)=0∧(0<(fm (qpV ds fs) i).length→wlen ds fs (fm (qpV ds fs) i)=2):=by
 have hA:=isAlg_ok h hw;have hf:isForm ds (wordsF (fm fs i) 2)=true:=isForm_filter (hA.wf.fm i) (hA.ok i hi) _;rw [qp_at h hi];unfold bothC wlen;rw [h,hf];exact ⟨rfl,fun h2=>quad_least h2⟩
theorem rank_img {ds:List Int} {fs:List (List Term)} (h:isAlg ds fs=true) (hw:Wfss fs) (ho:rnkOk ds fs=true) {i:Nat} (hi:i<ds.length):1≤(rnkV ds fs).getD i 0∧((rnkV ds fs).getD i 0=1↔(fm fs i).length=0)∧∀k,k<(fm fs i).length→∀j,j<8→0<(tm (fm fs i) k).mono.getD j 0→(rnkV ds fs).getD j 0<(rnkV ds fs).getD i 0:=by
 have hA:=isAlg_ok h hw
 have e:rnkV ds fs=rnkR ds fs:=by unfold rnkV;rw [h,ho];rfl
 rw [e];obtain ⟨h1,h2⟩:=rnk_all ho (i:=i) (by rw [rnkR_len];exact hi);obtain ⟨h3,h4⟩:=mxF_ge (ts:=fm fs i) (r:=rnkR ds fs) (fm fs i).length;rw [← h1] at h3 h4;refine ⟨h3,⟨fun h5=>?_,fun h5=>?_⟩,fun k hk j hj hm=>?_⟩
 ·refine Classical.byContradiction fun h6=>?_
  have hil:i<fs.length:=by have:=hA.hl;omega
  have h7:=alg_wrd h hw hil 0 (by omega)
  have h8 : ∃j,j<8∧(tm (fm fs i) 0).mono.getD j 0≠0:=by
   refine Classical.byContradiction fun h9=>?_
   have h10 : ∀n:Nat,n≤8→wrd (tm (fm fs i) 0).mono n=0:=fun n=>by
    induction n with
    | zero=>intro _;rfl
    | succ n ih=>
     intro hn;simp only [wrd];have h11:(tm (fm fs i) 0).mono.getD n 0=0:=Classical.byContradiction fun h12=>h9 ⟨n,by omega,h12⟩;rw [ih (by omega),h11]
     rfl
   unfold wrdAt at h7;rw [h10 8 (Nat.le_refl _)] at h7
   omega
  obtain ⟨j,hj,hm⟩:=h8;have h9:=h4 0 (by omega) j hj hm;have h10:=h2 0 (by omega) j hj hm
  have h11:0≤(rnkR ds fs).getD j 0:=by
   rcases Nat.lt_or_ge j (rnkR ds fs).length with hjl | hjl
   ·have h12:=(rnk_all ho hjl).1;have h13:=(mxF_ge (ts:=fm fs j) (r:=rnkR ds fs) (fm fs j).length).1
    omega
   ·rw [getD_ge hjl];omega
  omega
 ·rw [h1,h5]
  rfl
 ·have:=h4 k hk j hj (by omega)
  omega
end Go.Proofs.YtffgojlocbafhaaGreat.G
