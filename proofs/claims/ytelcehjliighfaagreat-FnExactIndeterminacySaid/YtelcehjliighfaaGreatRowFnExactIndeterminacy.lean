/- The row: the law answers true whatever the input, and the input reads as it did. No condition. -/
import Derived.Test.YtelcehjliighfaaGreatRows
import Derived.Test.YtelcehjliighfaaGreatProg
import Derived.WalkKit
import Derived.KernelRfl
import Derived.JoinedOf
import Derived.Maps.AppendAt
import Derived.Still
import Derived.ProofKit
import Derived.OpenShut
import Derived.StillTail
import Derived.Deep.Upon
import Derived.WalkSpells
import Derived.Maps.Range
import Derived.DeepKeys4
import Derived.Maps.Keyed
import Derived.ChangeOld
import Derived.Below
import Derived.SizedLaws
import Derived.Test.YtelcehjliighfaaGreatPIndh
set_option linter.unusedVariables false
set_option linter.unusedSimpArgs false
set_option maxRecDepth 10000
set_option maxHeartbeats 8000000
open Nat (reduceEqDiff reduceSub reduceAdd)
namespace Go.Proofs.YtelcehjliighfaaGreat.G
open Go Go.RowKit
theorem u127:Tryz.prog.underlying 127=some (TypeDesc.slice 92):=by kernel_rfl
theorem by92:Bytes Tryz.prog 92 8:=by unfold Bytes;kernel_rfl
theorem ze92:Zero Tryz.prog 92 [.map none]:=by unfold Zero;kernel_rfl
theorem fn43:Fn Tryz.prog 43:=⟨_,Tryz.func43,by kernel_rfl,rfl⟩
theorem fn58:Fn Tryz.prog 58:=⟨_,Tryz.func58,by kernel_rfl,rfl⟩
theorem fn61:Fn Tryz.prog 61:=⟨_,Tryz.func61,by kernel_rfl,rfl⟩
theorem CJ.fixB {P:Program} {c0:Code} {Q:Exit→Act→World→Prop} {n:Nat} {B:World} {H0 H:HP} {us:List (Nat × Value)} {L L1:List SA} {A:SA} (hr:Rm L A L1) (h : ∀H',Le H H' →A.holds H' →CJ P c0 Q n B H0 us H' L1):CJ P c0 Q n B H0 us H L:=fun a w hF hH=>(EA (R:=fun a w=>c0.wp P Q a w) hr fun H' h1 h2=>h H' h1 h2) a w hF hH
def SmR (H:HP) (q:Option Addr) (n:Nat) (ss:Nat→Sm):Prop:=∀i,i<n→∃g,cellO H q i=some (.map (some g))∧SumH H (.map (some g)) (ss i)
theorem SmR.le {H H':HP} {q:Option Addr} {n:Nat} {ss:Nat→Sm} (h:SmR H q n ss) (hle:Le H H'):SmR H' q n ss:=fun i hi=>by
 obtain ⟨g,h1,h2⟩:=h i hi
 exact ⟨g,cellO_le hle h1,h2.le hle⟩
theorem SmR.sm {H:HP} {q:Option Addr} {n:Nat} {ss:Nat→Sm} (h:SmR H q n ss) {i:Nat} (hi:i<n):q.isSome=true:=by
 obtain ⟨g,h1,_⟩:=h i hi;exact cellO_some h1
def SmF (H:HP) (vals:List Value) (k:Nat) (ss:Nat→Sm):Prop:=vals.length=k∧∀i,i<k→∃g,vals[i]? = some (.map (some g))∧SumH H (.map (some g)) (ss i)
theorem SmF.le {H H':HP} {vals:List Value} {k:Nat} {ss:Nat→Sm} (h:SmF H vals k ss) (hle:Le H H'):SmF H' vals k ss:=⟨h.1,fun i hi=>by
 obtain ⟨g,h1,h2⟩:=h.2 i hi
 exact ⟨g,h1,h2.le hle⟩⟩
theorem SmF.nil (H:HP) (ss:Nat→Sm):SmF H [] 0 ss:=⟨rfl,fun i hi=>by omega⟩
theorem SmF.snoc {H:HP} {vals:List Value} {k:Nat} {ss:Nat→Sm} {g:Nat} (h:SmF H vals k ss) (hs:SumH H (.map (some g)) (ss k)):SmF H (vals++[.map (some g)]) (k+1) ss:=⟨by simp [h.1],fun i hi=>by
 by_cases e:i<k
 ·obtain ⟨g',h1,h2⟩:=h.2 i e
  exact ⟨g',by rw [List.getElem?_append_left (by rw [h.1];exact e)];exact h1,h2⟩
 ·obtain rfl:i=k:=by omega
  exact ⟨g,by rw [List.getElem?_append_right (by rw [h.1];exact Nat.le_refl _),h.1];simp,hs⟩⟩
theorem SmF.row {E:TypeId} {h H:HP} {q:Option Addr} {m c k:Nat} {vals:List Value} {ss:Nat→Sm} (hs:SmF H vals k ss) (hle:Le H h) (hh:(own E 1 q m c vals).holds h):SmR h q k ss:=fun i hi=>by
 obtain ⟨g,h1,h2⟩:=hs.2 i hi
 exact ⟨g,own_reads hh i _ h1,h2.le hle⟩
def cfN (ds:List Int) (fs:List (List Term)) (n:Int):Nat:=if n<0 then 0 else (csS ds fs n).length
def cfS (ds:List Int) (fs:List (List Term)) (n:Int) (i:Nat):Sm:=sumR (monL ds n) (rw_ (csS ds fs n) i)
section
variable {ds : List Int} {fs : List (List Term)} {n : Int}
theorem cfN_n (h:n<0):cfN ds fs n=0:=if_pos h
theorem cfN_y (h : ¬n<0):cfN ds fs n=(csS ds fs n).length:=if_neg h
theorem cfN_bd (hA:AlgOk ds fs) (h8:ds.length≤8) (hd : ∀j,j<ds.length→1≤ds.getD j 0∧ds.getD j 0≤12):cfN ds fs n≤121:=by
 unfold cfN
 split
 ·omega
 ·exact csS_len hA h8 hd
theorem cfN_lt {i:Nat} (h:i<cfN ds fs n):0≤n∧i<(csS ds fs n).length:=by
 unfold cfN at h
 split at h
 ·omega
 ·exact ⟨by omega,h⟩
theorem cfS_ok (hA:AlgOk ds fs) (h8:ds.length≤8) (hd : ∀j,j<ds.length→1≤ds.getD j 0∧ds.getD j 0≤12) {i:Nat} (hi:i<(csS ds fs n).length):Sok 20 (cfS ds fs n i)∧∀x∈cfS ds fs n i,x.1∈monL ds n:=by
 have hr:=(csS_red (n:=n) hA h8 hd).row _ (rw_mem hi);exact ⟨sumR_mon h8 (by rw [hr.len];exact Nat.le_refl _),sumR_key (by rw [hr.len];exact Nat.le_refl _)⟩
end
theorem classForms_c {B:World} {H0 H:HP} {L:List SA} {w:World} {n:Int} {bt:Nat} {vx vy vz vu vv:Value} {tp tq tr:Int} {bc lc:Nat} {bca:Nat} {qcad qcaf:Option Addr} {ccad ccaf:Nat} {cad:List Int} {caf:List (List Term)} {lsc:List (Int × Lv)} (pc0:CellAt H bc 0 (.pointer (some ⟨bca,0,none⟩))) (pc1:CellAt H bc 1 (.map (some lc))) (pcad:CellAt H bca 0 (.slice qcad cad.length ccad)) (pcaf:CellAt H bca 1 (.slice qcaf caf.length ccaf)) (hcad:Ints H qcad cad) (hcaf:Forms H qcaf caf) (hGc:isAlg cad caf=true) (hCc:CpxOk H cad caf (fun _=>False) lsc) (hNc:Nxt (fun _=>False) lsc) (hn : -1≤n∧n≤39) (hfit:0≤n→fit3 cad n) (hH:Hp B H0 H (obj bt (.cells [.pointer (some ⟨bc,0,none⟩),vx,vy,vz,.int .i64 tp,.int .i64 tq,.int .i64 tr,vu,vv].toArray 120 (0,0))::cpx lc lsc::L) w):Calls Tryz.prog 61 [.pointer (some ⟨bt,0,none⟩),.int .i64 n].toArray w fun e w'=>∃H' ls' q c,Le H H' ∧CpxOk H' cad caf (fun _=>False) ls' ∧Nxt (fun _=>False) ls' ∧SmR H' q (cfN cad caf n) (cfS cad caf n)∧e = .returned (.slice q (cfN cad caf n) c)∧Hp B H0 H' (obj bt (.cells [.pointer (some ⟨bc,0,none⟩),vx,vy,vz,.int .i64 tp,.int .i64 tq,.int .i64 tr,vu,vv].toArray 120 (0,0))::cpx lc ls'::L) w':=by
 refine Jx Tryz.func61 rfl 39 rfl rfl [(0,.pointer (some ⟨bt,0,none⟩)),(1,.int .i64 n)] rfl hH ?_;clear hH;have hwc:=hcaf.wfss;have hAc:=isAlg_ok hGc hwc;have h8c:=hAc.hn;have hdc:=alg_112 hGc;have hml:=monL_len cad n;have hcsR:=csS_red (n:=n) hAc h8c hdc;have hcsl:=csS_len (n:=n) hAc h8c hdc;refine Je fun _ hK1 _=>(Jb (Jg (Jd rfl) rfl (Jf (Ja (hK1 (Je fun _ hK2 _=>(Jb (EI (EP u127 sz92) rfl fun qo8 co8=>(Jg (Jd rfl) rfl (Jf (Ja (hK2 (Je fun _ hK3 _=>(Je fun _ hK4 _=>(Jb (Jg (Jc rfl) rfl ?_))))))))))))))));refine Jg (JJ rfl rfl) rfl (Jf (Ja (hK4 (Jq rfl (fun h10=>?_) (fun h10=>?_)))))
 ·
  refine Je fun _ hK5 _=>(Jb (Jg (Jc rfl) rfl (Jg (Jd rfl) rfl (Jf (Ja (hK5 (Jt (Jk (Jr rfl (Res.tmp rfl) fun w hH=>?_)))))))));replace hH:=hH.sublist (.cons _ (.cons_cons _ (.cons_cons _ (List.Sublist.refl _))));rw [cfN_n h10];exact ⟨_,_,_,_,(Le.refl _),hCc,hNc,fun i hi=>by omega,rfl,hH⟩
 ·
  have hf3:=hfit (by omega);refine Jn (Ja (hK3 (Je fun _ hK6 _=>(Je fun _ hK7 _=>(Jb (Jg (Jc rfl) rfl (Jg (Jv rfl) rfl (Jg (Jl u120 rfl sz81 rfl) rfl (Jg (Js rfl (.s .z) rfl pl81) rfl (Jg (Jc rfl) rfl (Ju fn41 rfl rfl fun w hH=>(at_c pc0 pc1 pcad pcaf hcad hcaf hdc h8c (by omega) hAc hf3 (fun m hm hf=>hom_of hGc hwc h8c hdc (by omega) hf) hCc hNc (hH.front (.s (.s .z)))).mono ?_)))))))))));rintro _ w ⟨Hf17,ls17,⟨b17,p17,⟨ql17,kl17,cl17⟩,⟨qm17,km17,cm17⟩,⟨qz17,kz17,cz17⟩,⟨qy17,ky17,cy17⟩,⟨qx17,kx17,cx17⟩⟩,hlf17,hC17,hN17,hx17,⟨hL17,hM17,hkp17⟩,rfl,hH⟩;refine ⟨_,rfl,fun a hF=>JH hF hH ?_⟩;replace pc0:=pc0.le hlf17;replace pc1:=pc1.le hlf17;replace pcad:=pcad.le hlf17;replace pcaf:=pcaf.le hlf17;replace hcad:=hcad.le hlf17;replace hcaf:=hcaf.le hlf17;replace hCc:=hCc.le hlf17;obtain rfl:kl17=(monL cad (n)).length:=(hC17.ok _ hx17).one.len;have hpw17:Pows Hf17 ql17 (monL cad (n)):=(hC17.ok _ hx17).one.pw;have hpl17:SumH Hf17 (.map (some p17)) (plM (monL cad (n))):=(hC17.ok _ hx17).one.pl;obtain ⟨⟨e1,hz17⟩,⟨e2,hb17⟩,e3,hs17⟩:(kz17=(clS cad caf (n)).length∧RowsR Hf17 qz17 (clS cad caf (n)))∧(ky17=(bdS cad caf (n)).length∧RowsR Hf17 qy17 (bdS cad caf (n)))∧kx17=(csS cad caf (n)).length∧RowsR Hf17 qx17 (csS cad caf (n)):=hL17;subst e1 e2 e3;refine Jg (Jv rfl) rfl (Jg (Jl u88 rfl sz31 rfl) rfl (Jg (ES (b:=b17) (k:=5) (v:=.slice qx17 (csS cad caf (n)).length cx17) rfl At.z hx17 rfl rfl pl31) rfl (Jg (Jo u31 rfl rfl) rfl (Jg (Jc rfl) rfl (Jf (Ja (hK7 (Jp (JD (σ:=HP × List (Int × Lv) × Option Addr × Nat × List Value × Nat) (fun ⟨Hk,lsk,q,c,vals,k⟩=>[(22,.int .i64 (k:Int)),(5,.slice q k c)]) (fun ⟨Hk,lsk,q,c,vals,k⟩=>Hk) (fun ⟨Hk,lsk,q,c,vals,k⟩=>cpx lc lsk::own 92 1 q k c vals::obj bt (.cells [.pointer (some ⟨bc,0,none⟩),vx,vy,vz,.int .i64 tp,.int .i64 tq,.int .i64 tr,vu,vv].toArray 120 (0,0))::L) (fun ⟨Hk,lsk,q,c,vals,k⟩=>Le Hf17 Hk∧(CpxOk Hk cad caf (fun _=>False) lsk∧Nxt (fun _=>False) lsk)∧SmF Hk vals k (cfS cad caf n)∧k≤(csS cad caf n).length) (fun ⟨Hk,lsk,q,c,vals,k⟩=>(csS cad caf n).length - k) (Hf17,ls17,qo8,co8, [],0) ⟨Le.refl _,⟨hC17,hN17⟩,SmF.nil _ _,Nat.zero_le _⟩ ⟨rfl,⟨rfl,trivial⟩⟩ rfl rfl ?_)))))))));rintro ⟨Hk,lsk,q,c,vals,k⟩ ⟨hlk,⟨hCk,hNk⟩,hS,hk⟩ _ hAg0;replace pc0:=pc0.le hlk;replace pc1:=pc1.le hlk;replace pcad:=pcad.le hlk;replace pcaf:=pcaf.le hlk;replace hcad:=hcad.le hlk;replace hcaf:=hcaf.le hlk;replace hCc:=hCc.le hlk;replace hC17:=hC17.le hlk;replace hpw17:=hpw17.le hlk;replace hpl17:=hpl17.le hlk;replace hz17:=hz17.le hlk;replace hb17:=hb17.le hlk;replace hs17:=hs17.le hlk;refine Je fun _ hK8 _=>(Jb (Jg (JJ rfl rfl) rfl (Jf (Ja (hK8 (Je fun _ hK9 _=>(Jq rfl (fun h23=>?_) (fun h23=>?_))))))))
  ·
   have hk1:k<(csS cad caf n).length:=by omega
   have hrk:=hcsR.led _ (rw_mem hk1);have hrl:=hrk.1.len;refine Jn (Ja (hK9 (Je fun _ hK10 _=>(Jp (Je fun _ hK11 _=>(Jb (Jg (JL u31 sz22 rfl rfl rfl hk1 hs17.sm) rfl ?_)))))));obtain ⟨qe25,ce25,he25,le25,Fe25⟩:=hs17 k hk1;refine Jg (JE rfl he25 pl22) rfl (Jg (Jd rfl) rfl (Jf (Ja (hK11 (Jb (Jg (Jc rfl) rfl (Jg (Jc rfl) rfl (Jg (Jv rfl) rfl (Jg (Jl u120 rfl sz81 rfl) rfl (Jg (Js rfl (.s (.s .z)) rfl pl81) rfl (Jg (Jc rfl) rfl (Ju fn41 rfl rfl fun w hH=>(at_c pc0 pc1 pcad pcaf hcad hcaf hdc h8c (by omega) hAc hf3 (fun m hm hf=>hom_of hGc hwc h8c hdc (by omega) hf) hCk hNk (hH.front .z)).mono ?_))))))))))));rintro _ w ⟨Hf32,ls32,⟨b32,p32,⟨ql32,kl32,cl32⟩,⟨qm32,km32,cm32⟩,⟨qz32,kz32,cz32⟩,⟨qy32,ky32,cy32⟩,⟨qx32,kx32,cx32⟩⟩,hlf32,hC32,hN32,hx32,⟨hL32,hM32,hkp32⟩,rfl,hH⟩;refine ⟨_,rfl,fun a hF=>JH hF hH ?_⟩;replace pc0:=pc0.le hlf32;replace pc1:=pc1.le hlf32;replace pcad:=pcad.le hlf32;replace pcaf:=pcaf.le hlf32;replace hcad:=hcad.le hlf32;replace hcaf:=hcaf.le hlf32;replace hCc:=hCc.le hlf32;replace hC17:=hC17.le hlf32;replace hpw17:=hpw17.le hlf32;replace hpl17:=hpl17.le hlf32;replace hz17:=hz17.le hlf32;replace hb17:=hb17.le hlf32;replace hs17:=hs17.le hlf32;replace hS:=hS.le hlf32;replace hCk:=hCk.le hlf32;replace Fe25:=Fe25.le hlf32;obtain rfl:kl32=(monL cad (n)).length:=(hC32.ok _ hx32).one.len;have hpw32:Pows Hf32 ql32 (monL cad (n)):=(hC32.ok _ hx32).one.pw;have hpl32:SumH Hf32 (.map (some p32)) (plM (monL cad (n))):=(hC32.ok _ hx32).one.pl;obtain ⟨⟨e1,hz32⟩,⟨e2,hb32⟩,e3,hs32⟩:(kz32=(clS cad caf (n)).length∧RowsR Hf32 qz32 (clS cad caf (n)))∧(ky32=(bdS cad caf (n)).length∧RowsR Hf32 qy32 (bdS cad caf (n)))∧kx32=(csS cad caf (n)).length∧RowsR Hf32 qx32 (csS cad caf (n)):=hL32;subst e1 e2 e3;refine Jg (Jc rfl) rfl (Ju fn80 rfl rfl fun w hH=>hH.lend .z fun Hl1 hle1 hA1 hB1 hH=>(sum_c (M:=20) (cpx_cell hx32 hA1 rfl) (cpx_cell hx32 hA1 rfl) (Fe25.le hle1) (hpw32.le hle1) (monL_pok h8c) (by omega) (by omega) (fun j=>by have:=hrk.1.val j;omega) (by omega) hH).mono ?_);rintro _ w ⟨bo34,rfl,hH⟩;replace hH:=hB1 _ _ hH;refine ⟨_,rfl,fun a hF=>JH hF hH ?_⟩;refine Ev (.s .z) fun Ho34 hleo34 hAo34=>?_;replace pc0:=pc0.le hleo34;replace pc1:=pc1.le hleo34;replace pcad:=pcad.le hleo34;replace pcaf:=pcaf.le hleo34;replace hcad:=hcad.le hleo34;replace hcaf:=hcaf.le hleo34;replace hCc:=hCc.le hleo34;replace hC17:=hC17.le hleo34;replace hpw17:=hpw17.le hleo34;replace hpl17:=hpl17.le hleo34;replace hz17:=hz17.le hleo34;replace hb17:=hb17.le hleo34;replace hs17:=hs17.le hleo34;replace hS:=hS.le hleo34;replace hCk:=hCk.le hleo34;replace Fe25:=Fe25.le hleo34;replace hC32:=hC32.le hleo34;replace hpw32:=hpw32.le hleo34;replace hpl32:=hpl32.le hleo34;replace hz32:=hz32.le hleo34;replace hb32:=hb32.le hleo34;replace hs32:=hs32.le hleo34;have hxo34:=omap_H hAo34;refine EI (EN (v:=.map (some bo34)) u127 ze92 sz92 rfl rfl) rfl fun qo35 co35=>(EG u127 ze92 sz92 by92 rfl rfl rfl rfl (by omega) .z (.s .z) (fun _ _=>(.s .z)) rfl fun qo36 co36=>?_);have hS2:=hS.snoc (ss:=(cfS cad caf n)) hxo34;refine Jg (Jd rfl) rfl (Jf (JF (Ja (hK10 (Jb (Jg (Jz rfl rfl (by first | exact nw _ (by omega) | rfl)) rfl (Jg (Jc rfl) rfl (Jf (Ja (JN .z ?_))))))))));exact hAg0 (Ho34,ls32,qo36,co36,_,k+1) ⟨((hlk.trans hlf32).trans hleo34),⟨hC32,hN32⟩,hS2,by show k+1≤_;omega⟩ (by show (csS cad caf n).length - (k+1)<(csS cad caf n).length - k;omega) 20 rfl rfl ⟨rfl,⟨rfl,trivial⟩⟩ rfl rfl
  ·
   refine JG (Jj (Jj (JK (Ja (hK6 (Je fun _ hK12 _=>(CJ.fixB (.s .z) fun Ho8 hleo8 hAo8=>?_)))))));replace pc0:=pc0.le hleo8;replace pc1:=pc1.le hleo8;replace pcad:=pcad.le hleo8;replace pcaf:=pcaf.le hleo8;replace hcad:=hcad.le hleo8;replace hcaf:=hcaf.le hleo8;replace hCc:=hCc.le hleo8;replace hC17:=hC17.le hleo8;replace hpw17:=hpw17.le hleo8;replace hpl17:=hpl17.le hleo8;replace hz17:=hz17.le hleo8;replace hb17:=hb17.le hleo8;replace hs17:=hs17.le hleo8;replace hS:=hS.le hleo8;replace hCk:=hCk.le hleo8
   have hke:k=(csS cad caf n).length:=by omega
   have hR:=hS.row (Le.refl _) hAo8;refine Jb (Jg (Jc rfl) rfl (Jg (Jd rfl) rfl (Jf (Ja (hK12 (Jt (Jr rfl (Res.tmp rfl) fun w hH=>?_)))))));replace hH:=hH.sublist (.cons_cons _ (.cons_cons _ (List.Sublist.refl _)));rw [cfN_y h10];exact ⟨_,_,_,_,((hlf17.trans hlk).trans hleo8),hCk,hNk,by rw [← hke];exact hR,by rw [hke],hH.front (.s .z)⟩
section
variable {ds : List Int} {fs : List (List Term)} {n m p q r : Int} {x z : Sm}
theorem rwX_cf:rwX ds fs x p q r=rwA ds fs (p+q+r - 1) (q+r - 1) x (cfN ds fs (q+r - 1)):=by
 by_cases h:q+r>0
 ·rw [rwX_y h,cfN_y (by omega)]
 ·rw [rwX_n h,cfN_n (by omega)]
  rfl
theorem rwZ_cf:rwZ ds fs z p q r=rwB ds fs (p+q+r - 1) (p+q - 1) z (cfN ds fs (p+q - 1)):=by
 by_cases h:p+q>0
 ·rw [rwZ_y h,cfN_y (by omega)]
 ·rw [rwZ_n h,cfN_n (by omega)]
  rfl
theorem cfN_le:cfN ds fs n≤(csS ds fs n).length:=by
 unfold cfN
 split
 ·omega
 ·exact Nat.le_refl _
theorem rwX_len:(rwX ds fs x p q r).length=cfN ds fs (q+r - 1):=by rw [rwX_cf,rwA_len cfN_le]
theorem rwZ_len:(rwZ ds fs z p q r).length=cfN ds fs (p+q - 1):=by rw [rwZ_cf,rwB_len cfN_le]
theorem rwZ_row (hG:isAlg ds fs=true) (hw:Wfss fs) (hz:Sok 20 z) : ∀v∈rwZ ds fs z p q r,RowOk (csS ds fs (p+q+r - 1)).length v:=fun v hv=>by
 rw [rwZ_cf] at hv
 exact rwB_row hG hw hz v hv
end
def KCf (cad:List Int) (caf:List (List Term)) (lc:Nat) (q:Option Addr) (n:Int):HP→SA→Prop:=fun F A=>SmR F q (cfN cad caf n) (cfS cad caf n)∧KCx cad caf lc F A
theorem classForms_m {B:World} {H0 H:HP} {L:List SA} {w:World} {bt:Nat} {vx vy vz vu vv:Value} {tp tq tr:Int} {bc lc:Nat} {bca:Nat} {qcad qcaf:Option Addr} {ccad ccaf:Nat} {cad:List Int} {caf:List (List Term)} {n:Int} {ls:List (Int × Lv)} (pc0:CellAt H bc 0 (.pointer (some ⟨bca,0,none⟩))) (pc1:CellAt H bc 1 (.map (some lc))) (pcad:CellAt H bca 0 (.slice qcad cad.length ccad)) (pcaf:CellAt H bca 1 (.slice qcaf caf.length ccaf)) (hcad:Ints H qcad cad) (hcaf:Forms H qcaf caf) (hGc:isAlg cad caf=true) (hC:CpxOk H cad caf (fun _=>False) ls) (hN:Nxt (fun _=>False) ls) (hn : -1≤n∧n≤39) (hfit:0≤n→fit3 cad n) (hH:Hp B H0 H (obj bt (.cells [.pointer (some ⟨bc,0,none⟩),vx,vy,vz,.int .i64 tp,.int .i64 tq,.int .i64 tr,vu,vv].toArray 120 (0,0))::cpx lc ls::L) w) :
 Calls Tryz.prog 61 [.pointer (some ⟨bt,0,none⟩),.int .i64 n].toArray w fun e w'=>∃q c vs,e = .returned (.slice q (cfN cad caf n) c)∧Hp B H0 H (mltA (KCf cad caf lc q n) H vs::obj bt (.cells [.pointer (some ⟨bc,0,none⟩),vx,vy,vz,.int .i64 tp,.int .i64 tq,.int .i64 tr,vu,vv].toArray 120 (0,0))::L) w':=
 (classForms_c pc0 pc1 pcad pcaf hcad hcaf hGc hC hN hn hfit hH).mono fun e w' ⟨H',ls',q,c,hle,hC',hN',hI,he,hH'⟩=>by
  obtain ⟨vs,hv⟩:=Hp.meltA hH (hH'.front (.s .z)) hle (K:=KCf cad caf lc q n) ⟨hI,ls',hC',hN',rfl⟩
  exact ⟨q,c,vs,he,hv⟩
theorem doubt_c {B:World} {H0 H:HP} {L:List SA} {w:World} {bt:Nat} {vx vy vz vu vv:Value} {tp tq tr:Int} {bc lc:Nat} {bca:Nat} {qcad qcaf:Option Addr} {ccad ccaf:Nat} {cad:List Int} {caf:List (List Term)} {lsc:List (Int × Lv)} {x y z:Sm} (pc0:CellAt H bc 0 (.pointer (some ⟨bca,0,none⟩))) (pc1:CellAt H bc 1 (.map (some lc))) (pcad:CellAt H bca 0 (.slice qcad cad.length ccad)) (pcaf:CellAt H bca 1 (.slice qcaf caf.length ccaf)) (hcad:Ints H qcad cad) (hcaf:Forms H qcaf caf) (hx:SumH H vx x) (hy:SumH H vy y) (hz:SumH H vz z) (hGc:isAlg cad caf=true) (hCc:CpxOk H cad caf (fun _=>False) lsc) (hNc:Nxt (fun _=>False) lsc) (hT:TriOk cad x y z tp tq tr) (hH:Hp B H0 H (obj bt (.cells [.pointer (some ⟨bc,0,none⟩),vx,vy,vz,.int .i64 tp,.int .i64 tq,.int .i64 tr,vu,vv].toArray 120 (0,0))::cpx lc lsc::L) w):Calls Tryz.prog 29 [.pointer (some ⟨bt,0,none⟩)].toArray w fun e w'=>∃H' ls' q c vs,Le H H' ∧CpxOk H' cad caf (fun _=>False) ls' ∧Nxt (fun _=>False) ls' ∧e = .returned (.slice q (inS cad caf x z tp tq tr).length c)∧Hp B H0 H' (ownRs 22 2 q c vs (inS cad caf x z tp tq tr)::obj bt (.cells [.pointer (some ⟨bc,0,none⟩),vx,vy,vz,.int .i64 tp,.int .i64 tq,.int .i64 tr,vu,vv].toArray 120 (0,0))::cpx lc ls'::L) w':=by
 refine Jx Tryz.func29 rfl 92 rfl rfl [(0,.pointer (some ⟨bt,0,none⟩))] rfl hH ?_;clear hH;have hwc:=hcaf.wfss;have hAc:=isAlg_ok hGc hwc;have h8c:=hAc.hn;have hdc:=alg_112 hGc;obtain ⟨hp0,hq0,hr0,hi15,kx,ky,kz,hkx,hky,hkz,hfit⟩:=hT;have hfit3 : ∀k:Int,0≤k→k+1≤tp+tq+tr→fit3 cad k:=fun k h0 h1=>⟨⟨hfit _ h0 (by omega),hfit _ (by omega) h1⟩,fun h2=>hfit _ (by omega) (by omega)⟩;have hcA:=cfN_bd (n:=(tq+tr - 1)) hAc h8c hdc;have hcB:=cfN_bd (n:=(tp+tq - 1)) hAc h8c hdc;have hcsn:=csS_len (n:=(tp+tq+tr - 1)) hAc h8c hdc;refine Je fun _ hK1 _=>(Jb (Jg (Jd rfl) rfl (Jf (Ja (hK1 (Je fun _ hK2 _=>(Jb (Jg (Jc rfl) rfl (Jg (Jv rfl) rfl (Jg (Jl u120 rfl sz81 rfl) rfl (Jg (Js rfl At.z rfl pl81) rfl (Jg (Jv rfl) rfl (Jg (Jl u126 rfl sz66 rfl) rfl (Jg (JE (q:=some ⟨bc,0,none⟩) (k:=0) rfl pc0 pl66) rfl (Jg (Jv rfl) rfl ?_)))))))))))))));refine Jg (Jl u36 rfl sz22 rfl) rfl (Jg (JE (q:=some ⟨bca,0,none⟩) (k:=0) rfl pcad pl22) rfl (EI (EP u31 sz22) rfl fun qo19 co19=>(Jg (Jd rfl) rfl (Jg (Jd rfl) rfl (Jf (Ja (hK2 (Je fun _ hK3 _=>(Je fun _ hK4 _=>(Ea (Rs:=[_,_,_]) 14 [[], [], [1], [1,2], [1,2,3], [], [5], [5,6], [5,6,7], [1,2,3,4,5,6,7,8], [1,2,3,4,5,6,7,8,9], [0,1,2,3,4,5,6,7,8,9,10], [0,1,2,3,4,5,6,7,8,9,10,11], []] [[], [], [], [], [15], [], [], [], [15], [], [], [15], [], []] [[], [], [], [], [], [], [], [], [], [], [], [16], [], []] rfl rfl (by kernel_rfl) ?_))))))))));apply Ji 1 rfl rfl rfl
 ·intros;conv=>lhs;simp only [Jh,reduceEqDiff,reduceAdd]
 ·exact Jc rfl
 apply Ji 2 rfl rfl rfl
 ·intros;conv=>lhs;simp only [Jh,reduceEqDiff,reduceAdd]
 ·exact Jc rfl
 apply Ji 3 rfl rfl rfl
 ·intros;conv=>lhs;simp only [Jh,reduceEqDiff,reduceAdd]
 ·exact Jv rfl
 apply Ji 4 rfl rfl rfl
 ·intros;conv=>lhs;simp only [Jh,reduceEqDiff,reduceAdd]
 ·exact Jl u120 rfl sz2 rfl
 apply Ji 5 rfl rfl rfl
 ·intros;conv=>lhs;simp only [Jh,reduceEqDiff,reduceAdd]
 ·exact Js rfl At.z rfl pl2
 apply Ji 6 rfl rfl rfl
 ·intros;conv=>lhs;simp only [Jh,reduceEqDiff,reduceAdd]
 ·exact Jc rfl
 apply Ji 7 rfl rfl rfl
 ·intros;conv=>lhs;simp only [Jh,reduceEqDiff,reduceAdd]
 ·exact Jv rfl
 apply Ji 8 rfl rfl rfl
 ·intros;conv=>lhs;simp only [Jh,reduceEqDiff,reduceAdd]
 ·exact Jl u120 rfl sz2 rfl
 apply Ji 9 rfl rfl rfl
 ·intros;conv=>lhs;simp only [Jh,reduceEqDiff,reduceAdd]
 ·exact Js rfl At.z rfl pl2
 apply Ji 10 rfl rfl rfl
 ·intros;conv=>lhs;simp only [Jh,reduceEqDiff,reduceAdd]
 ·exact Jz rfl rfl (by first | exact nw _ (by omega) | rfl)
 apply Ji 11 rfl rfl rfl
 ·intros;conv=>lhs;simp only [Jh,reduceEqDiff,reduceAdd]
 ·exact EH rfl rfl (by first | exact nw _ (by omega) | rfl)
 apply JR 12 rfl
 ·intros;conv=>lhs;simp only [Jh,reduceEqDiff,reduceAdd]
 ·
  intro gh X K zq zc zq2 zc2 zb zv hK;refine Ju fn61 rfl rfl fun w hH=>(classForms_m pc0 pc1 pcad pcaf hcad hcaf hGc hCc hNc (by omega) (fun h9=>hfit3 _ (by omega) (by omega)) (hH.front (.s .z))).mono ?_;rintro _ w ⟨qo31,co31,vo31,rfl,hH⟩;refine ⟨_,rfl,fun a hF=>JH hF hH ?_⟩;refine Jy ?_;exact hK qo31 co31 zq2 zc2 zb vo31
 ·intro gh gh' h;refine ⟨?_,?_⟩ <;> rfl
 apply Ef 13 rfl rfl rfl
 ·intros;conv=>lhs;simp only [Jh,reduceEqDiff,reduceAdd]
 ·exact Jo u127 rfl rfl
 ·intro gh gh' h;first | simp only [h 11 rfl] | rfl
 apply Ji 14 rfl rfl rfl
 ·intros;conv=>lhs;simp only [Jh,reduceEqDiff,reduceAdd]
 ·exact Jc rfl
 apply JZ [0,1,2,3,4,5,6,7,8,9,10,11,12,13] [0,1,2,3,4,5,6,7,8,9,10,11,12,13,14,15] foll0 rfl rfl rfl (by rfl)
 iterate 2 focus (intros;(conv=>lhs;simp only [JU,Ej,Ka,El,Es,eq_self,reduceEqDiff,reduceIte,reduceSub,reduceAdd,JxA,JxB]);all_goals rfl)
 intro gh;generalize (gh 11).c=co31;generalize (gh 11).q=qo31;generalize (gh 11).vs=vo31;clear gh;refine EY .z fun Hz2 Az2 hlez2 hKz2=>?_;obtain ⟨hI31,ls31,hC31,hN31,rfl⟩:=hKz2;replace pc0:=pc0.le hlez2;replace pc1:=pc1.le hlez2;replace pcad:=pcad.le hlez2;replace pcaf:=pcaf.le hlez2;replace hcad:=hcad.le hlez2;replace hcaf:=hcaf.le hlez2;replace hx:=hx.le hlez2;replace hy:=hy.le hlez2;replace hz:=hz.le hlez2;replace hCc:=hCc.le hlez2;refine Ja (hK4 (Jp (JD (σ:=HP × List (Int × Lv) × Option Addr × Nat × List Value × Nat) (fun ⟨Hk,lsk,q,c,vals,k⟩=>[(33,.int .i64 (k:Int)),(4,.slice q k c)]) (fun ⟨Hk,lsk,q,c,vals,k⟩=>Hk) (fun ⟨Hk,lsk,q,c,vals,k⟩=>cpx lc lsk::own 22 1 q k c vals::obj bt (.cells [.pointer (some ⟨bc,0,none⟩),vx,vy,vz,.int .i64 tp,.int .i64 tq,.int .i64 tr,vu,vv].toArray 120 (0,0))::L) (fun ⟨Hk,lsk,q,c,vals,k⟩=>Le Hz2 Hk∧(CpxOk Hk cad caf (fun _=>False) lsk∧Nxt (fun _=>False) lsk)∧SlF Hk vals (rwA cad caf (tp+tq+tr - 1) (tq+tr - 1) x k)∧k≤cfN cad caf (tq+tr - 1)) (fun ⟨Hk,lsk,q,c,vals,k⟩=>cfN cad caf (tq+tr - 1) - k) (Hz2,ls31,qo19,co19, [],0) ⟨Le.refl _,⟨hC31,hN31⟩,SlF.nil _,Nat.zero_le _⟩ ⟨rfl,⟨rfl,trivial⟩⟩ rfl rfl ?_)));rintro ⟨Hk,lsk,q,c,vals,k⟩ ⟨hlk,⟨hCk,hNk⟩,hS,hk⟩ _ hAg0;replace pc0:=pc0.le hlk;replace pc1:=pc1.le hlk;replace pcad:=pcad.le hlk;replace pcaf:=pcaf.le hlk;replace hcad:=hcad.le hlk;replace hcaf:=hcaf.le hlk;replace hx:=hx.le hlk;replace hy:=hy.le hlk;replace hz:=hz.le hlk;replace hCc:=hCc.le hlk;replace hC31:=hC31.le hlk;replace hI31:=hI31.le hlk;refine Je fun _ hK5 _=>(Jb (Jg (JJ rfl rfl) rfl (Jf (Ja (hK5 (Je fun _ hK6 _=>(Jq rfl (fun h34=>?_) (fun h34=>?_))))))))
 ·
  have hk0:k<cfN cad caf (tq+tr - 1):=by omega
  obtain ⟨hm0,hk1⟩:=cfN_lt hk0;have hft:fit3 cad (tp+tq+tr - 1):=hfit3 _ (by omega) (by omega);obtain ⟨hsf,hkf⟩:=cfS_ok hAc h8c hdc hk1
  have hmn : ∀u∈timesS cad x (cfS cad caf (tq+tr - 1) k),u.1∈monL cad (tp+tq+tr - 1):=by
   have e:tp+(tq+tr - 1)=(tp+tq+tr - 1):=by omega
   have h9:=times_mon h8c hdc kx hsf hkx hkf (by rw [e];exact hft.1.1) (by omega)
   rwa [e] at h9
  refine Jn (Ja (hK6 (Je fun _ hK7 _=>(Jp (Je fun _ hK8 _=>(Jb (Jg (JL (i':=k) u127 sz92 rfl rfl rfl (by omega) (fun h=>hI31.sm h)) rfl ?_)))))));obtain ⟨gk,hgk,hsgk⟩:=hI31 k (by omega);refine Jg (JE rfl hgk pl92) rfl (Jg (Jd rfl) rfl (Jf (Ja (hK8 (Ea (Rs:=[_,_,_]) 18 [[], [], [1], [1,2], [1,2,3], [], [5], [], [7], [7,8], [7,8,9], [], [], [5,6,7,8,9,10,11,12], [1,2,3,4,5,6,7,8,9,10,11,12,13], [1,2,3,4,5,6,7,8,9,10,11,12,13,14], [0,1,2,3,4,5,6,7,8,9,10,11,12,13,14,15], [0,1,2,3,4,5,6,7,8,9,10,11,12,13,14,15,16]] [[], [], [], [], [20], [], [20], [], [], [], [20], [], [], [], [], [], [15], []] [[], [], [], [], [], [], [], [], [], [], [], [], [], [], [13,18], [], [19], []] rfl rfl (by kernel_rfl) ?_)))));apply Ji 1 rfl rfl rfl
  ·intros;conv=>lhs;simp only [Jh,reduceEqDiff,reduceAdd]
  ·exact Jc rfl
  apply Ji 2 rfl rfl rfl
  ·intros;conv=>lhs;simp only [Jh,reduceEqDiff,reduceAdd]
  ·exact Jc rfl
  apply Ji 3 rfl rfl rfl
  ·intros;conv=>lhs;simp only [Jh,reduceEqDiff,reduceAdd]
  ·exact Jv rfl
  apply Ji 4 rfl rfl rfl
  ·intros;conv=>lhs;simp only [Jh,reduceEqDiff,reduceAdd]
  ·exact Jl u120 rfl sz81 rfl
  apply Ji 5 rfl rfl rfl
  ·intros;conv=>lhs;simp only [Jh,reduceEqDiff,reduceAdd]
  ·exact Js rfl At.z rfl pl81
  apply Ji 6 rfl rfl rfl
  ·intros;conv=>lhs;simp only [Jh,reduceEqDiff,reduceAdd]
  ·exact Jc rfl
  apply Ez 7 rfl
  ·intros;conv=>lhs;simp only [Jh,reduceEqDiff,reduceAdd]
  ·
   intro gh X K zq zc zq2 zc2 zb zv hK;refine Ju fn58 rfl rfl fun w hH=>(degree3_c (by omega) (hH.front .z)).mono ?_;rintro _ w ⟨rfl,hH⟩;refine ⟨_,rfl,fun a hF9=>JH hF9 hH ?_⟩;refine Jy ?_;exact hK zq zc zq2 zc2 zb zv
  ·intro gh gh' h;rfl
  apply Ji 8 rfl rfl rfl
  ·intros;conv=>lhs;simp only [Jh,reduceEqDiff,reduceAdd]
  ·exact Jc rfl
  apply Ji 9 rfl rfl rfl
  ·intros;conv=>lhs;simp only [Jh,reduceEqDiff,reduceAdd]
  ·exact Jv rfl
  apply Ji 10 rfl rfl rfl
  ·intros;conv=>lhs;simp only [Jh,reduceEqDiff,reduceAdd]
  ·exact Jl u120 rfl sz92 rfl
  apply Ji 11 rfl rfl rfl
  ·intros;conv=>lhs;simp only [Jh,reduceEqDiff,reduceAdd]
  ·exact Js rfl At.z rfl pl92
  apply Ji 12 rfl rfl rfl
  ·intros;conv=>lhs;simp only [Jh,reduceEqDiff,reduceAdd]
  ·exact Jc rfl
  apply Ji 13 rfl rfl rfl
  ·intros;conv=>lhs;simp only [Jh,reduceEqDiff,reduceAdd]
  ·exact Jc rfl
  apply JR 14 rfl
  ·intros;conv=>lhs;simp only [Jh,reduceEqDiff,reduceAdd]
  ·
   intro gh X K zq zc zq2 zc2 zb zv hK;refine Ju fn45 rfl rfl fun w hH=>(times_c hx kx hcad hsgk hsf hAc.hn hAc.hd (by omega) hH).mono ?_;rintro _ w ⟨bo50,rfl,hH⟩;refine ⟨_,rfl,fun a hF=>JH hF hH ?_⟩;refine Jy ?_;exact hK zq zc zq2 zc2 bo50 zv
  ·intro gh gh' h;refine ⟨?_,?_⟩ <;> rfl
  apply JR 15 rfl
  ·intros;conv=>lhs;simp only [Jh,reduceEqDiff,reduceAdd]
  ·
   intro gh X K zq zc zq2 zc2 zb zv hK;refine Ju fn43 rfl rfl fun w hH=>(class_m (Ms:=40) pc0 pc1 pcad pcaf hcad hcaf (kx.times hsf) hGc (by omega) hft hCk hNk (by omega) hmn ((hH.front (.s .z)).front (.s .z))).mono ?_;rintro _ w ⟨qo51,co51,vo51,rfl,hH⟩;refine ⟨_,rfl,fun a hF9=>JH hF9 hH ?_⟩;refine Jy ?_;exact hK qo51 co51 zq2 zc2 zb vo51
  ·intro gh gh' h;refine ⟨?_,?_⟩ <;> (first | simp only [h 13 rfl] | rfl)
  apply JR 16 rfl
  ·intros;conv=>lhs;simp only [Jh,reduceEqDiff,reduceAdd]
  ·
   intro gh X K zq zc zq2 zc2 zb zv hK;refine EI (EN u31 ze22 sz22 rfl rfl) rfl fun qo52 co52=>(Jy ?_);exact hK qo52 co52 zq2 zc2 zb zv
  ·intro gh gh' h;refine ⟨?_,?_⟩ <;> (first | simp only [h 13 rfl,h 14 rfl] | rfl)
  apply JR 17 rfl
  ·intros;conv=>lhs;simp only [Jh,reduceEqDiff,reduceAdd]
  ·
   intro gh X K zq zc zq2 zc2 zb zv hK;refine EG u31 ze22 sz22 by22 rfl rfl rfl rfl (by omega) (.s .z) At.z (fun _ _=>At.z) rfl fun qo53 co53=>(Jw .z (Jw (.s .z) (Jy ?_)));exact hK qo53 co53 zq2 zc2 zb zv
  ·intro gh gh' h;refine ⟨?_,?_⟩ <;> (first | simp only [h 13 rfl,h 14 rfl,h 15 rfl] | rfl)
  apply Ef 18 rfl rfl rfl
  ·intros;conv=>lhs;simp only [Jh,reduceEqDiff,reduceAdd]
  ·exact Jd rfl
  ·intro gh gh' h;first | simp only [h 13 rfl,h 14 rfl,h 15 rfl,h 16 rfl] | rfl
  apply JZ [0,1,2,3,4,5,6,7,8,9,10,11,12,13,14,15,16,17] [0,1,2,3,4,5,6,7,8,9,10,11,12,14,15,16,17,20] foll0 rfl rfl rfl (by rfl)
  iterate 2 focus (intros;(conv=>lhs;simp only [JU,Ej,Ka,El,Es,eq_self,reduceEqDiff,reduceIte,reduceSub,reduceAdd,JxA,JxB]);all_goals rfl)
  intro gh;generalize (gh 13).b=bo50;generalize (gh 14).c=co51;generalize (gh 14).q=qo51;generalize (gh 14).vs=vo51;generalize (gh 15).c=co52;generalize (gh 15).q=qo52;generalize (gh 16).c=co53;generalize (gh 16).q=qo53;clear gh;refine EY .z fun Hz5 Az5 hlez5 hKz5=>?_;obtain ⟨ls51,hC51,hN51,hkp51,rfl⟩:=hKz5;refine EJ.unstar ?_;replace pc0:=pc0.le hlez5;replace pc1:=pc1.le hlez5;replace pcad:=pcad.le hlez5;replace pcaf:=pcaf.le hlez5;replace hcad:=hcad.le hlez5;replace hcaf:=hcaf.le hlez5;replace hx:=hx.le hlez5;replace hy:=hy.le hlez5;replace hz:=hz.le hlez5;replace hCc:=hCc.le hlez5;replace hC31:=hC31.le hlez5;replace hI31:=hI31.le hlez5;replace hS:=hS.le hlez5;replace hCk:=hCk.le hlez5;replace hsgk:=hsgk.le hlez5;refine EA .z fun Ho51 hleo51 hAo51=>?_;replace pc0:=pc0.le hleo51;replace pc1:=pc1.le hleo51;replace pcad:=pcad.le hleo51;replace pcaf:=pcaf.le hleo51;replace hcad:=hcad.le hleo51;replace hcaf:=hcaf.le hleo51;replace hx:=hx.le hleo51;replace hy:=hy.le hleo51;replace hz:=hz.le hleo51;replace hCc:=hCc.le hleo51;replace hC31:=hC31.le hleo51;replace hI31:=hI31.le hleo51;replace hS:=hS.le hleo51;replace hCk:=hCk.le hleo51;replace hsgk:=hsgk.le hleo51;replace hC51:=hC51.le hleo51;have hxo51:=own_ints hAo51;have hco51:=own_le hAo51;have hS2:=hS.snoc hxo51 rfl hco51;refine JF (Ja (hK7 (Jb (Jg (Jz rfl rfl (by first | exact nw _ (by omega) | rfl)) rfl (Jg (Jc rfl) rfl (Jf (Ja (JN (.s .z) ?_))))))));exact hAg0 (Ho51,ls51,qo53,co53,_,k+1) ⟨((hlk.trans hlez5).trans hleo51),⟨hC51,hN51⟩,by rw [rwA_succ hk1];exact hS2,by show k+1≤_;omega⟩ (by show cfN cad caf (tq+tr - 1) - (k+1)<cfN cad caf (tq+tr - 1) - k;omega) 26 rfl rfl ⟨rfl,⟨rfl,trivial⟩⟩ rfl rfl
 ·
  obtain rfl:k=cfN cad caf (tq+tr - 1):=by omega
  rw [← rwX_cf] at hS;refine JG (Jj (Jj (JK (Ja (hK3 (Je fun _ hK9 _=>(Je fun _ hK10 _=>(Ea (Rs:=[_,_,_]) 14 [[], [], [1], [1,2], [1,2,3], [], [5], [5,6], [5,6,7], [1,2,3,4,5,6,7,8], [1,2,3,4,5,6,7,8,9], [0,1,2,3,4,5,6,7,8,9,10], [0,1,2,3,4,5,6,7,8,9,10,11], []] [[], [], [], [], [16], [], [], [], [16], [], [], [16], [], []] [[], [], [], [], [], [], [], [], [], [], [], [14], [], []] rfl rfl (by kernel_rfl) ?_))))))));apply Ji 1 rfl rfl rfl
  ·intros;conv=>lhs;simp only [Jh,reduceEqDiff,reduceAdd]
  ·exact Jc rfl
  apply Ji 2 rfl rfl rfl
  ·intros;conv=>lhs;simp only [Jh,reduceEqDiff,reduceAdd]
  ·exact Jc rfl
  apply Ji 3 rfl rfl rfl
  ·intros;conv=>lhs;simp only [Jh,reduceEqDiff,reduceAdd]
  ·exact Jv rfl
  apply Ji 4 rfl rfl rfl
  ·intros;conv=>lhs;simp only [Jh,reduceEqDiff,reduceAdd]
  ·exact Jl u120 rfl sz2 rfl
  apply Ji 5 rfl rfl rfl
  ·intros;conv=>lhs;simp only [Jh,reduceEqDiff,reduceAdd]
  ·exact Js rfl At.z rfl pl2
  apply Ji 6 rfl rfl rfl
  ·intros;conv=>lhs;simp only [Jh,reduceEqDiff,reduceAdd]
  ·exact Jc rfl
  apply Ji 7 rfl rfl rfl
  ·intros;conv=>lhs;simp only [Jh,reduceEqDiff,reduceAdd]
  ·exact Jv rfl
  apply Ji 8 rfl rfl rfl
  ·intros;conv=>lhs;simp only [Jh,reduceEqDiff,reduceAdd]
  ·exact Jl u120 rfl sz2 rfl
  apply Ji 9 rfl rfl rfl
  ·intros;conv=>lhs;simp only [Jh,reduceEqDiff,reduceAdd]
  ·exact Js rfl At.z rfl pl2
  apply Ji 10 rfl rfl rfl
  ·intros;conv=>lhs;simp only [Jh,reduceEqDiff,reduceAdd]
  ·exact Jz rfl rfl (by first | exact nw _ (by omega) | rfl)
  apply Ji 11 rfl rfl rfl
  ·intros;conv=>lhs;simp only [Jh,reduceEqDiff,reduceAdd]
  ·exact EH rfl rfl (by first | exact nw _ (by omega) | rfl)
  apply JR 12 rfl
  ·intros;conv=>lhs;simp only [Jh,reduceEqDiff,reduceAdd]
  ·
   intro gh X K zq zc zq2 zc2 zb zv hK;refine Ju fn61 rfl rfl fun w hH=>(classForms_m pc0 pc1 pcad pcaf hcad hcaf hGc hCk hNk (by omega) (fun h9=>hfit3 _ (by omega) (by omega)) (hH.front (.s .z))).mono ?_;rintro _ w ⟨qo66,co66,vo66,rfl,hH⟩;refine ⟨_,rfl,fun a hF=>JH hF hH ?_⟩;refine Jy ?_;exact hK qo66 co66 zq2 zc2 zb vo66
  ·intro gh gh' h;refine ⟨?_,?_⟩ <;> rfl
  apply Ef 13 rfl rfl rfl
  ·intros;conv=>lhs;simp only [Jh,reduceEqDiff,reduceAdd]
  ·exact Jo u127 rfl rfl
  ·intro gh gh' h;first | simp only [h 11 rfl] | rfl
  apply Ji 14 rfl rfl rfl
  ·intros;conv=>lhs;simp only [Jh,reduceEqDiff,reduceAdd]
  ·exact Jc rfl
  apply JZ [0,1,2,3,4,5,6,7,8,9,10,11,12,13] [0,1,2,3,4,5,6,7,8,9,10,11,12,13,15,16] foll0 rfl rfl rfl (by rfl)
  iterate 2 focus (intros;(conv=>lhs;simp only [JU,Ej,Ka,El,Es,eq_self,reduceEqDiff,reduceIte,reduceSub,reduceAdd,JxA,JxB]);all_goals rfl)
  intro gh;generalize (gh 11).c=co66;generalize (gh 11).q=qo66;generalize (gh 11).vs=vo66;clear gh;refine EY .z fun Hz7 Az7 hlez7 hKz7=>?_;obtain ⟨hI66,ls66,hC66,hN66,rfl⟩:=hKz7;replace pc0:=pc0.le hlez7;replace pc1:=pc1.le hlez7;replace pcad:=pcad.le hlez7;replace pcaf:=pcaf.le hlez7;replace hcad:=hcad.le hlez7;replace hcaf:=hcaf.le hlez7;replace hx:=hx.le hlez7;replace hy:=hy.le hlez7;replace hz:=hz.le hlez7;replace hCc:=hCc.le hlez7;replace hC31:=hC31.le hlez7;replace hI31:=hI31.le hlez7;replace hS:=hS.le hlez7;replace hCk:=hCk.le hlez7;refine Ja (hK10 (Jp (JD (σ:=HP × List (Int × Lv) × Option Addr × Nat × List Value × Nat) (fun ⟨Hj,lsk,q,c,vals,k⟩=>[(68,.int .i64 (k:Int)),(4,.slice q (cfN cad caf (tq+tr - 1)+k) c)]) (fun ⟨Hj,lsk,q,c,vals,k⟩=>Hj) (fun ⟨Hj,lsk,q,c,vals,k⟩=>cpx lc lsk::own 22 1 q (cfN cad caf (tq+tr - 1)+k) c vals::obj bt (.cells [.pointer (some ⟨bc,0,none⟩),vx,vy,vz,.int .i64 tp,.int .i64 tq,.int .i64 tr,vu,vv].toArray 120 (0,0))::L) (fun ⟨Hj,lsk,q,c,vals,k⟩=>Le Hz7 Hj∧(CpxOk Hj cad caf (fun _=>False) lsk∧Nxt (fun _=>False) lsk)∧SlF Hj vals ((rwX cad caf x tp tq tr)++rwB cad caf (tp+tq+tr - 1) (tp+tq - 1) z k)∧k≤cfN cad caf (tp+tq - 1)) (fun ⟨Hj,lsk,q,c,vals,k⟩=>cfN cad caf (tp+tq - 1) - k) (Hz7,ls66,q,c,vals,0) ⟨Le.refl _,⟨hC66,hN66⟩,(by rw [show rwB cad caf (tp+tq+tr - 1) (tp+tq - 1) z 0=[] from rfl,List.append_nil];exact hS),Nat.zero_le _⟩ ⟨rfl,⟨rfl,trivial⟩⟩ rfl rfl ?_)));rintro ⟨Hj,lsk,q,c,vals,k⟩ ⟨hlj,⟨hCj,hNj⟩,hT9,hk⟩ _ hAg1;replace pc0:=pc0.le hlj;replace pc1:=pc1.le hlj;replace pcad:=pcad.le hlj;replace pcaf:=pcaf.le hlj;replace hcad:=hcad.le hlj;replace hcaf:=hcaf.le hlj;replace hx:=hx.le hlj;replace hy:=hy.le hlj;replace hz:=hz.le hlj;replace hCc:=hCc.le hlj;replace hC31:=hC31.le hlj;replace hI31:=hI31.le hlj;replace hS:=hS.le hlj;replace hCk:=hCk.le hlj;replace hC66:=hC66.le hlj;replace hI66:=hI66.le hlj;refine Je fun _ hK11 _=>(Jb (Jg (JJ rfl rfl) rfl (Jf (Ja (hK11 (Je fun _ hK12 _=>(Jq rfl (fun h69=>?_) (fun h69=>?_))))))))
  ·
   have hk0:k<cfN cad caf (tp+tq - 1):=by omega
   obtain ⟨hm0,hk1⟩:=cfN_lt hk0;have hft:fit3 cad (tp+tq+tr - 1):=hfit3 _ (by omega) (by omega);obtain ⟨hsf,hkf⟩:=cfS_ok hAc h8c hdc hk1
   have hmn : ∀u∈timesS cad (cfS cad caf (tp+tq - 1) k) z,u.1∈monL cad (tp+tq+tr - 1):=by
    have e:(tp+tq - 1)+tr=(tp+tq+tr - 1):=by omega
    have h9:=times_mon h8c hdc hsf kz hkf hkz (by rw [e];exact hft.1.1) (by omega)
    rwa [e] at h9
   refine Jn (Ja (hK12 (Je fun _ hK13 _=>(Jp (Je fun _ hK14 _=>(Jb (Jg (JL (i':=k) u127 sz92 rfl rfl rfl (by omega) (fun h=>hI66.sm h)) rfl ?_)))))));obtain ⟨gj,hgj,hsgj⟩:=hI66 k (by omega);refine Jg (JE rfl hgj pl92) rfl (Jg (Jd rfl) rfl (Jf (Ja (hK14 (Ea (Rs:=[_,_,_]) 18 [[], [], [1], [1,2], [1,2,3], [], [5], [], [], [], [9], [9,10], [9,10,11], [5,6,7,8,9,10,11,12], [1,2,3,4,5,6,7,8,9,10,11,12,13], [1,2,3,4,5,6,7,8,9,10,11,12,13,14], [0,1,2,3,4,5,6,7,8,9,10,11,12,13,14,15], [0,1,2,3,4,5,6,7,8,9,10,11,12,13,14,15,16]] [[], [], [], [], [20], [], [20], [], [], [], [], [], [20], [], [], [], [15], []] [[], [], [], [], [], [], [], [], [], [], [], [], [], [], [13,18], [], [19], []] rfl rfl (by kernel_rfl) ?_)))));apply Ji 1 rfl rfl rfl
   ·intros;conv=>lhs;simp only [Jh,reduceEqDiff,reduceAdd]
   ·exact Jc rfl
   apply Ji 2 rfl rfl rfl
   ·intros;conv=>lhs;simp only [Jh,reduceEqDiff,reduceAdd]
   ·exact Jc rfl
   apply Ji 3 rfl rfl rfl
   ·intros;conv=>lhs;simp only [Jh,reduceEqDiff,reduceAdd]
   ·exact Jv rfl
   apply Ji 4 rfl rfl rfl
   ·intros;conv=>lhs;simp only [Jh,reduceEqDiff,reduceAdd]
   ·exact Jl u120 rfl sz81 rfl
   apply Ji 5 rfl rfl rfl
   ·intros;conv=>lhs;simp only [Jh,reduceEqDiff,reduceAdd]
   ·exact Js rfl At.z rfl pl81
   apply Ji 6 rfl rfl rfl
   ·intros;conv=>lhs;simp only [Jh,reduceEqDiff,reduceAdd]
   ·exact Jc rfl
   apply Ez 7 rfl
   ·intros;conv=>lhs;simp only [Jh,reduceEqDiff,reduceAdd]
   ·
    intro gh X K zq zc zq2 zc2 zb zv hK;refine Ju fn58 rfl rfl fun w hH=>(degree3_c (by omega) (hH.front .z)).mono ?_;rintro _ w ⟨rfl,hH⟩;refine ⟨_,rfl,fun a hF9=>JH hF9 hH ?_⟩;refine Jy ?_;exact hK zq zc zq2 zc2 zb zv
   ·intro gh gh' h;rfl
   apply Ji 8 rfl rfl rfl
   ·intros;conv=>lhs;simp only [Jh,reduceEqDiff,reduceAdd]
   ·exact Jc rfl
   apply Ji 9 rfl rfl rfl
   ·intros;conv=>lhs;simp only [Jh,reduceEqDiff,reduceAdd]
   ·exact Jc rfl
   apply Ji 10 rfl rfl rfl
   ·intros;conv=>lhs;simp only [Jh,reduceEqDiff,reduceAdd]
   ·exact Jc rfl
   apply Ji 11 rfl rfl rfl
   ·intros;conv=>lhs;simp only [Jh,reduceEqDiff,reduceAdd]
   ·exact Jv rfl
   apply Ji 12 rfl rfl rfl
   ·intros;conv=>lhs;simp only [Jh,reduceEqDiff,reduceAdd]
   ·exact Jl u120 rfl sz92 rfl
   apply Ji 13 rfl rfl rfl
   ·intros;conv=>lhs;simp only [Jh,reduceEqDiff,reduceAdd]
   ·exact Js rfl At.z rfl pl92
   apply JR 14 rfl
   ·intros;conv=>lhs;simp only [Jh,reduceEqDiff,reduceAdd]
   ·
    intro gh X K zq zc zq2 zc2 zb zv hK;refine Ju fn45 rfl rfl fun w hH=>(times_c hsgj hsf hcad hz kz hAc.hn hAc.hd (by omega) hH).mono ?_;rintro _ w ⟨bo85,rfl,hH⟩;refine ⟨_,rfl,fun a hF=>JH hF hH ?_⟩;refine Jy ?_;exact hK zq zc zq2 zc2 bo85 zv
   ·intro gh gh' h;refine ⟨?_,?_⟩ <;> rfl
   apply JR 15 rfl
   ·intros;conv=>lhs;simp only [Jh,reduceEqDiff,reduceAdd]
   ·
    intro gh X K zq zc zq2 zc2 zb zv hK;refine Ju fn43 rfl rfl fun w hH=>(class_m (Ms:=40) pc0 pc1 pcad pcaf hcad hcaf (hsf.times kz) hGc (by omega) hft hCj hNj (by omega) hmn ((hH.front (.s .z)).front (.s .z))).mono ?_;rintro _ w ⟨qo86,co86,vo86,rfl,hH⟩;refine ⟨_,rfl,fun a hF9=>JH hF9 hH ?_⟩;refine Jy ?_;exact hK qo86 co86 zq2 zc2 zb vo86
   ·intro gh gh' h;refine ⟨?_,?_⟩ <;> (first | simp only [h 13 rfl] | rfl)
   apply JR 16 rfl
   ·intros;conv=>lhs;simp only [Jh,reduceEqDiff,reduceAdd]
   ·
    intro gh X K zq zc zq2 zc2 zb zv hK;refine EI (EN u31 ze22 sz22 rfl rfl) rfl fun qo87 co87=>(Jy ?_);exact hK qo87 co87 zq2 zc2 zb zv
   ·intro gh gh' h;refine ⟨?_,?_⟩ <;> (first | simp only [h 13 rfl,h 14 rfl] | rfl)
   apply JR 17 rfl
   ·intros;conv=>lhs;simp only [Jh,reduceEqDiff,reduceAdd]
   ·
    intro gh X K zq zc zq2 zc2 zb zv hK;refine EG u31 ze22 sz22 by22 rfl rfl rfl rfl (by omega) (.s .z) At.z (fun _ _=>At.z) rfl fun qo88 co88=>(Jw .z (Jw (.s .z) (Jy ?_)));exact hK qo88 co88 zq2 zc2 zb zv
   ·intro gh gh' h;refine ⟨?_,?_⟩ <;> (first | simp only [h 13 rfl,h 14 rfl,h 15 rfl] | rfl)
   apply Ef 18 rfl rfl rfl
   ·intros;conv=>lhs;simp only [Jh,reduceEqDiff,reduceAdd]
   ·exact Jd rfl
   ·intro gh gh' h;first | simp only [h 13 rfl,h 14 rfl,h 15 rfl,h 16 rfl] | rfl
   apply JZ [0,1,2,3,4,5,6,7,8,9,10,11,12,13,14,15,16,17] [0,1,2,3,4,5,6,7,8,9,10,11,12,14,15,16,17,20] foll0 rfl rfl rfl (by rfl)
   iterate 2 focus (intros;(conv=>lhs;simp only [JU,Ej,Ka,El,Es,eq_self,reduceEqDiff,reduceIte,reduceSub,reduceAdd,JxA,JxB]);all_goals rfl)
   intro gh;generalize (gh 13).b=bo85;generalize (gh 14).c=co86;generalize (gh 14).q=qo86;generalize (gh 14).vs=vo86;generalize (gh 15).c=co87;generalize (gh 15).q=qo87;generalize (gh 16).c=co88;generalize (gh 16).q=qo88;clear gh;refine EY .z fun Hz10 Az10 hlez10 hKz10=>?_;obtain ⟨ls86,hC86,hN86,hkp86,rfl⟩:=hKz10;refine EJ.unstar ?_;replace pc0:=pc0.le hlez10;replace pc1:=pc1.le hlez10;replace pcad:=pcad.le hlez10;replace pcaf:=pcaf.le hlez10;replace hcad:=hcad.le hlez10;replace hcaf:=hcaf.le hlez10;replace hx:=hx.le hlez10;replace hy:=hy.le hlez10;replace hz:=hz.le hlez10;replace hCc:=hCc.le hlez10;replace hC31:=hC31.le hlez10;replace hI31:=hI31.le hlez10;replace hS:=hS.le hlez10;replace hCk:=hCk.le hlez10;replace hC66:=hC66.le hlez10;replace hI66:=hI66.le hlez10;replace hT9:=hT9.le hlez10;replace hCj:=hCj.le hlez10;replace hsgj:=hsgj.le hlez10;refine EA .z fun Ho86 hleo86 hAo86=>?_;replace pc0:=pc0.le hleo86;replace pc1:=pc1.le hleo86;replace pcad:=pcad.le hleo86;replace pcaf:=pcaf.le hleo86;replace hcad:=hcad.le hleo86;replace hcaf:=hcaf.le hleo86;replace hx:=hx.le hleo86;replace hy:=hy.le hleo86;replace hz:=hz.le hleo86;replace hCc:=hCc.le hleo86;replace hC31:=hC31.le hleo86;replace hI31:=hI31.le hleo86;replace hS:=hS.le hleo86;replace hCk:=hCk.le hleo86;replace hC66:=hC66.le hleo86;replace hI66:=hI66.le hleo86;replace hT9:=hT9.le hleo86;replace hCj:=hCj.le hleo86;replace hsgj:=hsgj.le hleo86;replace hC86:=hC86.le hleo86;have hxo86:=own_ints hAo86;have hco86:=own_le hAo86;have hS2:=hT9.snoc hxo86 rfl hco86;refine JF (Ja (hK13 (Jb (Jg (Jz rfl rfl (by first | exact nw _ (by omega) | rfl)) rfl (Jg (Jc rfl) rfl (Jf (Ja (JN (.s .z) ?_))))))));exact hAg1 (Ho86,ls86,qo88,co88,_,k+1) ⟨((hlj.trans hlez10).trans hleo86),⟨hC86,hN86⟩,by rw [rwB_succ hk1,← List.append_assoc];exact hS2,by show k+1≤_;omega⟩ (by show cfN cad caf (tp+tq - 1) - (k+1)<cfN cad caf (tp+tq - 1) - k;omega) 26 rfl rfl ⟨rfl,⟨rfl,trivial⟩⟩ rfl rfl
  ·
   obtain rfl:k=cfN cad caf (tp+tq - 1):=by omega
   rw [← rwZ_cf] at hT9;have hlX:=rwX_len (ds:=cad) (fs:=caf) (x:=x) (p:=tp) (q:=tq) (r:=tr);have hlZ:=rwZ_len (ds:=cad) (fs:=caf) (z:=z) (p:=tp) (q:=tq) (r:=tr);refine JG (Jj (Jj (JK (Ja (hK9 (Je fun _ hK15 _=>(Jb (Jg (Ep (v':=.slice q ((rwX cad caf x tp tq tr)++(rwZ cad caf z tp tq tr)).length c) (by rw [List.length_append,hlX,hlZ]) (Jc rfl)) rfl (Ev (.s .z) fun Ho19 hleo19 hAo19=>?_)))))))));replace pc0:=pc0.le hleo19;replace pc1:=pc1.le hleo19;replace pcad:=pcad.le hleo19;replace pcaf:=pcaf.le hleo19;replace hcad:=hcad.le hleo19;replace hcaf:=hcaf.le hleo19;replace hx:=hx.le hleo19;replace hy:=hy.le hleo19;replace hz:=hz.le hleo19;replace hCc:=hCc.le hleo19;replace hC31:=hC31.le hleo19;replace hI31:=hI31.le hleo19;replace hS:=hS.le hleo19;replace hCk:=hCk.le hleo19;replace hC66:=hC66.le hleo19;replace hI66:=hI66.le hleo19;replace hT9:=hT9.le hleo19;replace hCj:=hCj.le hleo19;have hxo19:=hT9.rows (Le.refl _) hAo19;have hco19:=own_le hAo19;refine Ju fn46 rfl rfl fun w hH=>(reduce_c (W:=(csS cad caf (tp+tq+tr - 1)).length) hxo19 (app_row (rwX_row hGc hwc kx) (rwZ_row hGc hwc kz)) (by rw [List.length_append,hlX,hlZ];omega) (by omega) hH).mono ?_;rintro _ w ⟨qo91,co91,vso91,rfl,hH⟩;refine ⟨_,rfl,fun a hF=>JH hF hH ?_⟩;refine Jg (Jd rfl) rfl (Jf (Ja (hK15 (Jt (Jr rfl (Res.tmp rfl) fun w hH=>?_)))));replace hH:=hH.sublist (.cons_cons _ (.cons_cons _ (.cons_cons _ (List.Sublist.refl _))));unfold inS;exact ⟨_,_,_,_,_,((((hlez2.trans hlk).trans hlez7).trans hlj).trans hleo19),hCj,hNj,rfl,(hH.front (.s (.s .z))).front (.s .z)⟩
theorem u112:Tryz.prog.underlying 112=some (TypeDesc.array 3 2):=by kernel_rfl
theorem u113:Tryz.prog.underlying 113=some (TypeDesc.array 3 40):=by kernel_rfl
theorem sz112:Size Tryz.prog 112 3:=by unfold Size;kernel_rfl
theorem bz112 : ∀w,(Instr.build 112 #[]).run Tryz.prog w = .ok (.agg [.int .i64 0,.int .i64 0,.int .i64 0].toArray) w:=fun _=>by kernel_rfl
theorem ze112:Zero Tryz.prog 112 [.int .i64 0,.int .i64 0,.int .i64 0]:=by unfold Zero;kernel_rfl
theorem fn28:Fn Tryz.prog 28:=⟨_,Tryz.func28,by kernel_rfl,rfl⟩
theorem fn29:Fn Tryz.prog 29:=⟨_,Tryz.func29,by kernel_rfl,rfl⟩
theorem fn55:Fn Tryz.prog 55:=⟨_,Tryz.func55,by kernel_rfl,rfl⟩
theorem fn60:Fn Tryz.prog 60:=⟨_,Tryz.func60,by kernel_rfl,rfl⟩
theorem bd113_0_1_2 : ∀(q0:Option Addr) (m0 c0:Nat) (q1:Option Addr) (m1 c1:Nat) (q2:Option Addr) (m2 c2:Nat) w,(Instr.build 113 #[(0,.agg [.slice q0 m0 c0].toArray),(1,.agg [.slice q1 m1 c1].toArray),(2,.agg [.slice q2 m2 c2].toArray)]).run Tryz.prog w = .ok (.agg [.slice q0 m0 c0,.slice q1 m1 c1,.slice q2 m2 c2].toArray) w:=fun q0 m0 c0 q1 m1 c1 q2 m2 c2 _=>by kernel_rfl
theorem bd120_0_1_2_3_4_5_6 : ∀(p0:Option Addr) (b1:Nat) (b2:Nat) (b3:Nat) (n4:Int) (n5:Int) (n6:Int) w,(Instr.build 120 #[(0,.pointer p0),(1,.map (some b1)),(2,.map (some b2)),(3,.map (some b3)),(4,.int .i64 n4),(5,.int .i64 n5),(6,.int .i64 n6)]).run Tryz.prog w = .ok (.agg [.pointer p0,.map (some b1),.map (some b2),.map (some b3),.int .i64 n4,.int .i64 n5,.int .i64 n6,.map none,.map none].toArray) w:=fun p0 b1 b2 b3 n4 n5 n6 _=>by kernel_rfl
section
variable {P : Program} {n : Nat} {B : World} {H0 H : HP} {us : List (Nat × Value)} {L : List SA} {t : TypeId} {x y : Operand}
theorem PR.indexA {ty e:TypeId} {k:IntKind} {m:Nat} {cs:List Value} {i:Int} {i':Nat} (hu:P.underlying ty=some (.array m e)) (hs:Size P e 1) (hp:Agg P e 1) (hx:opv us x=some (.agg cs.toArray)) (hy:opv us y=some (.int k i)) (hi:i=(i':Int)) (hl:i'<m) :
 PR P n B H0 us H L (.index ty x y) t (.agg ((cs.drop i').take 1).toArray):=
 fun _ _ _ _ a w hF _=>by
  subst hi
  simp [execOp,hF.ev hx,hF.ev hy,Instr.index,asIntOf,run_underlying hu,hs.run,_root_.Go.part,hp.run,hl,List.extract_eq_take_drop]
end
theorem three_at {H:HP} {qx qy qz:Option Addr} {cx cy cz:Nat} {x y z:List Term} (hx:Terms H qx x) (hy:Terms H qy y) (hz:Terms H qz z) : ∀{k:Nat},k<3→∃q c,(([.slice qx x.length cx,.slice qy y.length cy,.slice qz z.length cz]:List Value).drop k).take 1=[.slice q (fm [x,y,z] k).length c]∧Terms H q (fm [x,y,z] k)
 | 0,_=>⟨qx,cx,rfl,hx⟩
 | 1,_=>⟨qy,cy,rfl,hy⟩
 | 2,_=>⟨qz,cz,rfl,hz⟩
 | k+3,h=>absurd h (by omega)
def dgZ (ds:List Int) (fs:List (List Term)) (k:Nat):List Int:=dgK ds fs k++List.replicate (fs.length - k) 0
theorem dgZ_len {ds:List Int} {fs:List (List Term)} {k:Nat} (hk:k≤fs.length):(dgZ ds fs k).length=fs.length:=by
 unfold dgZ dgK;rw [List.length_append,List.length_map,List.length_take_of_le hk,List.length_replicate]
 omega
theorem dgZ_succ {ds:List Int} {fs:List (List Term)} {k:Nat} (hk:k<fs.length):(dgZ ds fs k).set k (degF ds (fm fs k))=dgZ ds fs (k+1):=by
 have hl:(dgK ds fs k).length=k:=by unfold dgK;rw [List.length_map,List.length_take_of_le (by omega)]
 unfold dgZ;rw [dgK_succ hk,List.set_append,if_neg (by omega),hl,Nat.sub_self,show fs.length - k=fs.length - (k+1)+1 by omega,List.replicate_succ,List.set_cons_zero,List.append_assoc]
 rfl
theorem codeA_three (ds:List Int) (fs:List (List Term)) (x y z:List Term):codeA ds fs [x,y,z]=if isAlg ds fs && (isForm ds x && (isForm ds y && isForm ds z)) then 0 else 1:=by unfold codeA;simp
section
variable {ds : List Int} {fs : List (List Term)} {x y z : List Term}
theorem c3_ne (h:(if isAlg ds fs && (isForm ds x && (isForm ds y && isForm ds z)) then 0 else 1:Int)≠0):(if isAlg ds fs && (isForm ds x && (isForm ds y && isForm ds z)) then 0 else 1:Int)=1∧trC ds fs x y z=1:=by
 cases hh:(isAlg ds fs && (isForm ds x && (isForm ds y && isForm ds z))) with
 | true=>rw [hh] at h;exact absurd rfl h
 | false=>exact ⟨rfl,by unfold trC;rw [hh];rfl⟩
theorem c3_eq (h : ¬(if isAlg ds fs && (isForm ds x && (isForm ds y && isForm ds z)) then 0 else 1:Int)≠0):isAlg ds fs=true∧isForm ds x=true∧isForm ds y=true∧isForm ds z=true:=by
 cases hh:(isAlg ds fs && (isForm ds x && (isForm ds y && isForm ds z))) with
 | false=>rw [hh] at h;exact absurd (by decide) h
 | true=>simpa using hh
theorem up_tr (hG:isAlg ds fs=true) (h0:0≤trD ds x y z):upC ds (max (trD ds x y z - 1) 0)=if wiB ds 0 (trD ds x y z - 1+1) then 0 else 3:=by
 unfold upC;rw [up_wi]
 by_cases h:trD ds x y z=0
 ·have e1:wiB ds 0 (max (trD ds x y z - 1) 0+1)=true:=wiB_yes fun k hk=>by
   rcases (show max (0:Int) 0+(k:Int)=0∨max (0:Int) 0+(k:Int)=1 by omega) with e | e <;> rw [e]
   ·exact fit_zero hG
   ·exact fit_one hG
  have e2:wiB ds 0 (trD ds x y z - 1+1)=true:=wiB_yes fun k hk=>by
   rw [show max (0:Int) 0+(k:Int)=0 by omega];exact fit_zero hG
  rw [e1,e2]
 ·rw [show max (trD ds x y z - 1) 0=trD ds x y z - 1 by omega]
theorem vmax2 (a:Int):Value.int .i64 (if 0>a then 0 else a) = .int .i64 (max a 0):=by
 congr 1
 omega
theorem mk_eq {c:Int} (h:trC ds fs x y z=c) (h0:c≠0):mkC ds fs x y z=c:=(mkC_n (by rw [h];exact h0)).trans h
end
theorem Hp.ifY {B:World} {H0 H:HP} {L:List SA} {w:World} {A:SA} {C:Prop} [Decidable C] (hC:C) (h:Hp B H0 H (A::L) w):Hp B H0 H ((if C then A else G.emp)::L) w:=by
 rw [if_pos hC];exact h
theorem Hp.ifN {B:World} {H0 H:HP} {L:List SA} {w:World} {A:SA} {C:Prop} [Decidable C] (hC : ¬C) (h:Hp B H0 H L w):Hp B H0 H ((if C then A else G.emp)::L) w:=by
 rw [if_neg hC];exact h.emp
def KNc (ba b:Nat):HP→SA→Prop:=fun F A=>∃lc,CellAt F b 0 (.pointer (some ⟨ba,0,none⟩))∧CellAt F b 1 (.map (some lc))∧A=cpx lc []
theorem newComplex_m {B:World} {H0 H:HP} {L:List SA} {w:World} {ba:Nat} {qad qaf:Option Addr} {cad caf:Nat} {ad:List Int} {af:List (List Term)} (pad:CellAt H ba 0 (.slice qad ad.length cad)) (paf:CellAt H ba 1 (.slice qaf af.length caf)) (had:Ints H qad ad) (haf:Forms H qaf af) (hH:Hp B H0 H L w) :
 Calls Tryz.prog 56 [.pointer (some ⟨ba,0,none⟩)].toArray w fun e w'=>∃b vs,e = .returned (.pointer (some ⟨b,0,none⟩))∧Hp B H0 H (mltA (KNc ba b) H vs::L) w':=
 (newComplex_c pad paf had haf hH).mono fun e w' ⟨H',b,lc,hle,h0,h1,he,hH'⟩=>by
  obtain ⟨vs,hv⟩:=Hp.meltA hH hH' hle (K:=KNc ba b) ⟨lc,h0,h1,rfl⟩
  exact ⟨b,vs,he,hv⟩
theorem tripleOf_c {B:World} {H0 H:HP} {L:List SA} {w:World} {ba:Nat} {qad qaf:Option Addr} {cad caf:Nat} {ad:List Int} {af:List (List Term)} {qx:Option Addr} {cx:Nat} {x:List Term} {qy:Option Addr} {cy:Nat} {y:List Term} {qz:Option Addr} {cz:Nat} {z:List Term} (pad:CellAt H ba 0 (.slice qad ad.length cad)) (paf:CellAt H ba 1 (.slice qaf af.length caf)) (had:Ints H qad ad) (haf:Forms H qaf af) (hx:Terms H qx x) (hy:Terms H qy y) (hz:Terms H qz z) (hn8:ad.length≤1048576) (hn9:af.length≤1048576) (hl9 : ∀i,i<af.length→(fm af i).length≤1048576) (hlx:x.length≤9223372036854775807) (hly:y.length≤9223372036854775807) (hlz:z.length≤9223372036854775807) (hcx:x.length≤cx) (hcy:y.length≤cy) (hcz:z.length≤cz) (hH:Hp B H0 H L w):Calls Tryz.prog 28 [.pointer (some ⟨ba,0,none⟩),.agg [.slice qx x.length cx].toArray,.agg [.slice qy y.length cy].toArray,.agg [.slice qz z.length cz].toArray].toArray w fun e w'=>∃H' b bc lc ls' vx vy vz u v vl,Le H H' ∧(mkC ad af x y z=0→vl=some ⟨b,0,none⟩∧CellAt H' bc 0 (.pointer (some ⟨ba,0,none⟩))∧CellAt H' bc 1 (.map (some lc))∧SumH H' vx (toS x)∧SumH H' vy (toS y)∧SumH H' vz (toS z)∧CpxOk H' ad af (fun _=>False) ls' ∧Nxt (fun _=>False) ls')∧e = .returned (.tuple #[.pointer vl,.int .i64 (mkC ad af x y z)])∧Hp B H0 H' ((if mkC ad af x y z=0 then star (obj b (.cells [.pointer (some ⟨bc,0,none⟩),vx,vy,vz,.int .i64 (degF ad x),.int .i64 (degF ad y),.int .i64 (degF ad z),u,v].toArray 120 (0,0))) (cpx lc ls') else G.emp)::L) w':=by
 refine Jx Tryz.func28 rfl 95 rfl rfl [(0,.pointer (some ⟨ba,0,none⟩)),(1,.agg [.slice qx x.length cx].toArray),(2,.agg [.slice qy y.length cy].toArray),(3,.agg [.slice qz z.length cz].toArray)] rfl hH ?_;clear hH;have hl3 : ∀i,i<3→(fm [x,y,z] i).length≤9223372036854775807:=all_three (P:=fun ts=>ts.length≤9223372036854775807) hlx hly hlz;refine Je fun _ hK1 _=>(Jb (JW rfl rfl rfl fun g5=>(JW rfl rfl rfl fun g6=>(JW rfl rfl rfl fun g7=>(Jg (Jd rfl) rfl (Jg (Jd rfl) rfl (Jf (Ja (hK1 (Je fun _ hK2 _=>(Je fun _ hK3 _=>(Jb (Jg (Jc rfl) rfl (Jg (Jm rfl (.s (.s .z)) (by simpa [*] using ag40)) rfl (Jg (Jm rfl (.s .z) (by simpa [*] using ag40)) rfl ?_)))))))))))))));refine Jg (Jm rfl At.z (by simpa [*] using ag40)) rfl (J.lit3A u34 ze40 sz40 rfl rfl rfl rfl rfl rfl rfl fun g22=>(J.freezeRow .z fun H22 hle22 hc22=>?_));replace pad:=pad.le hle22;replace paf:=paf.le hle22;replace had:=had.le hle22;replace haf:=haf.le hle22;replace hx:=hx.le hle22;replace hy:=hy.le hle22;replace hz:=hz.le hle22;have hF3:=forms_three (hc22 0 _ rfl) (hc22 1 _ rfl) (hc22 2 _ rfl) hcx hcy hcz hx hy hz;have hW3:Wfss [x,y,z]:=hF3.wfss;refine Ju fn53 rfl rfl fun w hH=>(algebraCode_c pad paf had haf hF3 hn8 hn9 hl9 (by simp) hl3 hH).mono ?_;rintro _ w ⟨rfl,hH⟩;refine ⟨_,rfl,fun a hF=>JH hF hH ?_⟩;refine Jg (Jd rfl) rfl (Jf (Ja (hK3 (Je fun _ hK4 _=>(Jb (Jg (Jc rfl) rfl (Jg (Eo rfl rfl) rfl (Jf (Ja (hK4 (Jq rfl (fun h25=>?_) (fun h25=>?_))))))))))))
 ·
  rw [codeA_three] at h25 ⊢;obtain ⟨e25,h1⟩:=c3_ne h25;refine Je fun _ hK5 _=>(Jb (Jg (Jc rfl) rfl (Jg (Jd rfl) rfl (Jg (Jd rfl) rfl (Jf (Ja (hK5 (Jt (Jk (Eg rfl (Res.tmp rfl) (Res.tmp rfl) fun w hH=>?_))))))))));replace hH:=hH.sublist (.cons _ (.cons _ (.cons _ (List.Sublist.refl _))));have hc:=mk_eq h1 (by decide)
  have hne : ¬mkC ad af x y z=0:=by rw [hc];decide
  exact ⟨_,0,0,0, [],.map none,.map none,.map none,.map none,.map none,none,hle22,fun h=>absurd h hne,by rw [hc,e25],hH.ifN hne⟩
 ·
  rw [codeA_three] at h25;obtain ⟨hG,fx,fy,fz⟩:=c3_eq h25;have hwf:=haf.wfss;have hA:=isAlg_ok hG hwf;have h8:=hA.hn;have hd:=alg_112 hG
  have hFF:(isForm ad x && (isForm ad y && isForm ad z))=true:=by rw [fx,fy,fz];rfl
  have hf3:=all_three (P:=fun ts=>isForm ad ts=true) fx fy fz;refine Jn (Ja (hK2 (Je fun _ hK6 _=>(Jb (Jg (EB bz112) rfl (JP ze112 rfl fun g11=>(JB rfl rfl (by first | exact bytesC_one _ | exact intsC_one _ | exact Term.c_one _ | simp [Value.oneCell']) (by simpa [*] using sz112) (by simp [*]) At.z (Jf (Ja (hK6 (Je fun _ hK7 _=>(Je fun _ hK8 _=>(Jb (Jg (Jm rfl (.s (.s (.s .z))) (by simpa [*] using ag40)) rfl (Jg (Jm rfl (.s (.s .z)) (by simpa [*] using ag40)) rfl (Jg (Jm rfl (.s .z) (by simpa [*] using ag40)) rfl ?_))))))))))))))));refine Jg (PR.buildN (vs:=[_,_,_]) rfl (fun w=>bd113_0_1_2 _ _ _ _ _ _ _ _ _ w)) rfl (Jg (Jc rfl) rfl (Jf (Ja (hK8 (Jp (JD (σ:=Nat) (fun (k:Nat)=>[(32,.int .i64 (k:Int))]) (fun (k:Nat)=>H22) (fun (k:Nat)=>obj g11 (.cells (intsC (dgZ ad [x,y,z] k)).toArray 112 (0,0))::obj g7 (.cells [.slice qz z.length cz].toArray 40 (0,0))::obj g6 (.cells [.slice qy y.length cy].toArray 40 (0,0))::obj g5 (.cells [.slice qx x.length cx].toArray 40 (0,0))::L) (fun (k:Nat)=>k≤3∧∀j,j<k→trB ad af (fm [x,y,z] j)=true) (fun (k:Nat)=>3 - k) 0 ⟨by omega,fun j hj=>by omega⟩ ⟨rfl,trivial⟩ rfl rfl ?_))))));rintro k ⟨hk,hJ⟩ _ hAg0;refine Je fun _ hK9 _=>(Jb (Jg (JJ rfl rfl) rfl (Jf (Ja (hK9 (Je fun _ hK10 _=>(Jq rfl (fun h33=>?_) (fun h33=>?_))))))))
  ·
   have hk3:k<3:=by omega
   have hl3i:=hl3 k hk3;have hFo:=hf3 k hk3;have hwi:=hW3.fm k;have hF4:=isForm_len4 hFo;have hFs9:=isForm_sok hwi hFo;have hFk:=isForm_kex hA.hd hA.hn hwi hFo;have hocc:=Ex.occ hFk hA.hl;obtain ⟨qk,ck,hek,htk⟩:=three_at (cx:=cx) (cy:=cy) (cz:=cz) hx hy hz hk3;refine Jn (Ja (hK10 (Je fun _ hK11 _=>(Jp (Je fun _ hK12 _=>(Jb (Jg (Jc rfl) rfl (Jg (Ep (v':=.agg [.slice qk (fm [x,y,z] k).length ck].toArray) (by rw [hek]) (PR.indexA u113 sz40 ag40 rfl rfl rfl (by omega))) rfl (JP ze40 rfl fun g13=>(Jg (Jd rfl) rfl (JB rfl rfl (by first | exact bytesC_one _ | exact intsC_one _ | exact Term.c_one _ | simp [Value.oneCell']) (by simpa [*] using sz40) (by simp [*]) At.z (Jf (Ja (hK12 (Je fun _ hK13 _=>(Er [[], [0], [1], [2], []] (by kernel_rfl) ?_))))))))))))))));refine JA (fun gh=>Jc rfl) (JA (fun gh=>Jv rfl) (JA (fun gh=>Jl u36 rfl sz22 rfl) (JA (fun gh=>JE (q:=some ⟨ba,0,none⟩) (k:=0) rfl pad pl22) (JA (fun gh=>Jm rfl At.z (by simpa [*] using ag40)) (Ec 5 1 foll0 (by kernel_rfl) rfl rfl fun gh=>(En (us':=(37,_)::(38,_)::(39,_)::(40,_)::(41,_)::_) (L':=_) rfl rfl (Ju fn54 rfl rfl fun w hH=>(degreeOf_c had htk hA.hn hA.hd hl3i hH).mono ?_)))))));rintro _ w ⟨rfl,hH⟩;refine ⟨_,rfl,fun a hF=>JH hF hH ?_⟩;refine Jf (Eb (JC (Jc rfl) rfl (JC (JI rfl rfl) rfl (JC (JI rfl rfl) rfl (JC (Jd rfl) rfl (JC (Jd rfl) rfl (Ed (Ja (hK13 (Je fun _ hK14 _=>(Je fun _ hK15 _=>(Jb (Jg (Jc rfl) rfl (Jg (Em rfl) rfl (Jg (Jc rfl) rfl ?_)))))))))))))));refine Ek (jd:=47) rfl (fun h47=>?_) (fun h47=>?_)
   ·
    try have h47p:=of_decide_eq_true h47
    refine JQ rfl rfl rfl h47 (JQ rfl rfl rfl h47 (Jg (JY rfl h47 rfl) rfl (Jg (Jc rfl) rfl (JQ rfl rfl rfl rfl (JQ rfl rfl rfl rfl (JQ rfl rfl rfl rfl (JQ rfl rfl rfl rfl (Jg (JY rfl rfl rfl) rfl (Jf (Ja (hK15 (Ew rfl (Je fun _ hK16 _=>(Jb (Jg (Jd rfl) rfl ?_)))))))))))))));refine Jg (Jd rfl) rfl (Jf (Ja (hK16 (Jt (Jk (JO (Jk (Jk (JO (Jk (Eg rfl (Res.tmp rfl) (Res.tmp rfl) fun w hH=>?_)))))))))));replace hH:=hH.sublist (.cons _ (.cons _ (.cons _ (.cons _ (.cons _ (List.Sublist.refl _))))));have hc:=mk_eq (trC_5 hG hFF (trB_n hk3 (trB_1 h47))) (by decide)
    have hne : ¬mkC ad af x y z=0:=by rw [hc];decide
    exact ⟨_,0,0,0, [],.map none,.map none,.map none,.map none,.map none,none,hle22,fun h=>absurd h hne,by rw [hc],hH.ifN hne⟩
   ·
    try have h47p:=of_decide_eq_false h47
    refine JV (Jc rfl) rfl rfl rfl h47 (JV (JJ rfl rfl) rfl rfl rfl h47 (Jg (JX rfl h47 rfl) rfl (Jg (Jc rfl) rfl (Ek (jd:=51) rfl (fun h51=>?_) (fun h51=>?_)))))
    ·
     try have h51p:=of_decide_eq_true h51
     refine JQ rfl rfl rfl h51 (JQ rfl rfl rfl h51 (JQ rfl rfl rfl h51 (JQ rfl rfl rfl h51 (Jg (JY rfl h51 rfl) rfl (Jf (Ja (hK15 (Ew rfl (Je fun _ hK17 _=>(Jb (Jg (Jd rfl) rfl (Jg (Jd rfl) rfl (Jf (Ja (hK17 (Jt ?_))))))))))))))));refine Jk (JO (Jk (Jk (JO (Jk (Eg rfl (Res.tmp rfl) (Res.tmp rfl) fun w hH=>?_))))));replace hH:=hH.sublist (.cons _ (.cons _ (.cons _ (.cons _ (.cons _ (List.Sublist.refl _))))));have hc:=mk_eq (trC_5 hG hFF (trB_n hk3 (trB_2 h51p))) (by decide)
     have hne : ¬mkC ad af x y z=0:=by rw [hc];decide
     exact ⟨_,0,0,0, [],.map none,.map none,.map none,.map none,.map none,none,hle22,fun h=>absurd h hne,by rw [hc],hH.ifN hne⟩
    ·
     try have h51p:=of_decide_eq_false h51
     refine JV (Jc rfl) rfl rfl rfl h51 (JV (Jm rfl At.z (by simpa [*] using ag40)) rfl rfl rfl h51 (EW fn55 rfl rfl h51 rfl rfl fun w hH=>(isClosed_c pad paf had haf htk hA.hn hA.hd hA.fok hA.hl hFs9 hocc (by omega) (by omega) hH).mono ?_));rintro _ w ⟨rfl,hH⟩;refine ⟨_,rfl,fun a hF=>JH hF hH ?_⟩;refine JV (Em rfl) rfl rfl rfl h51 (Jg (JX rfl h51 rfl) rfl (Jf (Ja (hK15 (Ei rfl (fun h56=>?_) (fun h56=>?_))))))
     ·
      refine Je fun _ hK18 _=>(Jb (Jg (Jd rfl) rfl (Jg (Jd rfl) rfl (Jf (Ja (hK18 (Jt (Jk (JO (Jk (Jk (JO (Jk (Eg rfl (Res.tmp rfl) (Res.tmp rfl) fun w hH=>?_))))))))))))));replace hH:=hH.sublist (.cons _ (.cons _ (.cons _ (.cons _ (.cons _ (List.Sublist.refl _))))));have hc:=mk_eq (trC_5 hG hFF (trB_n hk3 (trB_3 (by have:=of_decide_eq_false (not_f h56);omega)))) (by decide)
      have hne : ¬mkC ad af x y z=0:=by rw [hc];decide
      exact ⟨_,0,0,0, [],.map none,.map none,.map none,.map none,.map none,none,hle22,fun h=>absurd h hne,by rw [hc],hH.ifN hne⟩
     ·
      have htb:trB ad af (fm [x,y,z] k)=true:=trB_4 h47 h51p (by have:=of_decide_eq_true (not_t h56);omega);refine Jn (Ja (hK14 (Jb (Jg (Jc rfl) rfl (Jg (Jc rfl) rfl (Jg (JT u112 sz2 rfl rfl rfl (by omega)) rfl (J.storeI rfl rfl sz2 ((by rw [dgZ_len (by show k≤3;omega)];exact hk3)) (.s .z) (Jf (JF (Ja (hK11 (Jb (Jg (Jz rfl rfl (by first | exact nw _ (by omega) | rfl)) rfl (Jg (Jc rfl) rfl (Jf (Ja ?_))))))))))))))));refine JN .z ?_
      exact hAg0 (k+1) ⟨by omega,fun j hj=>by
       rcases Nat.lt_or_ge j k with h | h
       ·exact hJ j h
       ·rw [show j=k by omega];exact htb⟩ (by show 3 - (k+1)<3 - k;omega) 34 rfl rfl ⟨rfl,trivial⟩ rfl (by rw [dgZ_succ hk3])
  ·
   obtain rfl:k=3:=by omega
   have hBB:=trB_y hJ;have hux:=degF_le (ts:=x) hA (hW3.fm 0);have huy:=degF_le (ts:=y) hA (hW3.fm 1);have huz:=degF_le (ts:=z) hA (hW3.fm 2);have hbb:=hBB;simp only [Bool.and_eq_true] at hbb;obtain ⟨b1,b2,b3⟩:=hbb;unfold trB at b1 b2 b3;simp only [Bool.and_eq_true,decide_eq_true_eq] at b1 b2 b3;have hgx:=b1.2.1;have hgy:=b2.2.1;have hgz:=b3.2.1;have hsx9:=isForm_sok (hW3.fm 0) fx;have hsy9:=isForm_sok (hW3.fm 1) fy;have hsz9:=isForm_sok (hW3.fm 2) fz;refine JG (Jj (Jj (JK (Ja (hK7 (Je fun _ hK19 _=>(Ea (Rs:=[_,_,_,_]) 17 [[], [0], [], [0,1,2], [], [0,1,2,3,4], [], [0,1,2,3,4,5,6], [], [8], [], [10], [], [12], [0,1,2,3,4,5,6,7,8,9,10,11,12,13], [0,1,2,3,4,5,6,7,8,9,10,11,12,13,14], [0,1,2,3,4,5,6,7,8,9,10,11,12,13,14,15]] [[], [], [20], [], [19], [], [18], [], [], [17], [], [17], [], [17], [], [], []] [[], [], [], [], [], [], [], [], [], [], [], [], [], [], [], [], []] rfl rfl (by kernel_rfl) ?_)))))));apply Ji 1 rfl rfl rfl
   ·intros;conv=>lhs;simp only [Jh,reduceEqDiff,reduceAdd]
   ·exact Jc rfl
   apply JR 2 rfl
   ·intros;conv=>lhs;simp only [Jh,reduceEqDiff,reduceAdd]
   ·
    intro gh X K zq zc zq2 zc2 zb zv hK;refine Ju fn56 rfl rfl fun w hH=>(newComplex_m pad paf had haf hH).mono ?_;rintro _ w ⟨bn62,vo62,rfl,hH⟩;refine ⟨_,rfl,fun a hF9=>JH hF9 hH ?_⟩;refine Jy ?_;exact hK zq zc zq2 zc2 bn62 vo62
   ·intro gh gh' h;refine ⟨?_,?_⟩ <;> rfl
   apply Ji 3 rfl rfl rfl
   ·intros;conv=>lhs;simp only [Jh,reduceEqDiff,reduceAdd]
   ·exact Jm rfl At.z (by simpa [*] using ag40)
   apply JR 4 rfl
   ·intros;conv=>lhs;simp only [Jh,reduceEqDiff,reduceAdd]
   ·
    intro gh X K zq zc zq2 zc2 zb zv hK;refine Ju fn57 rfl rfl fun w hH=>(sumOf_c hx hsx9 (by omega) hH).mono ?_;rintro _ w ⟨bo64,rfl,hH⟩;refine ⟨_,rfl,fun a hF=>JH hF hH ?_⟩;refine Jy ?_;exact hK zq zc zq2 zc2 bo64 zv
   ·intro gh gh' h;refine ⟨?_,?_⟩ <;> (first | simp only [h 1 rfl] | rfl)
   apply Ji 5 rfl rfl rfl
   ·intros;conv=>lhs;simp only [Jh,reduceEqDiff,reduceAdd]
   ·exact Jm rfl At.z (by simpa [*] using ag40)
   apply JR 6 rfl
   ·intros;conv=>lhs;simp only [Jh,reduceEqDiff,reduceAdd]
   ·
    intro gh X K zq zc zq2 zc2 zb zv hK;refine Ju fn57 rfl rfl fun w hH=>(sumOf_c hy hsy9 (by omega) hH).mono ?_;rintro _ w ⟨bo66,rfl,hH⟩;refine ⟨_,rfl,fun a hF=>JH hF hH ?_⟩;refine Jy ?_;exact hK zq zc zq2 zc2 bo66 zv
   ·intro gh gh' h;refine ⟨?_,?_⟩ <;> (first | simp only [h 1 rfl,h 3 rfl] | rfl)
   apply Ji 7 rfl rfl rfl
   ·intros;conv=>lhs;simp only [Jh,reduceEqDiff,reduceAdd]
   ·exact Jm rfl At.z (by simpa [*] using ag40)
   apply JR 8 rfl
   ·intros;conv=>lhs;simp only [Jh,reduceEqDiff,reduceAdd]
   ·
    intro gh X K zq zc zq2 zc2 zb zv hK;refine Ju fn57 rfl rfl fun w hH=>(sumOf_c hz hsz9 (by omega) hH).mono ?_;rintro _ w ⟨bo68,rfl,hH⟩;refine ⟨_,rfl,fun a hF=>JH hF hH ?_⟩;refine Jy ?_;exact hK zq zc zq2 zc2 bo68 zv
   ·intro gh gh' h;refine ⟨?_,?_⟩ <;> (first | simp only [h 1 rfl,h 3 rfl,h 5 rfl] | rfl)
   apply Ji 9 rfl rfl rfl
   ·intros;conv=>lhs;simp only [Jh,reduceEqDiff,reduceAdd]
   ·exact JT (i':=0) u112 sz2 rfl rfl rfl (by omega)
   apply Ji 10 rfl rfl rfl
   ·intros;conv=>lhs;simp only [Jh,reduceEqDiff,reduceAdd]
   ·exact Ep (v':=.int .i64 (degF ad x)) rfl (Js rfl At.z (intsC_get (by show 0<3;omega)) pl2)
   apply Ji 11 rfl rfl rfl
   ·intros;conv=>lhs;simp only [Jh,reduceEqDiff,reduceAdd]
   ·exact JT (i':=1) u112 sz2 rfl rfl rfl (by omega)
   apply Ji 12 rfl rfl rfl
   ·intros;conv=>lhs;simp only [Jh,reduceEqDiff,reduceAdd]
   ·exact Ep (v':=.int .i64 (degF ad y)) rfl (Js rfl At.z (intsC_get (by show 1<3;omega)) pl2)
   apply Ji 13 rfl rfl rfl
   ·intros;conv=>lhs;simp only [Jh,reduceEqDiff,reduceAdd]
   ·exact JT (i':=2) u112 sz2 rfl rfl rfl (by omega)
   apply Ji 14 rfl rfl rfl
   ·intros;conv=>lhs;simp only [Jh,reduceEqDiff,reduceAdd]
   ·exact Ep (v':=.int .i64 (degF ad z)) rfl (Js rfl At.z (intsC_get (by show 2<3;omega)) pl2)
   apply Ef 15 rfl rfl rfl
   ·intros;conv=>lhs;simp only [Jh,reduceEqDiff,reduceAdd]
   ·exact PR.buildN (vs:=[_,_,_,_,_,_,_]) rfl (fun w=>bd120_0_1_2_3_4_5_6 _ _ _ _ _ _ _ w)
   ·intro gh gh' h;first | simp only [h 1 rfl,h 3 rfl,h 5 rfl,h 7 rfl] | rfl
   apply JR 16 rfl
   ·intros;conv=>lhs;simp only [Jh,reduceEqDiff,reduceAdd]
   ·
    intro gh X K zq zc zq2 zc2 zb zv hK;refine JW rfl rfl rfl fun g76=>(Jy ?_);exact hK zq zc zq2 zc2 g76 zv
   ·intro gh gh' h;refine ⟨?_,?_⟩ <;> (first | simp only [h 1 rfl,h 3 rfl,h 5 rfl,h 7 rfl] | rfl)
   apply Ef 17 rfl rfl rfl
   ·intros;conv=>lhs;simp only [Jh,reduceEqDiff,reduceAdd]
   ·exact Jd rfl
   ·intro gh gh' h;first | simp only [h 1 rfl,h 3 rfl,h 5 rfl,h 7 rfl,h 15 rfl] | rfl
   apply JZ [0,1,2,3,4,5,6,7,8,9,10,11,12,13,14,15,16] [0,1,2,3,4,5,6,7,8,9,10,11,12,13,14,15,16,17,18,19,20] foll0 rfl rfl rfl (by rfl)
   iterate 2 focus (intros;(conv=>lhs;simp only [JU,Ej,Ka,El,Es,eq_self,reduceEqDiff,reduceIte,reduceSub,reduceAdd,JxA,JxB]);all_goals rfl)
   intro gh;generalize (gh 1).b=bn62;generalize (gh 1).vs=vo62;generalize (gh 3).b=bo64;generalize (gh 5).b=bo66;generalize (gh 7).b=bo68;generalize (gh 15).b=g76;clear gh;refine EY .z fun Hz13 Az13 hlez13 hKz13=>?_;obtain ⟨ln62,pn620,pn621,rfl⟩:=hKz13;replace pad:=pad.le hlez13;replace paf:=paf.le hlez13;replace had:=had.le hlez13;replace haf:=haf.le hlez13;replace hx:=hx.le hlez13;replace hy:=hy.le hlez13;replace hz:=hz.le hlez13;replace hF3:=hF3.le hlez13;refine EA (.s .z) fun Ho64 hleo64 hAo64=>?_;replace pad:=pad.le hleo64;replace paf:=paf.le hleo64;replace had:=had.le hleo64;replace haf:=haf.le hleo64;replace hx:=hx.le hleo64;replace hy:=hy.le hleo64;replace hz:=hz.le hleo64;replace hF3:=hF3.le hleo64;replace pn620:=pn620.le hleo64;replace pn621:=pn621.le hleo64;have hxo64:=omap_H hAo64;refine EA (.s .z) fun Ho66 hleo66 hAo66=>?_;replace pad:=pad.le hleo66;replace paf:=paf.le hleo66;replace had:=had.le hleo66;replace haf:=haf.le hleo66;replace hx:=hx.le hleo66;replace hy:=hy.le hleo66;replace hz:=hz.le hleo66;replace hF3:=hF3.le hleo66;replace pn620:=pn620.le hleo66;replace pn621:=pn621.le hleo66;replace hxo64:=hxo64.le hleo66;have hxo66:=omap_H hAo66;refine EA (.s .z) fun Ho68 hleo68 hAo68=>?_;replace pad:=pad.le hleo68;replace paf:=paf.le hleo68;replace had:=had.le hleo68;replace haf:=haf.le hleo68;replace hx:=hx.le hleo68;replace hy:=hy.le hleo68;replace hz:=hz.le hleo68;replace hF3:=hF3.le hleo68;replace pn620:=pn620.le hleo68;replace pn621:=pn621.le hleo68;replace hxo64:=hxo64.le hleo68;replace hxo66:=hxo66.le hleo68;have hxo68:=omap_H hAo68;refine Ja (hK19 (Je fun _ hK20 _=>(Je fun _ hK21 _=>(Jb (Jg (Jc rfl) rfl (Ju fn58 rfl rfl fun w hH=>(degree3_c (by omega) (hH.front (.s .z))).mono ?_))))));rintro _ w ⟨rfl,hH⟩;refine ⟨_,rfl,fun a hF9=>JH hF9 hH ?_⟩;refine Jg (EK rfl rfl) rfl (Jf (Ja (hK21 (Jq rfl (fun h79=>?_) (fun h79=>?_)))))
   ·
    refine Je fun _ hK22 _=>(Jb (Jg (Jd rfl) rfl (Jg (Jd rfl) rfl (Jf (Ja (hK22 (Jt (Jk (Eg rfl (Res.tmp rfl) (Res.tmp rfl) fun w hH=>?_)))))))));replace hH:=hH.sublist (.cons _ (.cons _ (.cons _ (.cons _ (.cons _ (.cons _ (List.Sublist.refl _)))))));have hc:=mk_eq ((trC_r hG hFF hBB).trans (if_pos h79)) (by decide)
    have hne : ¬mkC ad af x y z=0:=by rw [hc];decide
    exact ⟨_,0,0,0, [],.map none,.map none,.map none,.map none,.map none,none,((((hle22.trans hlez13).trans hleo64).trans hleo66).trans hleo68),fun h=>absurd h hne,by rw [hc],hH.ifN hne⟩
   ·
    refine Jn (Ja (hK20 (Je fun _ hK23 _=>(Je fun _ hK24 _=>(Ea (Rs:=[_,_,_,_,_,_]) 9 [[], [0], [0,1], [0,1,2], [], [4], [4,5], [0,1,2,3,4,5,6], [0,1,2,3,4,5,6,7]] [[], [], [], [9], [], [9], [], [], []] [[], [], [], [], [], [], [], [], []] rfl rfl (by kernel_rfl) ?_)))));apply Ji 1 rfl rfl rfl
    ·intros;conv=>lhs;simp only [Jh,reduceEqDiff,reduceAdd]
    ·exact Jc rfl
    apply Ji 2 rfl rfl rfl
    ·intros;conv=>lhs;simp only [Jh,reduceEqDiff,reduceAdd]
    ·exact Jv rfl
    apply Ji 3 rfl rfl rfl
    ·intros;conv=>lhs;simp only [Jh,reduceEqDiff,reduceAdd]
    ·exact Jl u120 rfl sz81 rfl
    apply Ji 4 rfl rfl rfl
    ·intros;conv=>lhs;simp only [Jh,reduceEqDiff,reduceAdd]
    ·exact Js rfl At.z rfl pl81
    apply Ji 5 rfl rfl rfl
    ·intros;conv=>lhs;simp only [Jh,reduceEqDiff,reduceAdd]
    ·exact Jc rfl
    apply Ez 6 rfl
    ·intros;conv=>lhs;simp only [Jh,reduceEqDiff,reduceAdd]
    ·
     intro gh X K zq zc zq2 zc2 zb zv hK;refine Ju fn58 rfl rfl fun w hH=>(degree3_c (by omega) (hH.front .z)).mono ?_;rintro _ w ⟨rfl,hH⟩;refine ⟨_,rfl,fun a hF9=>JH hF9 hH ?_⟩;refine Jy ?_;exact hK zq zc zq2 zc2 zb zv
    ·intro gh gh' h;rfl
    apply Ji 7 rfl rfl rfl
    ·intros;conv=>lhs;simp only [Jh,reduceEqDiff,reduceAdd]
    ·exact Ep (v':=.int .i64 (max (degF ad x+degF ad y+degF ad z - 1) 0)) (vmax2 _) (PR.max2 rfl rfl)
    apply Ez 8 rfl
    ·intros;conv=>lhs;simp only [Jh,reduceEqDiff,reduceAdd]
    ·
     intro gh X K zq zc zq2 zc2 zb zv hK;refine Ju fn59 rfl rfl fun w hH=>(upTo_c pn620 pn621 pad paf had haf hd h8 (by omega) hH).mono ?_;rintro _ w ⟨rfl,hH⟩;refine ⟨_,rfl,fun a hF=>JH hF hH ?_⟩;refine Jy ?_;exact hK zq zc zq2 zc2 zb zv
    ·intro gh gh' h;rfl
    apply Ji 9 rfl rfl rfl
    ·intros;conv=>lhs;simp only [Jh,reduceEqDiff,reduceAdd]
    ·exact Jd rfl
    apply JZ [0,1,2,3,4,5,6,7,8] [0,1,2,3,4,5,6,7,8,9,10,11,12,13,14] foll0 rfl rfl rfl (by rfl)
    iterate 2 focus (intros;(conv=>lhs;simp only [JU,Ej,Ka,El,Es,eq_self,reduceEqDiff,reduceIte,reduceSub,reduceAdd,JxA,JxB]);all_goals rfl)
    intro gh;clear gh;refine Ja (hK24 (Je fun _ hK25 _=>(Jb (Jg (Jc rfl) rfl (Jg (Eo rfl rfl) rfl (Jf (Ja (hK25 (Jq rfl (fun h89=>?_) (fun h89=>?_))))))))))
    ·
     have hup:=up_tr (x:=x) (y:=y) (z:=z) hG (by unfold trD;omega);unfold trD at hup;refine Je fun _ hK26 _=>(Jb (Jg (Jc rfl) rfl (Jg (Jd rfl) rfl (Jg (Jd rfl) rfl (Jf (Ja (hK26 (Jt (Jk (Eg rfl (Res.tmp rfl) (Res.tmp rfl) fun w hH=>?_))))))))));replace hH:=hH.sublist (.cons _ (.cons _ (.cons _ (.cons _ (.cons _ (.cons _ (List.Sublist.refl _)))))))
     have hw3:wiB ad 0 (trD ad x y z - 1+1)=false:=by
      cases hh:wiB ad 0 (trD ad x y z - 1+1) with
      | false=>rfl
      | true=>exact absurd (hup.trans (by rw [show wiB ad 0 (degF ad x+degF ad y+degF ad z - 1+1)=true from hh];rfl)) h89
     have hc:=mk_eq ((trC_r hG hFF hBB).trans ((if_neg h79).trans (by rw [hw3];first | done | rfl))) (by decide)
     have hne : ¬mkC ad af x y z=0:=by rw [hc];decide
     exact ⟨_,0,0,0, [],.map none,.map none,.map none,.map none,.map none,none,((((hle22.trans hlez13).trans hleo64).trans hleo66).trans hleo68),fun h=>absurd h hne,by rw [hc,hup,show wiB ad 0 (degF ad x+degF ad y+degF ad z - 1+1)=false from hw3];first | done | rfl,hH.ifN hne⟩
    ·
     have hup:=up_tr (x:=x) (y:=y) (z:=z) hG (by unfold trD;omega);unfold trD at hup;have hc0:trC ad af x y z=0:=(trC_r hG hFF hBB).trans ((if_neg h79).trans (hup.symm.trans (Decidable.not_not.1 h89)));have hT:=tri_ok hwf (hW3.fm 0) (hW3.fm 1) (hW3.fm 2) hc0;refine Jn (Ja (hK23 (Je fun _ hK27 _=>(Je fun _ hK28 _=>(Jb (Jg (Jc rfl) rfl (Ju fn60 rfl rfl fun w hH=>(exists_c pn620 pn621 pad paf had haf hxo64 hxo66 hxo68 hG CpxOk.nil (Nxt.nil _) hT ((hH.front (.s .z)).front (.s .z))).mono ?_)))))));rintro _ w ⟨Hf92,ls92,u92,v92,hlf92,hC92,hN92,rfl,hH⟩;refine ⟨_,rfl,fun a hF=>JH hF hH ?_⟩;replace pad:=pad.le hlf92;replace paf:=paf.le hlf92;replace had:=had.le hlf92;replace haf:=haf.le hlf92;replace hx:=hx.le hlf92;replace hy:=hy.le hlf92;replace hz:=hz.le hlf92;replace hF3:=hF3.le hlf92;replace pn620:=pn620.le hlf92;replace pn621:=pn621.le hlf92;replace hxo64:=hxo64.le hlf92;replace hxo66:=hxo66.le hlf92;replace hxo68:=hxo68.le hlf92;refine Jg (Em rfl) rfl (Jf (Ja (hK28 (Ei rfl (fun h93=>?_) (fun h93=>?_)))))
     ·
      refine Je fun _ hK29 _=>(Jb (Jg (Jd rfl) rfl (Jg (Jd rfl) rfl (Jf (Ja (hK29 (Jt (Jk (Eg rfl (Res.tmp rfl) (Res.tmp rfl) fun w hH=>?_)))))))));replace hH:=hH.sublist (.cons _ (.cons _ (.cons _ (.cons _ (.cons _ (.cons _ (List.Sublist.refl _)))))));have hc:=mkC_4 hc0 (not_f h93)
      have hne : ¬mkC ad af x y z=0:=by rw [hc];decide
      exact ⟨_,0,0,0, [],.map none,.map none,.map none,.map none,.map none,none,(((((hle22.trans hlez13).trans hleo64).trans hleo66).trans hleo68).trans hlf92),fun h=>absurd h hne,by rw [hc],hH.ifN hne⟩
     ·
      refine Jn (Ja (hK27 (Je fun _ hK30 _=>(Jb (Jg (Jc rfl) rfl (Jg (Jd rfl) rfl (Jg (Jd rfl) rfl (Jf (Ja (hK30 (Jt (Eg rfl (Res.tmp rfl) (Res.tmp rfl) fun w hH=>?_))))))))))));replace hH:=hH.sublist (.cons_cons _ (.cons_cons _ (.cons _ (.cons _ (.cons _ (.cons _ (List.Sublist.refl _)))))));have hc:=mkC_0 hc0 (not_t h93);exact ⟨_,_,_,_,_,_,_,_,_,_,_,(((((hle22.trans hlez13).trans hleo64).trans hleo66).trans hleo68).trans hlf92),fun _=>⟨rfl,pn620,pn621,hxo64,hxo66,hxo68,hC92,hN92⟩,by rw [hc],Hp.ifY hc hH.star⟩
section
variable {P : Program} {c0 : Code} {Q : Exit → Act → World → Prop} {n : Nat} {B : World} {H0 H : HP} {us : List (Nat × Value)} {L L' : List SA}
theorem CJ.ifUn {A A':SA} {C:Prop} [Decidable C] (hC:C) (hr:Rm L (if C then star A A' else G.emp) L') (h:CJ P c0 Q n B H0 us H (A::A'::L')):CJ P c0 Q n B H0 us H L:=CJ.reL (fun w hH=>by
 have h1:=hH.front hr
 rw [if_pos hC] at h1
 exact h1.unstar) h
end
theorem Indeterminacy_c {B:World} {H0 H:HP} {L:List SA} {w:World} {qad qaf:Option Addr} {cad caf:Nat} {ad:List Int} {af:List (List Term)} {qx:Option Addr} {cx:Nat} {x:List Term} {qy:Option Addr} {cy:Nat} {y:List Term} {qz:Option Addr} {cz:Nat} {z:List Term} (had:Ints H qad ad) (haf:Forms H qaf af) (hx:Terms H qx x) (hy:Terms H qy y) (hz:Terms H qz z) (hn8:ad.length≤1048576) (hn9:af.length≤1048576) (hl9 : ∀i,i<af.length→(fm af i).length≤1048576) (hlx:x.length≤9223372036854775807) (hly:y.length≤9223372036854775807) (hlz:z.length≤9223372036854775807) (hcx:x.length≤cx) (hcy:y.length≤cy) (hcz:z.length≤cz) (hH:Hp B H0 H L w):Calls Tryz.prog 10 [.agg [.slice qad ad.length cad,.slice qaf af.length caf].toArray,.agg [.slice qx x.length cx].toArray,.agg [.slice qy y.length cy].toArray,.agg [.slice qz z.length cz].toArray].toArray w fun e w'=>∃q c vs,e = .returned (.tuple #[.slice q (inV ad af x y z).length c,.int .i64 (mkC ad af x y z)])∧Hp B H0 H (ownRs 22 2 q c vs (inV ad af x y z)::L) w':=by
 refine Jx Tryz.func10 rfl 24 rfl rfl [(0,.agg [.slice qad ad.length cad,.slice qaf af.length caf].toArray),(1,.agg [.slice qx x.length cx].toArray),(2,.agg [.slice qy y.length cy].toArray),(3,.agg [.slice qz z.length cz].toArray)] rfl hH ?_;have hw0:=hH.old;have hw1:=hH.le;clear hH;refine Je fun _ hK1 _=>(Jb (JW rfl rfl rfl fun g4=>(J.freezeRow .z fun Hz4 hlez4 hcz4=>?_)));replace had:=had.le hlez4;replace haf:=haf.le hlez4;replace hx:=hx.le hlez4;replace hy:=hy.le hlez4;replace hz:=hz.le hlez4;have pad:CellAt Hz4 g4 0 (.slice qad ad.length cad):=hcz4 0 _ rfl;have paf:CellAt Hz4 g4 1 (.slice qaf af.length caf):=hcz4 1 _ rfl;refine JW rfl rfl rfl fun g5=>(JW rfl rfl rfl fun g6=>(JW rfl rfl rfl fun g7=>(Jg (Jd rfl) rfl (Jg (Jd rfl) rfl (Jf (Ja (hK1 (Je fun _ hK2 _=>(Jb (Jg (Jm rfl (.s (.s .z)) (by simpa [*] using ag40)) rfl (Jg (Jm rfl (.s .z) (by simpa [*] using ag40)) rfl (Jg (Jm rfl At.z (by simpa [*] using ag40)) rfl (Ju fn28 rfl rfl fun w hH=>(tripleOf_c pad paf had haf hx hy hz hn8 hn9 hl9 hlx hly hlz hcx hcy hcz hH).mono ?_)))))))))))));rintro _ w ⟨Hf16,b16,bc16,lc16,ls16,vx16,vy16,vz16,u16,v16,vl16,hlf16,hcd16,rfl,hH⟩;refine ⟨_,rfl,fun a hF=>JH hF hH ?_⟩;replace had:=had.le hlf16;replace haf:=haf.le hlf16;replace hx:=hx.le hlf16;replace hy:=hy.le hlf16;replace hz:=hz.le hlf16;replace pad:=pad.le hlf16;replace paf:=paf.le hlf16;refine Jg (Jc rfl) rfl (Jg (JI rfl rfl) rfl (Jg (JI rfl rfl) rfl (Jg (Jd rfl) rfl (Jg (Jd rfl) rfl (Jf (Ja (hK2 (Je fun _ hK3 _=>(Je fun _ hK4 _=>(Jb (Jg (Jc rfl) rfl (Jg (Eo rfl rfl) rfl (Jf (Ja (hK4 (Jq rfl (fun h20=>?_) (fun h20=>?_)))))))))))))))))
 ·
  refine Je fun _ hK5 _=>(Jb (Jg (Jc rfl) rfl (Jg (Jd rfl) rfl (Jg (Jd rfl) rfl (Jf (Ja (hK5 (Jt (Jk (Eg rfl (Res.tmp rfl) (Res.tmp rfl) fun w hH=>?_))))))))));replace hH:=hH.sublist (.cons _ (.cons _ (.cons _ (.cons _ (List.Sublist.refl _)))));rw [inV_n h20];exact ⟨none,0,nilVs,rfl,(Hp.rsNil 22 2 (hH.own0 22 1)).weaken (hlez4.trans hlf16) hw0 hw1⟩
 ·
  have h0:mkC ad af x y z=0:=Decidable.not_not.1 h20;obtain ⟨rfl,pc0,pc1,htx,hty,htz,hC16,hN16⟩:=hcd16 h0;refine CJ.ifUn h0 .z ?_;have h1:=mkC_t h0;have hT:=tri_ok haf.wfss hx.wfs hy.wfs hz.wfs h1;have hG:=(trC_z h1).1
  skip
  refine Jn (Ja (hK3 (Je fun _ hK6 _=>(Jb (Jg (Jc rfl) rfl (Ju fn29 rfl rfl fun w hH=>(doubt_c pc0 pc1 pad paf had haf htx hty htz hG hC16 hN16 hT ((hH.front (.s .z)).front (.s .z))).mono ?_))))));rintro _ w ⟨Hf23,ls23,qo23,co23,vo23,hlf23,hC23,hN23,rfl,hH⟩;refine ⟨_,rfl,fun a hF=>JH hF hH ?_⟩;replace had:=had.le hlf23;replace haf:=haf.le hlf23;replace hx:=hx.le hlf23;replace hy:=hy.le hlf23;replace hz:=hz.le hlf23;replace pad:=pad.le hlf23;replace paf:=paf.le hlf23;replace pc0:=pc0.le hlf23;replace pc1:=pc1.le hlf23;replace htx:=htx.le hlf23;replace hty:=hty.le hlf23;replace htz:=htz.le hlf23;replace hC16:=hC16.le hlf23;refine Jg (Jd rfl) rfl (Jg (Jd rfl) rfl (Jf (Ja (hK6 (Jt (Eg rfl (Res.tmp rfl) (Res.tmp rfl) fun w hH=>?_))))));replace hH:=hH.sublist (.cons_cons _ (.cons _ (.cons _ (.cons _ (.cons _ (.cons _ (List.Sublist.refl _)))))));rw [inV_y h0,h0];exact ⟨_,_,_,rfl,hH.weaken ((hlez4.trans hlf16).trans hlf23) hw0 hw1⟩
theorem ag25:Agg Tryz.prog 25 2:=⟨_,u25,rfl,by kernel_rfl⟩
theorem fn10:Fn Tryz.prog 10:=⟨_,Tryz.func10,by kernel_rfl,rfl⟩
theorem fn11:Fn Tryz.prog 11:=⟨_,Tryz.func11,by kernel_rfl,rfl⟩
theorem fn12:Fn Tryz.prog 12:=⟨_,Tryz.func12,by kernel_rfl,rfl⟩
theorem fn14:Fn Tryz.prog 14:=⟨_,Tryz.func14,by kernel_rfl,rfl⟩
theorem fn15:Fn Tryz.prog 15:=⟨_,Tryz.func15,by kernel_rfl,rfl⟩
theorem fn16:Fn Tryz.prog 16:=⟨_,Tryz.func16,by kernel_rfl,rfl⟩
theorem fn17:Fn Tryz.prog 17:=⟨_,Tryz.func17,by kernel_rfl,rfl⟩
theorem fn5:Fn Tryz.prog 5:=⟨_,Tryz.func5,by kernel_rfl,rfl⟩
theorem fn7:Fn Tryz.prog 7:=⟨_,Tryz.func7,by kernel_rfl,rfl⟩
theorem fn8:Fn Tryz.prog 8:=⟨_,Tryz.func8,by kernel_rfl,rfl⟩
theorem totI_le7 {M:Nat} : ∀{rs:List (List Int)},(∀r∈rs,r.length≤M)→totI rs≤rs.length * M
 | [],_=>by simp [totI]
 | r::rs,h=>by
  have h1:=totI_le7 (rs:=rs) (M:=M) fun x hx=>h x (by simp [hx])
  have h2:=h r (by simp)
  simp only [totI,List.length_cons]
  rw [Nat.succ_mul]
  omega
theorem inV_len {ds:List Int} {fs:List (List Term)} {x y z:List Term} (hw:Wfss fs) (hx:Wfs x) (hy:Wfs y) (hz:Wfs z):(inV ds fs x y z).length≤242∧totI (inV ds fs x y z)≤29282∧∀i,i<(inV ds fs x y z).length→(rw_ (inV ds fs x y z) i).length≤1048576:=by
 by_cases h:mkC ds fs x y z=0
 ·rw [inV_y h];have h1:=mkC_t h;have hG:=(trC_z h1).1;have hT:=tri_ok hw hx hy hz h1;have hA:=isAlg_ok hG hw;have hR:=(redS_ok (app_row (rwX_row (p:=degF ds x) (q:=degF ds y) (r:=degF ds z) hG hw hT.sx) (rwZ_row (p:=degF ds x) (q:=degF ds y) (r:=degF ds z) hG hw hT.sz))).1;have h2:=hR.count;have h3:=csS_len (n:=degF ds x+degF ds y+degF ds z - 1) hA hA.hn (alg_112 hG)
  have hr : ∀r∈inS ds fs (toS x) (toS z) (degF ds x) (degF ds y) (degF ds z),r.length≤121:=fun r hr=>by
   rw [(hR.row r hr).len];exact h3
  have h4:=totI_le7 hr;have h5:(inS ds fs (toS x) (toS z) (degF ds x) (degF ds y) (degF ds z)).length≤121:=Nat.le_trans h2 h3;have:(inS ds fs (toS x) (toS z) (degF ds x) (degF ds y) (degF ds z)).length * 121≤121 * 121:=Nat.mul_le_mul_right _ h5;refine ⟨by omega,by omega,fun i hi=>?_⟩;have:=hr _ (rw_mem hi)
  omega
 ·rw [inV_n h];exact ⟨by simp,by simp [totI],fun i hi=>by simp at hi⟩
theorem sInd_o {B:World} {H0 H:HP} {L:List SA} {w:World} {qad qaf qx qy qz:Option Addr} {cad caf cx cy cz:Nat} {vsa:Vs} {ad:List Int} {af:List (List Term)} {x y z:List Term} (hwf:Wfss af) (hwx:Wfs x) (hwy:Wfs y) (hwz:Wfs z) (hn8:ad.length≤1048576) (hn9:af.length≤1048576) (hl9 : ∀i,i<af.length→(fm af i).length≤1048576) (hlx:x.length≤9223372036854775807) (hly:y.length≤9223372036854775807) (hlz:z.length≤9223372036854775807) (hH:Hp B H0 H (own 2 1 qad ad.length cad (intsC ad)::ownFs 40 107 qaf caf vsa af::own 107 9 qx x.length cx (tsC x)::own 107 9 qy y.length cy (tsC y)::own 107 9 qz z.length cz (tsC z)::L) w) :
 Calls Tryz.prog 7 [.agg [.slice qad ad.length cad,.slice qaf af.length caf].toArray,.agg [.slice qx x.length cx].toArray,.agg [.slice qy y.length cy].toArray,.agg [.slice qz z.length cz].toArray].toArray w fun e w'=>∃q c vs,e = .returned (.tuple #[.slice q (inV ad af x y z).length c,.int .i64 (mkC ad af x y z)])∧Hp B H0 H (mlt (RwK q c (inV ad af x y z)) H vs::L) w':=
 hH.lend .z fun H1 le1 hA1 _ hH1=>hH1.lend .z fun H2 le2 hA2 _ hH2=>hH2.lend .z fun H3 le3 hA3 _ hH3=>hH3.lend .z fun H4 le4 hA4 _ hH4=>hH4.lend .z fun H5 le5 hA5 _ hH5=>
  (sIndeterminacy_c (cad:=cad) (caf:=caf) (cx:=cx) (cy:=cy) (cz:=cz) (((((own_ints hA1).le le2).le le3).le le4).le le5) ((((own_forms hwf hA2).le le3).le le4).le le5) (((own_terms hwx hA3).le le4).le le5) ((own_terms hwy hA4).le le5) (own_terms hwz hA5) hn8 hn9 hl9 hlx hly hlz (own_le hA3) (own_le hA4) (own_le hA5) hH5).mono fun e w' h=>by
   obtain ⟨H',q,c,hle,hI,hc,he,hH'⟩:=h
   obtain ⟨vs,h2⟩:=hH.melt (K:=RwK q c (inV ad af x y z)) hH' (((((le1.trans le2).trans le3).trans le4).trans le5).trans hle) ⟨hI,hc⟩
   exact ⟨q,c,vs,he,h2⟩
theorem lawIndeterminacy_c {B:World} {H0 H:HP} {L:List SA} {w:World} {qad qaf:Option Addr} {cad caf:Nat} {ad:List Int} {af:List (List Term)} {qx:Option Addr} {cx:Nat} {x:List Term} {qy:Option Addr} {cy:Nat} {y:List Term} {qz:Option Addr} {cz:Nat} {z:List Term} (had:Ints H qad ad) (haf:Forms H qaf af) (hx:Terms H qx x) (hy:Terms H qy y) (hz:Terms H qz z) (hn:ad.length≤9223372036854775807∧af.length≤9223372036854775807) (hl : ∀i,i<af.length→(fm af i).length≤9223372036854775807) (hlx:x.length≤9223372036854775807) (hly:y.length≤9223372036854775807) (hlz:z.length≤9223372036854775807) (hH:Hp B H0 H L w):Calls Tryz.prog 3 [.agg [.slice qad ad.length cad,.slice qaf af.length caf].toArray,.agg [.slice qx x.length cx].toArray,.agg [.slice qy y.length cy].toArray,.agg [.slice qz z.length cz].toArray].toArray w fun e w'=>e = .returned (.bool true)∧Below B.heap.size B w':=by
 refine Jx Tryz.func3 rfl 165 rfl rfl [(0,.agg [.slice qad ad.length cad,.slice qaf af.length caf].toArray),(1,.agg [.slice qx x.length cx].toArray),(2,.agg [.slice qy y.length cy].toArray),(3,.agg [.slice qz z.length cz].toArray)] rfl hH ?_;clear hH;obtain ⟨f1,f2,f3⟩:=inV_len (ds:=ad) haf.wfss hx.wfs hy.wfs hz.wfs;refine Je fun _ hK1 _=>(Jb (JW rfl rfl rfl fun g4=>(JW rfl rfl rfl fun g5=>(JW rfl rfl rfl fun g6=>(JW rfl rfl rfl fun g7=>(Jg (Jd rfl) rfl (Jf (Ja (hK1 (Je fun _ hK2 _=>(Jb (Jg (Jd rfl) rfl (Jf (Ja (hK2 (Je fun _ hK3 _=>?_))))))))))))))));refine Jb (Jg (Jm rfl (.s (.s (.s .z))) (by simpa [*] using ag25)) rfl (Jg (Jc rfl) rfl (Ju fn5 rfl rfl fun w hH=>(szAlgebra_c had haf (by omega) hl hH).mono ?_)));rintro _ w ⟨rfl,hH⟩;refine ⟨_,rfl,fun a hF=>JH hF hH ?_⟩;refine Jg (Jd rfl) rfl (Jf (Ja (hK3 (Je fun _ hK4 _=>(Je fun _ hK5 _=>(Jb (Jg (Jc rfl) rfl (Jg (JJ rfl rfl) rfl (Jf (Ja (hK5 (Jq rfl (fun h11=>?_) (fun h11=>?_)))))))))))))
 ·
  refine Je fun _ hK6 _=>(Jb (Jg (Jd rfl) rfl (Jf (Ja (hK6 (Jt (Jk (Jr rfl (Res.tmp rfl) fun w hH=>?_))))))));replace hH:=hH.tail;replace hH:=hH.tail;replace hH:=hH.tail;replace hH:=hH.tail
  first | exact ⟨rfl,hH.below⟩ | exact absurd rfl h11p | exact absurd rfl h11 | (exfalso;omega) | (simp at h11;done)
 ·
  have hsz:ad.length+af.length+tot af≤1048576:=by unfold szv at h11;split at h11 <;> omega
  have hl6 : ∀i,i<af.length→(fm af i).length≤1048576:=fun i hi=>by have:=tot_fm hi;omega
  have e1:szv (1048576 - (ad.length:Int) - af.length - (tot af:Nat))≤1048576:=by unfold szv;split <;> omega
  refine Jn (Ja (hK4 (Je fun _ hK7 _=>(Jb (Jg (Jm rfl (.s (.s .z)) (by simpa [*] using ag28)) rfl (Jg (Jc rfl) rfl (Ju fn6 rfl rfl fun w hH=>(szForm_c hx (by omega) hH).mono ?_)))))));rintro _ w ⟨rfl,hH⟩;refine ⟨_,rfl,fun a hF=>JH hF hH ?_⟩;refine Jg (Jd rfl) rfl (Jf (Ja (hK7 (Je fun _ hK8 _=>(Je fun _ hK9 _=>(Jb (Jg (Jc rfl) rfl (Jg (JJ rfl rfl) rfl (Jf (Ja (hK9 (Jq rfl (fun h12=>?_) (fun h12=>?_)))))))))))))
  ·
   refine Je fun _ hK10 _=>(Jb (Jg (Jd rfl) rfl (Jf (Ja (hK10 (Jt (Jk (Jr rfl (Res.tmp rfl) fun w hH=>?_))))))));replace hH:=hH.tail;replace hH:=hH.tail;replace hH:=hH.tail;replace hH:=hH.tail
   first | exact ⟨rfl,hH.below⟩ | exact absurd rfl h12p | exact absurd rfl h12 | (exfalso;omega) | (simp at h12;done)
  ·
   have hx6:x.length≤1048576:=by omega
   refine Jn (Ja (hK8 (Je fun _ hK11 _=>(Jb (Jg (Jm rfl (.s .z) (by simpa [*] using ag28)) rfl (Jg (Jc rfl) rfl (Ju fn6 rfl rfl fun w hH=>(szForm_c hy (by omega) hH).mono ?_)))))));rintro _ w ⟨rfl,hH⟩;refine ⟨_,rfl,fun a hF=>JH hF hH ?_⟩;refine Jg (Jd rfl) rfl (Jf (Ja (hK11 (Je fun _ hK12 _=>(Je fun _ hK13 _=>(Jb (Jg (Jc rfl) rfl (Jg (JJ rfl rfl) rfl (Jf (Ja (hK13 (Jq rfl (fun h13=>?_) (fun h13=>?_)))))))))))))
   ·
    refine Je fun _ hK14 _=>(Jb (Jg (Jd rfl) rfl (Jf (Ja (hK14 (Jt (Jk (Jr rfl (Res.tmp rfl) fun w hH=>?_))))))));replace hH:=hH.tail;replace hH:=hH.tail;replace hH:=hH.tail;replace hH:=hH.tail
    first | exact ⟨rfl,hH.below⟩ | exact absurd rfl h13p | exact absurd rfl h13 | (exfalso;omega) | (simp at h13;done)
   ·
    have hy6:y.length≤1048576:=by omega
    refine Jn (Ja (hK12 (Je fun _ hK15 _=>(Jb (Jg (Jm rfl At.z (by simpa [*] using ag28)) rfl (Jg (Jc rfl) rfl (Ju fn6 rfl rfl fun w hH=>(szForm_c hz (by omega) hH).mono ?_)))))));rintro _ w ⟨rfl,hH⟩;refine ⟨_,rfl,fun a hF=>JH hF hH ?_⟩;refine Jg (Jd rfl) rfl (Jf (Ja (hK15 (Je fun _ hK16 _=>(Je fun _ hK17 _=>(Jb (Jg (Jc rfl) rfl (Jg (JJ rfl rfl) rfl (Jf (Ja (hK17 (Jq rfl (fun h14=>?_) (fun h14=>?_)))))))))))))
    ·
     refine Je fun _ hK18 _=>(Jb (Jg (Jd rfl) rfl (Jf (Ja (hK18 (Jt (Jk (Jr rfl (Res.tmp rfl) fun w hH=>?_))))))));replace hH:=hH.tail;replace hH:=hH.tail;replace hH:=hH.tail;replace hH:=hH.tail
     first | exact ⟨rfl,hH.below⟩ | exact absurd rfl h14p | exact absurd rfl h14 | (exfalso;omega) | (simp at h14;done)
    ·
     have hz6:z.length≤1048576:=by omega
     refine Jn (Ja (hK16 (Je fun _ hK19 _=>(Ea (Rs:=[_,_,_,_]) 14 [[], [0], [], [0,1,2], [], [0,1,2,3,4], [], [0,1,2,3,4,5,6], [0,1,2,3,4,5,6,7], [0,1,2,3,4,5,6,7,8], [0,1,2,3,4,5,6,7,8,9], [0,1,2,3,4,5,6,7,8,9], [0,1,2,3,4,5,6,7,8,9,10], [0,1,2,3,4,5,6,7,8,9,10,11,12]] [[17], [], [16], [], [15], [], [14], [], [], [], [], [], [], []] [[], [], [], [], [], [], [], [], [1,3,5,7], [], [], [], [], []] rfl rfl (by kernel_rfl) ?_))));apply Ji 1 rfl rfl rfl
     ·intros;conv=>lhs;simp only [Jh,reduceEqDiff,reduceAdd]
     ·exact Jm rfl At.z (by simpa [*] using ag25)
     apply GJ.t2 2 rfl
     ·intros;conv=>lhs;simp only [Jh,reduceEqDiff,reduceAdd]
     ·
      intro gh X K zq zc zq2 zc2 zb zv hK;refine Ju fn8 rfl rfl fun w hH=>(toAlgebra_c had haf (by omega) hl6 hH).mono ?_;rintro _ w ⟨qdo45,cdo45,qfo45,cfo45,vso45,rfl,hH⟩;refine ⟨_,rfl,fun a hF=>JH hF hH ?_⟩;refine Jy ?_;exact hK qdo45 cdo45 qfo45 cfo45 zb vso45
     ·intro gh gh' h;refine ⟨?_,?_,?_⟩ <;> rfl
     apply Ji 3 rfl rfl rfl
     ·intros;conv=>lhs;simp only [Jh,reduceEqDiff,reduceAdd]
     ·exact Jm rfl At.z (by simpa [*] using ag28)
     apply JR 4 rfl
     ·intros;conv=>lhs;simp only [Jh,reduceEqDiff,reduceAdd]
     ·
      intro gh X K zq zc zq2 zc2 zb zv hK;refine Ju fn9 rfl rfl fun w hH=>(toForm_c hx (by omega) hH).mono ?_;rintro _ w ⟨qo47,co47,rfl,hH⟩;refine ⟨_,rfl,fun a hF=>JH hF hH ?_⟩;refine Jy ?_;exact hK qo47 co47 zq2 zc2 zb zv
     ·intro gh gh' h;refine ⟨?_,?_⟩ <;> (first | simp only [h 1 rfl] | rfl)
     apply Ji 5 rfl rfl rfl
     ·intros;conv=>lhs;simp only [Jh,reduceEqDiff,reduceAdd]
     ·exact Jm rfl At.z (by simpa [*] using ag28)
     apply JR 6 rfl
     ·intros;conv=>lhs;simp only [Jh,reduceEqDiff,reduceAdd]
     ·
      intro gh X K zq zc zq2 zc2 zb zv hK;refine Ju fn9 rfl rfl fun w hH=>(toForm_c hy (by omega) hH).mono ?_;rintro _ w ⟨qo49,co49,rfl,hH⟩;refine ⟨_,rfl,fun a hF=>JH hF hH ?_⟩;refine Jy ?_;exact hK qo49 co49 zq2 zc2 zb zv
     ·intro gh gh' h;refine ⟨?_,?_⟩ <;> (first | simp only [h 1 rfl,h 3 rfl] | rfl)
     apply Ji 7 rfl rfl rfl
     ·intros;conv=>lhs;simp only [Jh,reduceEqDiff,reduceAdd]
     ·exact Jm rfl At.z (by simpa [*] using ag28)
     apply JR 8 rfl
     ·intros;conv=>lhs;simp only [Jh,reduceEqDiff,reduceAdd]
     ·
      intro gh X K zq zc zq2 zc2 zb zv hK;refine Ju fn9 rfl rfl fun w hH=>(toForm_c hz (by omega) hH).mono ?_;rintro _ w ⟨qo51,co51,rfl,hH⟩;refine ⟨_,rfl,fun a hF=>JH hF hH ?_⟩;refine Jy ?_;exact hK qo51 co51 zq2 zc2 zb zv
     ·intro gh gh' h;refine ⟨?_,?_⟩ <;> (first | simp only [h 1 rfl,h 3 rfl,h 5 rfl] | rfl)
     apply JR 9 rfl
     ·intros;conv=>lhs;simp only [Jh,reduceEqDiff,reduceAdd]
     ·
      intro gh X K zq zc zq2 zc2 zb zv hK;refine Ju fn7 rfl rfl fun w hH=>(sInd_o haf.wfss hx.wfs hy.wfs hz.wfs (by omega) (by omega) hl6 (by omega) (by omega) (by omega) (((((hH.front (.s (.s (.s (.s .z))))).front (.s (.s (.s (.s .z))))).front (.s (.s (.s (.s .z))))).front (.s (.s (.s (.s .z))))).front (.s (.s (.s (.s .z)))))).mono ?_;rintro _ w ⟨qo52,co52,vo52,rfl,hH⟩;refine ⟨_,rfl,fun a hF=>JH hF hH ?_⟩;refine Jy ?_;exact hK qo52 co52 zq2 zc2 zb vo52
     ·intro gh gh' h;refine ⟨?_,?_⟩ <;> (first | simp only [h 1 rfl,h 3 rfl,h 5 rfl,h 7 rfl] | rfl)
     apply Ef 10 rfl rfl rfl
     ·intros;conv=>lhs;simp only [Jh,reduceEqDiff,reduceAdd]
     ·exact Jc rfl
     ·intro gh gh' h;first | simp only [h 1 rfl,h 3 rfl,h 5 rfl,h 7 rfl,h 8 rfl] | rfl
     apply Ef 11 rfl rfl rfl
     ·intros;conv=>lhs;simp only [Jh,reduceEqDiff,reduceAdd]
     ·exact JI rfl rfl
     ·intro gh gh' h;first | simp only [h 1 rfl,h 3 rfl,h 5 rfl,h 7 rfl,h 8 rfl] | rfl
     apply Ef 12 rfl rfl rfl
     ·intros;conv=>lhs;simp only [Jh,reduceEqDiff,reduceAdd]
     ·exact JI rfl rfl
     ·intro gh gh' h;first | simp only [h 1 rfl,h 3 rfl,h 5 rfl,h 7 rfl,h 8 rfl] | rfl
     apply Ef 13 rfl rfl rfl
     ·intros;conv=>lhs;simp only [Jh,reduceEqDiff,reduceAdd]
     ·exact Jd rfl
     ·intro gh gh' h;first | simp only [h 1 rfl,h 3 rfl,h 5 rfl,h 7 rfl,h 8 rfl] | rfl
     apply Ef 14 rfl rfl rfl
     ·intros;conv=>lhs;simp only [Jh,reduceEqDiff,reduceAdd]
     ·exact Jd rfl
     ·intro gh gh' h;first | simp only [h 1 rfl,h 3 rfl,h 5 rfl,h 7 rfl,h 8 rfl] | rfl
     apply JZ [0,1,2,3,4,5,6,7,8,9,10,11,12,13] [0,2,4,6,8,9,10,11,12,13,14,15,16,17] foll0 rfl rfl rfl (by rfl)
     iterate 2 focus (intros;(conv=>lhs;simp only [JU,Ej,Ka,El,Es,eq_self,reduceEqDiff,reduceIte,reduceSub,reduceAdd,JxA,JxB]);all_goals rfl)
     intro gh;generalize (gh 1).c=cdo45;generalize (gh 1).c2=cfo45;generalize (gh 1).q=qdo45;generalize (gh 1).q2=qfo45;generalize (gh 1).vs=vso45;generalize (gh 3).c=co47;generalize (gh 3).q=qo47;generalize (gh 5).c=co49;generalize (gh 5).q=qo49;generalize (gh 7).c=co51;generalize (gh 7).q=qo51;generalize (gh 8).c=co52;generalize (gh 8).q=qo52;generalize (gh 8).vs=vo52;clear gh;refine Ja (hK19 (Je fun _ hK20 _=>(Jb (Jg (Jm rfl (.s (.s (.s (.s .z)))) (by simpa [*] using ag25)) rfl (Ju fn8 rfl rfl fun w hH=>(toAlgebra_c had haf (by omega) hl6 hH).mono ?_)))));rintro _ w ⟨qdo56,cdo56,qfo56,cfo56,vso56,rfl,hH⟩;refine ⟨_,rfl,fun a hF=>JH hF hH ?_⟩;refine JP ze36 rfl fun g12=>(JB rfl rfl (by first | exact bytesC_one _ | exact intsC_one _ | exact Term.c_one _ | simp [Value.oneCell']) (by simpa [*] using sz36) (by simp [*]) At.z (Jf (Ja (hK20 (Je fun _ hK21 _=>(Jb (Jg (Jm rfl (.s (.s (.s (.s (.s (.s .z)))))) (by simpa [*] using ag28)) rfl (Ju fn9 rfl rfl fun w hH=>(toForm_c hx (by omega) hH).mono ?_))))))));rintro _ w ⟨qo58,co58,rfl,hH⟩;refine ⟨_,rfl,fun a hF=>JH hF hH ?_⟩;refine JP ze40 rfl fun g13=>(JB rfl rfl (by first | exact bytesC_one _ | exact intsC_one _ | exact Term.c_one _ | simp [Value.oneCell']) (by simpa [*] using sz40) (by simp [*]) At.z (Jf (Ja (hK21 (Je fun _ hK22 _=>(Jb (Jg (Jm rfl (.s (.s (.s (.s (.s (.s (.s .z))))))) (by simpa [*] using ag28)) rfl (Ju fn9 rfl rfl fun w hH=>(toForm_c hy (by omega) hH).mono ?_))))))));rintro _ w ⟨qo60,co60,rfl,hH⟩;refine ⟨_,rfl,fun a hF=>JH hF hH ?_⟩;refine JP ze40 rfl fun g14=>(JB rfl rfl (by first | exact bytesC_one _ | exact intsC_one _ | exact Term.c_one _ | simp [Value.oneCell']) (by simpa [*] using sz40) (by simp [*]) At.z (Jf (Ja (hK22 (Je fun _ hK23 _=>(Jb (Jg (Jm rfl (.s (.s (.s (.s (.s (.s (.s (.s .z)))))))) (by simpa [*] using ag28)) rfl (Ju fn9 rfl rfl fun w hH=>(toForm_c hz (by omega) hH).mono ?_))))))));rintro _ w ⟨qo62,co62,rfl,hH⟩;refine ⟨_,rfl,fun a hF=>JH hF hH ?_⟩;refine JP ze40 rfl fun g15=>(JB rfl rfl (by first | exact bytesC_one _ | exact intsC_one _ | exact Term.c_one _ | simp [Value.oneCell']) (by simpa [*] using sz40) (by simp [*]) At.z (Jf (Ja (hK23 (Je fun _ hK24 _=>(Jb (Jg (Jm rfl (.s (.s (.s (.s (.s (.s .z)))))) (by simpa [*] using ag36)) rfl (Jg (Jm rfl (.s (.s (.s (.s .z)))) (by simpa [*] using ag40)) rfl (Jg (Jm rfl (.s (.s .z)) (by simpa [*] using ag40)) rfl (Jg (Jm rfl At.z (by simpa [*] using ag40)) rfl (Ju fn10 rfl rfl fun w hH=>hH.lend (.s (.s (.s (.s (.s (.s (.s .z))))))) fun Hl1 hle1 hA1 hB1 hH=>hH.lend (.s (.s (.s (.s (.s (.s (.s .z))))))) fun Hl2 hle2 hA2 hB2 hH=>hH.lend (.s (.s (.s (.s (.s .z))))) fun Hl3 hle3 hA3 hB3 hH=>hH.lend (.s (.s (.s .z))) fun Hl4 hle4 hA4 hB4 hH=>hH.lend (.s .z) fun Hl5 hle5 hA5 hB5 hH=>(Indeterminacy_c (((((own_ints hA1).le hle2).le hle3).le hle4).le hle5) ((((own_forms haf.wfss hA2).le hle3).le hle4).le hle5) (((own_terms hx.wfs hA3).le hle4).le hle5) ((own_terms hy.wfs hA4).le hle5) (own_terms hz.wfs hA5) (by omega) (by omega) hl6 (by omega) (by omega) (by omega) (own_le hA3) (own_le hA4) (own_le hA5) hH).mono ?_)))))))))));rintro _ w ⟨qo68,co68,vso68,rfl,hH⟩;replace hH:=hB5 _ _ hH;replace hH:=hB4 _ _ hH;replace hH:=hB3 _ _ hH;replace hH:=hB2 _ _ hH;replace hH:=hB1 _ _ hH;refine ⟨_,rfl,fun a hF=>JH hF hH ?_⟩;refine Jg (Jc rfl) rfl (Jg (JI rfl rfl) rfl (Jg (JI rfl rfl) rfl (Jg (Jd rfl) rfl (Jg (Jd rfl) rfl (Jf (Ja (hK24 (Je fun _ hK25 _=>(Je fun _ hK26 _=>(Jb (Jg (Jc rfl) rfl (Jg (Jc rfl) rfl (Ju fn11 rfl rfl fun w hH=>hH.lend (.s (.s (.s (.s (.s .z))))) fun Hl1 hle1 hA1 hB1 hH=>hH.lend (.s (.s (.s (.s (.s (.s (.s (.s (.s .z))))))))) fun Hl2 hle2 hA2 hB2 hH=>(eqInt64SS_c ((own_rows hA1).le hle2) (mlt_rows (hle1.trans hle2) hA2).1 (by omega) f3 hH).mono ?_)))))))))))));rintro _ w ⟨rfl,hH⟩;replace hH:=hB2 _ _ hH;replace hH:=hB1 _ _ hH;refine ⟨_,rfl,fun a hF=>JH hF hH ?_⟩;refine Jg (Em rfl) rfl (Jg (Jc rfl) rfl (Ek (jd:=75) rfl (fun hg75=>?_) (fun hg75=>?_)))
     ·
      try have hg75p:=of_decide_eq_true hg75
      refine JQ rfl rfl rfl hg75 (JQ rfl rfl rfl hg75 (JQ rfl rfl rfl hg75 (Jg (JY rfl hg75 rfl) rfl (Jf (Ja (hK26 (Ew rfl (Je fun _ hK27 _=>(Jb (Jg (Jd rfl) rfl (Jf (Ja (hK27 (Jt (Jk (Jr rfl (Res.tmp rfl) fun w hH=>?_))))))))))))))));replace hH:=hH.tail;replace hH:=hH.tail;replace hH:=hH.tail;replace hH:=hH.tail;replace hH:=hH.tail;replace hH:=hH.tail;replace hH:=hH.tail;replace hH:=hH.tail;replace hH:=hH.tail;replace hH:=hH.tail;replace hH:=hH.tail;replace hH:=hH.tail;replace hH:=hH.tail;replace hH:=hH.tail;replace hH:=hH.tail
      first | exact ⟨rfl,hH.below⟩ | exact absurd rfl hg75p | exact absurd rfl hg75 | (exfalso;omega) | (simp at hg75;done)
     ·
      try have hg75p:=of_decide_eq_false hg75
      refine JV (Jc rfl) rfl rfl rfl hg75 (JV (Jc rfl) rfl rfl rfl hg75 (JV (Eo rfl rfl) rfl rfl rfl hg75 (Jg (JX rfl hg75 rfl) rfl (Jf (Ja (hK26 (Jq rfl (fun hc79=>?_) (fun hc79=>?_))))))))
      ·
       refine Je fun _ hK28 _=>(Jb (Jg (Jd rfl) rfl (Jf (Ja (hK28 (Jt (Jk (Jr rfl (Res.tmp rfl) fun w hH=>?_))))))));replace hH:=hH.tail;replace hH:=hH.tail;replace hH:=hH.tail;replace hH:=hH.tail;replace hH:=hH.tail;replace hH:=hH.tail;replace hH:=hH.tail;replace hH:=hH.tail;replace hH:=hH.tail;replace hH:=hH.tail;replace hH:=hH.tail;replace hH:=hH.tail;replace hH:=hH.tail;replace hH:=hH.tail;replace hH:=hH.tail
       first | exact ⟨rfl,hH.below⟩ | exact absurd rfl hc79p | exact absurd rfl hc79 | (exfalso;omega) | (simp at hc79;done)
      ·
       refine Jn (Ja (hK25 (Je fun _ hK29 _=>(Je fun _ hK30 _=>(Ea (Rs:=[_,_,_,_,_,_,_,_,_,_,_,_,_,_,_]) 5 [[], [], [1], [0,1,2], [0,1,2,3]] [[15], [19], [], [2,7,8], []] [[], [], [], [], []] rfl rfl (by kernel_rfl) ?_)))));apply Ji 1 rfl rfl rfl
       ·intros;conv=>lhs;simp only [Jh,reduceEqDiff,reduceAdd]
       ·exact Jm rfl At.z (by simpa [*] using ag36)
       apply Ji 2 rfl rfl rfl
       ·intros;conv=>lhs;simp only [Jh,reduceEqDiff,reduceAdd]
       ·exact Jm rfl At.z (by simpa [*] using ag25)
       apply GJ.t2 3 rfl
       ·intros;conv=>lhs;simp only [Jh,reduceEqDiff,reduceAdd]
       ·
        intro gh X K zq zc zq2 zc2 zb zv hK;refine Ju fn8 rfl rfl fun w hH=>(toAlgebra_c had haf (by omega) hl6 hH).mono ?_;rintro _ w ⟨qdo82,cdo82,qfo82,cfo82,vso82,rfl,hH⟩;refine ⟨_,rfl,fun a hF=>JH hF hH ?_⟩;refine Jy ?_;exact hK qdo82 cdo82 qfo82 cfo82 zb vso82
       ·intro gh gh' h;refine ⟨?_,?_,?_⟩ <;> rfl
       apply Ez 4 rfl
       ·intros;conv=>lhs;simp only [Jh,reduceEqDiff,reduceAdd]
       ·
        intro gh X K zq zc zq2 zc2 zb zv hK;refine Ju fn12 rfl rfl fun w hH=>hH.lend (.s (.s .z)) fun Hl1 hle1 hA1 hB1 hH=>hH.lend (.s (.s .z)) fun Hl2 hle2 hA2 hB2 hH=>hH.lend .z fun Hl3 hle3 hA3 hB3 hH=>hH.lend .z fun Hl4 hle4 hA4 hB4 hH=>(eqAlgebra_c ((((own_ints hA1).le hle2).le hle3).le hle4) (((own_forms haf.wfss hA2).le hle3).le hle4) ((own_ints hA3).le hle4) (own_forms haf.wfss hA4) (by omega) (by omega) hl hH).mono ?_;rintro _ w ⟨rfl,hH⟩;replace hH:=hB4 _ _ hH;replace hH:=hB3 _ _ hH;replace hH:=hB2 _ _ hH;replace hH:=hB1 _ _ hH;refine ⟨_,rfl,fun a hF=>JH hF hH ?_⟩;refine Jw (.s .z) (Jw (.s .z) (Jw (.s (.s (.s .z))) (Jw (.s (.s (.s .z))) (Jy ?_))));exact hK zq zc zq2 zc2 zb zv
       ·intro gh gh' h;first | simp only [h 2 rfl] | rfl
       apply Ef 5 rfl rfl rfl
       ·intros;conv=>lhs;simp only [Jh,reduceEqDiff,reduceAdd]
       ·exact Em rfl
       ·intro gh gh' h;first | simp only [h 2 rfl] | rfl
       apply JZ [0,1,2,3,4] [0,1,2,3,4,5,6,7,8,9,10,11,12,13,14,15,16,17,18,19] foll0 rfl rfl rfl (by rfl)
       iterate 2 focus (intros;(conv=>lhs;simp only [JU,Ej,Ka,El,Es,eq_self,reduceEqDiff,reduceIte,reduceSub,reduceAdd,JxA,JxB]);all_goals rfl)
       intro gh;generalize (gh 2).c=cdo82;generalize (gh 2).c2=cfo82;generalize (gh 2).q=qdo82;generalize (gh 2).q2=qfo82;generalize (gh 2).vs=vso82;clear gh;refine Ja (hK30 (Ei rfl (fun hc84=>?_) (fun hc84=>?_)))
       ·
        refine Je fun _ hK31 _=>(Jb (Jg (Jd rfl) rfl (Jf (Ja (hK31 (Jt (Jk (Jr rfl (Res.tmp rfl) fun w hH=>?_))))))));replace hH:=hH.tail;replace hH:=hH.tail;replace hH:=hH.tail;replace hH:=hH.tail;replace hH:=hH.tail;replace hH:=hH.tail;replace hH:=hH.tail;replace hH:=hH.tail;replace hH:=hH.tail;replace hH:=hH.tail;replace hH:=hH.tail;replace hH:=hH.tail;replace hH:=hH.tail;replace hH:=hH.tail;replace hH:=hH.tail;replace hH:=hH.tail;replace hH:=hH.tail
        first | exact ⟨rfl,hH.below⟩ | exact absurd rfl hc84p | exact absurd rfl hc84 | (exfalso;omega) | (simp at hc84;done)
       ·
        refine Jn (Ja (hK29 (Je fun _ hK32 _=>(Je fun _ hK33 _=>(Er [[], [], [1]] (by kernel_rfl) (JA (fun gh=>Jm rfl (.s (.s (.s (.s (.s (.s (.s (.s (.s (.s (.s .z))))))))))) (by simpa [*] using ag40)) (JA (fun gh=>Jm rfl (.s (.s (.s (.s (.s (.s (.s (.s (.s (.s (.s (.s (.s (.s (.s .z))))))))))))))) (by simpa [*] using ag28)) (HJ.callN fn9 (fun gh=>rfl) (fun w X hH=>toForm_c hx (by omega) hH) (Ec 3 1 foll0 (by kernel_rfl) rfl rfl fun gh=>(En (us':=(85,_)::(86,_)::(87,_)::_) (L':=_::_) rfl rfl (Ju fn13 rfl rfl fun w hH=>hH.lend (.s (.s (.s (.s (.s (.s (.s .z))))))) fun Hl1 hle1 hA1 hB1 hH=>hH.lend .z fun Hl2 hle2 hA2 hB2 hH=>(eqForm_c ((own_terms hx.wfs hA1).le hle2) (own_terms hx.wfs hA2) (by omega) hH).mono ?_)))))))))));rintro _ w ⟨rfl,hH⟩;replace hH:=hB2 _ _ hH;replace hH:=hB1 _ _ hH;refine ⟨_,rfl,fun a hF=>JH hF hH ?_⟩;refine Jf (Eb (JC (Em rfl) rfl (Ed (Ja (hK33 (Ei rfl (fun hc89=>?_) (fun hc89=>?_)))))))
        ·
         refine Je fun _ hK34 _=>(Jb (Jg (Jd rfl) rfl (Jf (Ja (hK34 (Jt (Jk (Jr rfl (Res.tmp rfl) fun w hH=>?_))))))));replace hH:=hH.tail;replace hH:=hH.tail;replace hH:=hH.tail;replace hH:=hH.tail;replace hH:=hH.tail;replace hH:=hH.tail;replace hH:=hH.tail;replace hH:=hH.tail;replace hH:=hH.tail;replace hH:=hH.tail;replace hH:=hH.tail;replace hH:=hH.tail;replace hH:=hH.tail;replace hH:=hH.tail;replace hH:=hH.tail;replace hH:=hH.tail;replace hH:=hH.tail;replace hH:=hH.tail
         first | exact ⟨rfl,hH.below⟩ | exact absurd rfl hc89p | exact absurd rfl hc89 | (exfalso;omega) | (simp at hc89;done)
        ·
         refine Jn (Ja (hK32 (Je fun _ hK35 _=>(Je fun _ hK36 _=>(Er [[], [], [1]] (by kernel_rfl) (JA (fun gh=>Jm rfl (.s (.s (.s (.s (.s (.s (.s (.s (.s (.s (.s .z))))))))))) (by simpa [*] using ag40)) (JA (fun gh=>Jm rfl (.s (.s (.s (.s (.s (.s (.s (.s (.s (.s (.s (.s (.s (.s (.s .z))))))))))))))) (by simpa [*] using ag28)) (HJ.callN fn9 (fun gh=>rfl) (fun w X hH=>toForm_c hy (by omega) hH) (Ec 3 1 foll0 (by kernel_rfl) rfl rfl fun gh=>(En (us':=(90,_)::(91,_)::(92,_)::_) (L':=_::_) rfl rfl (Ju fn13 rfl rfl fun w hH=>hH.lend (.s (.s (.s (.s (.s (.s (.s (.s (.s .z))))))))) fun Hl1 hle1 hA1 hB1 hH=>hH.lend .z fun Hl2 hle2 hA2 hB2 hH=>(eqForm_c ((own_terms hy.wfs hA1).le hle2) (own_terms hy.wfs hA2) (by omega) hH).mono ?_)))))))))));rintro _ w ⟨rfl,hH⟩;replace hH:=hB2 _ _ hH;replace hH:=hB1 _ _ hH;refine ⟨_,rfl,fun a hF=>JH hF hH ?_⟩;refine Jf (Eb (JC (Em rfl) rfl (Ed (Ja (hK36 (Ei rfl (fun hc94=>?_) (fun hc94=>?_)))))))
         ·
          refine Je fun _ hK37 _=>(Jb (Jg (Jd rfl) rfl (Jf (Ja (hK37 (Jt (Jk (Jr rfl (Res.tmp rfl) fun w hH=>?_))))))));replace hH:=hH.tail;replace hH:=hH.tail;replace hH:=hH.tail;replace hH:=hH.tail;replace hH:=hH.tail;replace hH:=hH.tail;replace hH:=hH.tail;replace hH:=hH.tail;replace hH:=hH.tail;replace hH:=hH.tail;replace hH:=hH.tail;replace hH:=hH.tail;replace hH:=hH.tail;replace hH:=hH.tail;replace hH:=hH.tail;replace hH:=hH.tail;replace hH:=hH.tail;replace hH:=hH.tail;replace hH:=hH.tail
          first | exact ⟨rfl,hH.below⟩ | exact absurd rfl hc94p | exact absurd rfl hc94 | (exfalso;omega) | (simp at hc94;done)
         ·
          refine Jn (Ja (hK35 (Je fun _ hK38 _=>(Je fun _ hK39 _=>(Er [[], [], [1]] (by kernel_rfl) (JA (fun gh=>Jm rfl (.s (.s (.s (.s (.s (.s (.s (.s (.s (.s (.s .z))))))))))) (by simpa [*] using ag40)) (JA (fun gh=>Jm rfl (.s (.s (.s (.s (.s (.s (.s (.s (.s (.s (.s (.s (.s (.s (.s .z))))))))))))))) (by simpa [*] using ag28)) (HJ.callN fn9 (fun gh=>rfl) (fun w X hH=>toForm_c hz (by omega) hH) (Ec 3 1 foll0 (by kernel_rfl) rfl rfl fun gh=>(En (us':=(95,_)::(96,_)::(97,_)::_) (L':=_::_) rfl rfl (Ju fn13 rfl rfl fun w hH=>hH.lend (.s (.s (.s (.s (.s (.s (.s (.s (.s (.s (.s .z))))))))))) fun Hl1 hle1 hA1 hB1 hH=>hH.lend .z fun Hl2 hle2 hA2 hB2 hH=>(eqForm_c ((own_terms hz.wfs hA1).le hle2) (own_terms hz.wfs hA2) (by omega) hH).mono ?_)))))))))));rintro _ w ⟨rfl,hH⟩;replace hH:=hB2 _ _ hH;replace hH:=hB1 _ _ hH;refine ⟨_,rfl,fun a hF=>JH hF hH ?_⟩;refine Jf (Eb (JC (Em rfl) rfl (Ed (Ja (hK39 (Ei rfl (fun hc99=>?_) (fun hc99=>?_)))))))
          ·
           refine Je fun _ hK40 _=>(Jb (Jg (Jd rfl) rfl (Jf (Ja (hK40 (Jt (Jk (Jr rfl (Res.tmp rfl) fun w hH=>?_))))))));replace hH:=hH.tail;replace hH:=hH.tail;replace hH:=hH.tail;replace hH:=hH.tail;replace hH:=hH.tail;replace hH:=hH.tail;replace hH:=hH.tail;replace hH:=hH.tail;replace hH:=hH.tail;replace hH:=hH.tail;replace hH:=hH.tail;replace hH:=hH.tail;replace hH:=hH.tail;replace hH:=hH.tail;replace hH:=hH.tail;replace hH:=hH.tail;replace hH:=hH.tail;replace hH:=hH.tail;replace hH:=hH.tail;replace hH:=hH.tail
           first | exact ⟨rfl,hH.below⟩ | exact absurd rfl hc99p | exact absurd rfl hc99 | (exfalso;omega) | (simp at hc99;done)
          ·
           refine Jn (Ja (hK38 (Je fun _ hK41 _=>(Jb (Jg (Jd rfl) rfl (Jf (Ja (hK41 (Je fun _ hK42 _=>(Jb (Jg (Jm rfl (.s (.s (.s (.s (.s (.s (.s (.s (.s (.s (.s (.s (.s (.s (.s .z))))))))))))))) (by simpa [*] using ag36)) rfl (Jg (Jc rfl) rfl (Ju fn14 rfl rfl fun w hH=>(markAlgebra_c (by omega) (by omega) ((hH.front (.s (.s (.s (.s (.s (.s (.s (.s (.s (.s (.s .z)))))))))))).front (.s (.s (.s (.s (.s (.s (.s (.s (.s (.s (.s .z))))))))))))).mono ?_)))))))))))));rintro _ w ⟨rfl,hH⟩;refine ⟨_,rfl,fun a hF=>JH hF hH ?_⟩;refine Jg (Jd rfl) rfl (Jf (Ja (hK42 (Je fun _ hK43 _=>(Jb (Jg (Jm rfl (.s (.s (.s (.s (.s (.s (.s (.s (.s (.s (.s (.s (.s (.s .z)))))))))))))) (by simpa [*] using ag40)) rfl (Jg (Jc rfl) rfl (Ju fn15 rfl rfl fun w hH=>(markForm_c (by omega) (hH.front (.s (.s (.s (.s (.s (.s .z)))))))).mono ?_))))))));rintro _ w ⟨rfl,hH⟩;refine ⟨_,rfl,fun a hF=>JH hF hH ?_⟩;refine Jg (Jd rfl) rfl (Jf (Ja (hK43 (Je fun _ hK44 _=>(Jb (Jg (Jm rfl (.s (.s (.s (.s (.s (.s (.s (.s (.s (.s (.s (.s (.s .z))))))))))))) (by simpa [*] using ag40)) rfl (Jg (Jc rfl) rfl (Ju fn15 rfl rfl fun w hH=>(markForm_c (by omega) (hH.front (.s (.s (.s (.s (.s .z))))))).mono ?_))))))));rintro _ w ⟨rfl,hH⟩;refine ⟨_,rfl,fun a hF=>JH hF hH ?_⟩;refine Jg (Jd rfl) rfl (Jf (Ja (hK44 (Je fun _ hK45 _=>(Jb (Jg (Jm rfl (.s (.s (.s (.s (.s (.s (.s (.s (.s (.s (.s (.s .z)))))))))))) (by simpa [*] using ag40)) rfl (Jg (Jc rfl) rfl (Ju fn15 rfl rfl fun w hH=>(markForm_c (by omega) (hH.front (.s (.s (.s (.s .z)))))).mono ?_))))))));rintro _ w ⟨rfl,hH⟩;refine ⟨_,rfl,fun a hF=>JH hF hH ?_⟩;refine Jg (Jd rfl) rfl (Jf (Ja (hK45 (Je fun _ hK46 _=>(Je fun _ hK47 _=>(Jb (Jg (Jc rfl) rfl (Jg (JJ rfl rfl) rfl (Jg (Jc rfl) rfl (Ek (jd:=114) rfl (fun hg114=>?_) (fun hg114=>?_)))))))))))
           ·
            try have hg114p:=of_decide_eq_true hg114
            refine JQ rfl rfl rfl hg114 (JQ rfl rfl rfl hg114 (JQ rfl rfl rfl hg114 (JQ rfl rfl rfl hg114 (Jg (JY rfl hg114 rfl) rfl (Jg (Jc rfl) rfl (JQ rfl rfl rfl rfl (JQ rfl rfl rfl rfl (JQ rfl rfl rfl rfl (Jg (JY rfl rfl rfl) rfl (Jf (Ja (hK47 (Ew rfl (Je fun _ hK48 _=>(Jb ?_)))))))))))))));refine Jg (Jd rfl) rfl (Jf (Ja (hK48 (Jt (Jk (Jr rfl (Res.tmp rfl) fun w hH=>?_))))));replace hH:=hH.tail;replace hH:=hH.tail;replace hH:=hH.tail;replace hH:=hH.tail;replace hH:=hH.tail;replace hH:=hH.tail;replace hH:=hH.tail;replace hH:=hH.tail;replace hH:=hH.tail;replace hH:=hH.tail;replace hH:=hH.tail;replace hH:=hH.tail;replace hH:=hH.tail;replace hH:=hH.tail;replace hH:=hH.tail;replace hH:=hH.tail;replace hH:=hH.tail;replace hH:=hH.tail;replace hH:=hH.tail;replace hH:=hH.tail
            first | exact ⟨rfl,hH.below⟩ | exact absurd rfl hg114p | exact absurd rfl hg114 | (exfalso;omega) | (simp at hg114;done)
           ·
            try have hg114p:=of_decide_eq_false hg114
            refine JV (Jc rfl) rfl rfl rfl hg114 (JV (Jc rfl) rfl rfl rfl hg114 (EW fn11 rfl rfl hg114 rfl rfl fun w hH=>hH.lend (.s (.s (.s (.s (.s (.s (.s (.s (.s (.s .z)))))))))) fun Hl1 hle1 hA1 hB1 hH=>hH.lend (.s (.s (.s (.s (.s (.s (.s (.s (.s (.s .z)))))))))) fun Hl2 hle2 hA2 hB2 hH=>(eqInt64SS_c ((own_rows hA1).le hle2) (mlt_rows (hle1.trans hle2) hA2).1 (by omega) f3 hH).mono ?_));rintro _ w ⟨rfl,hH⟩;replace hH:=hB2 _ _ hH;replace hH:=hB1 _ _ hH;refine ⟨_,rfl,fun a hF=>JH hF hH ?_⟩;refine JV (Em rfl) rfl rfl rfl hg114 (Jg (JX rfl hg114 rfl) rfl (Jg (Jc rfl) rfl (Ek (jd:=120) rfl (fun hg120=>?_) (fun hg120=>?_))))
            ·
             try have hg120p:=of_decide_eq_true hg120
             refine JQ rfl rfl rfl hg120 (JQ rfl rfl rfl hg120 (JQ rfl rfl rfl hg120 (Jg (JY rfl hg120 rfl) rfl (Jf (Ja (hK47 (Ew rfl (Je fun _ hK49 _=>(Jb (Jg (Jd rfl) rfl (Jf (Ja (hK49 (Jt (Jk (Jr rfl (Res.tmp rfl) fun w hH=>?_))))))))))))))));replace hH:=hH.tail;replace hH:=hH.tail;replace hH:=hH.tail;replace hH:=hH.tail;replace hH:=hH.tail;replace hH:=hH.tail;replace hH:=hH.tail;replace hH:=hH.tail;replace hH:=hH.tail;replace hH:=hH.tail;replace hH:=hH.tail;replace hH:=hH.tail;replace hH:=hH.tail;replace hH:=hH.tail;replace hH:=hH.tail;replace hH:=hH.tail;replace hH:=hH.tail;replace hH:=hH.tail;replace hH:=hH.tail;replace hH:=hH.tail
             first | exact ⟨rfl,hH.below⟩ | exact absurd rfl hg120p | exact absurd rfl hg120 | (exfalso;omega) | (simp at hg120;done)
            ·
             try have hg120p:=of_decide_eq_false hg120
             refine JV (Jc rfl) rfl rfl rfl hg120 (JV (Jc rfl) rfl rfl rfl hg120 (JV (Eo rfl rfl) rfl rfl rfl hg120 (Jg (JX rfl hg120 rfl) rfl (Jf (Ja (hK47 (Jq rfl (fun hc124=>?_) (fun hc124=>?_))))))))
             ·
              refine Je fun _ hK50 _=>(Jb (Jg (Jd rfl) rfl (Jf (Ja (hK50 (Jt (Jk (Jr rfl (Res.tmp rfl) fun w hH=>?_))))))));replace hH:=hH.tail;replace hH:=hH.tail;replace hH:=hH.tail;replace hH:=hH.tail;replace hH:=hH.tail;replace hH:=hH.tail;replace hH:=hH.tail;replace hH:=hH.tail;replace hH:=hH.tail;replace hH:=hH.tail;replace hH:=hH.tail;replace hH:=hH.tail;replace hH:=hH.tail;replace hH:=hH.tail;replace hH:=hH.tail;replace hH:=hH.tail;replace hH:=hH.tail;replace hH:=hH.tail;replace hH:=hH.tail;replace hH:=hH.tail
              first | exact ⟨rfl,hH.below⟩ | exact absurd rfl hc124p | exact absurd rfl hc124 | (exfalso;omega) | (simp at hc124;done)
             ·
              refine Jn (Ja (hK46 (Je fun _ hK51 _=>(Jb (Jg (Jd rfl) rfl (Jf (Ja (hK51 (Je fun _ hK52 _=>(Jb (Jg (Jc rfl) rfl (Jg (Jc rfl) rfl (Ju fn16 rfl rfl fun w hH=>(markInt64SS_c (by omega) (by omega) (hH.front .z)).mono ?_)))))))))))));rintro _ w ⟨rfl,hH⟩;refine ⟨_,rfl,fun a hF=>JH hF hH ?_⟩;refine Jg (Jd rfl) rfl (Jf (Ja (hK52 (Je fun _ hK53 _=>(Jb (Jg (Jd rfl) rfl (Jf (Ja (hK53 (Je fun _ hK54 _=>(Jb (Jg (Jc rfl) rfl (Jg (Jc rfl) rfl (Ju fn17 rfl rfl fun w hH=>hH.lend .z fun Hl1 hle1 hA1 hB1 hH=>(heldInt64SS_c (own_mrows (by omega) hA1) (by omega) (by omega) hH).mono ?_))))))))))))));rintro _ w ⟨rfl,hH⟩;replace hH:=hB1 _ _ hH;refine ⟨_,rfl,fun a hF=>JH hF hH ?_⟩;refine Jg (Jd rfl) rfl (Jf (Ja (hK54 (Je fun _ hK55 _=>(Je fun _ hK56 _=>(Jb (Jg (Jc rfl) rfl (Jg (JJ rfl rfl) rfl (Jf (Ja (hK56 (Jq rfl (fun hc132=>?_) (fun hc132=>?_)))))))))))))
              ·
               refine Je fun _ hK57 _=>(Jb (Jg (Jd rfl) rfl (Jf (Ja (hK57 (Jt (Jk (Jr rfl (Res.tmp rfl) fun w hH=>?_))))))));replace hH:=hH.tail;replace hH:=hH.tail;replace hH:=hH.tail;replace hH:=hH.tail;replace hH:=hH.tail;replace hH:=hH.tail;replace hH:=hH.tail;replace hH:=hH.tail;replace hH:=hH.tail;replace hH:=hH.tail;replace hH:=hH.tail;replace hH:=hH.tail;replace hH:=hH.tail;replace hH:=hH.tail;replace hH:=hH.tail;replace hH:=hH.tail;replace hH:=hH.tail;replace hH:=hH.tail;replace hH:=hH.tail;replace hH:=hH.tail
               first | exact ⟨rfl,hH.below⟩ | exact absurd rfl hc132p | exact absurd rfl hc132 | (exfalso;omega) | (simp at hc132;done)
              ·
               refine Jn (Ja (hK55 (Je fun _ hK58 _=>(Je fun _ hK59 _=>(Jb (Jg (Jc rfl) rfl (Jg (Jc rfl) rfl (Jg (Eo rfl rfl) rfl (Jf (Ja (hK59 (Jq rfl (fun hc135=>?_) (fun hc135=>?_)))))))))))))
               ·
                refine Je fun _ hK60 _=>(Jb (Jg (Jd rfl) rfl (Jf (Ja (hK60 (Jt (Jk (Jr rfl (Res.tmp rfl) fun w hH=>?_))))))));replace hH:=hH.tail;replace hH:=hH.tail;replace hH:=hH.tail;replace hH:=hH.tail;replace hH:=hH.tail;replace hH:=hH.tail;replace hH:=hH.tail;replace hH:=hH.tail;replace hH:=hH.tail;replace hH:=hH.tail;replace hH:=hH.tail;replace hH:=hH.tail;replace hH:=hH.tail;replace hH:=hH.tail;replace hH:=hH.tail;replace hH:=hH.tail;replace hH:=hH.tail;replace hH:=hH.tail;replace hH:=hH.tail;replace hH:=hH.tail
                first | exact ⟨rfl,hH.below⟩ | exact absurd rfl hc135p | exact absurd rfl hc135 | (exfalso;omega) | (simp at hc135;done)
               ·
                refine Jn (Ja (hK58 (Je fun _ hK61 _=>(Ea (Rs:=[_,_,_,_,_,_,_,_,_,_,_,_,_,_,_,_,_,_,_,_]) 14 [[], [0], [], [0,1,2], [], [0,1,2,3,4], [], [0,1,2,3,4,5,6], [0,1,2,3,4,5,6,7], [0,1,2,3,4,5,6,7,8], [0,1,2,3,4,5,6,7,8,9], [0,1,2,3,4,5,6,7,8,9], [0,1,2,3,4,5,6,7,8,9,10], [0,1,2,3,4,5,6,7,8,9,10,11,12]] [[33], [], [32], [], [31], [], [30], [], [1,3,5,7], [], [], [], [], []] [[], [], [], [], [], [], [], [], [], [], [], [], [], []] rfl rfl (by kernel_rfl) ?_))));apply Ji 1 rfl rfl rfl
                ·intros;conv=>lhs;simp only [Jh,reduceEqDiff,reduceAdd]
                ·exact Jm rfl At.z (by simpa [*] using ag25)
                apply GJ.t2 2 rfl
                ·intros;conv=>lhs;simp only [Jh,reduceEqDiff,reduceAdd]
                ·
                 intro gh X K zq zc zq2 zc2 zb zv hK;refine Ju fn8 rfl rfl fun w hH=>(toAlgebra_c had haf (by omega) hl6 hH).mono ?_;rintro _ w ⟨qdo138,cdo138,qfo138,cfo138,vso138,rfl,hH⟩;refine ⟨_,rfl,fun a hF=>JH hF hH ?_⟩;refine Jy ?_;exact hK qdo138 cdo138 qfo138 cfo138 zb vso138
                ·intro gh gh' h;refine ⟨?_,?_,?_⟩ <;> rfl
                apply Ji 3 rfl rfl rfl
                ·intros;conv=>lhs;simp only [Jh,reduceEqDiff,reduceAdd]
                ·exact Jm rfl At.z (by simpa [*] using ag28)
                apply JR 4 rfl
                ·intros;conv=>lhs;simp only [Jh,reduceEqDiff,reduceAdd]
                ·
                 intro gh X K zq zc zq2 zc2 zb zv hK;refine Ju fn9 rfl rfl fun w hH=>(toForm_c hx (by omega) hH).mono ?_;rintro _ w ⟨qo140,co140,rfl,hH⟩;refine ⟨_,rfl,fun a hF=>JH hF hH ?_⟩;refine Jy ?_;exact hK qo140 co140 zq2 zc2 zb zv
                ·intro gh gh' h;refine ⟨?_,?_⟩ <;> (first | simp only [h 1 rfl] | rfl)
                apply Ji 5 rfl rfl rfl
                ·intros;conv=>lhs;simp only [Jh,reduceEqDiff,reduceAdd]
                ·exact Jm rfl At.z (by simpa [*] using ag28)
                apply JR 6 rfl
                ·intros;conv=>lhs;simp only [Jh,reduceEqDiff,reduceAdd]
                ·
                 intro gh X K zq zc zq2 zc2 zb zv hK;refine Ju fn9 rfl rfl fun w hH=>(toForm_c hy (by omega) hH).mono ?_;rintro _ w ⟨qo142,co142,rfl,hH⟩;refine ⟨_,rfl,fun a hF=>JH hF hH ?_⟩;refine Jy ?_;exact hK qo142 co142 zq2 zc2 zb zv
                ·intro gh gh' h;refine ⟨?_,?_⟩ <;> (first | simp only [h 1 rfl,h 3 rfl] | rfl)
                apply Ji 7 rfl rfl rfl
                ·intros;conv=>lhs;simp only [Jh,reduceEqDiff,reduceAdd]
                ·exact Jm rfl At.z (by simpa [*] using ag28)
                apply JR 8 rfl
                ·intros;conv=>lhs;simp only [Jh,reduceEqDiff,reduceAdd]
                ·
                 intro gh X K zq zc zq2 zc2 zb zv hK;refine Ju fn9 rfl rfl fun w hH=>(toForm_c hz (by omega) hH).mono ?_;rintro _ w ⟨qo144,co144,rfl,hH⟩;refine ⟨_,rfl,fun a hF=>JH hF hH ?_⟩;refine Jy ?_;exact hK qo144 co144 zq2 zc2 zb zv
                ·intro gh gh' h;refine ⟨?_,?_⟩ <;> (first | simp only [h 1 rfl,h 3 rfl,h 5 rfl] | rfl)
                apply JR 9 rfl
                ·intros;conv=>lhs;simp only [Jh,reduceEqDiff,reduceAdd]
                ·
                 intro gh X K zq zc zq2 zc2 zb zv hK;refine Ju fn10 rfl rfl fun w hH=>hH.lend .z fun Hl1 hle1 hA1 hB1 hH=>hH.lend .z fun Hl2 hle2 hA2 hB2 hH=>hH.lend .z fun Hl3 hle3 hA3 hB3 hH=>hH.lend .z fun Hl4 hle4 hA4 hB4 hH=>hH.lend .z fun Hl5 hle5 hA5 hB5 hH=>(Indeterminacy_c (((((own_ints hA1).le hle2).le hle3).le hle4).le hle5) ((((own_forms haf.wfss hA2).le hle3).le hle4).le hle5) (((own_terms hx.wfs hA3).le hle4).le hle5) ((own_terms hy.wfs hA4).le hle5) (own_terms hz.wfs hA5) (by omega) (by omega) hl6 (by omega) (by omega) (by omega) (own_le hA3) (own_le hA4) (own_le hA5) hH).mono ?_;rintro _ w ⟨qo145,co145,vso145,rfl,hH⟩;replace hH:=hB5 _ _ hH;replace hH:=hB4 _ _ hH;replace hH:=hB3 _ _ hH;replace hH:=hB2 _ _ hH;replace hH:=hB1 _ _ hH;refine ⟨_,rfl,fun a hF=>JH hF hH ?_⟩;refine Jw (.s (.s (.s (.s .z)))) (Jw (.s (.s (.s (.s .z)))) (Jw (.s (.s (.s (.s .z)))) (Jw (.s (.s (.s (.s .z)))) (Jw (.s (.s (.s (.s .z)))) (Jw (.s (.s (.s (.s (.s .z))))) (Jy ?_))))));exact hK qo145 co145 zq2 zc2 zb vso145
                ·intro gh gh' h;refine ⟨?_,?_⟩ <;> (first | simp only [h 1 rfl,h 3 rfl,h 5 rfl,h 7 rfl] | rfl)
                apply Ef 10 rfl rfl rfl
                ·intros;conv=>lhs;simp only [Jh,reduceEqDiff,reduceAdd]
                ·exact Jc rfl
                ·intro gh gh' h;first | simp only [h 1 rfl,h 3 rfl,h 5 rfl,h 7 rfl,h 8 rfl] | rfl
                apply Ef 11 rfl rfl rfl
                ·intros;conv=>lhs;simp only [Jh,reduceEqDiff,reduceAdd]
                ·exact JI rfl rfl
                ·intro gh gh' h;first | simp only [h 1 rfl,h 3 rfl,h 5 rfl,h 7 rfl,h 8 rfl] | rfl
                apply Ef 12 rfl rfl rfl
                ·intros;conv=>lhs;simp only [Jh,reduceEqDiff,reduceAdd]
                ·exact JI rfl rfl
                ·intro gh gh' h;first | simp only [h 1 rfl,h 3 rfl,h 5 rfl,h 7 rfl,h 8 rfl] | rfl
                apply Ef 13 rfl rfl rfl
                ·intros;conv=>lhs;simp only [Jh,reduceEqDiff,reduceAdd]
                ·exact Jd rfl
                ·intro gh gh' h;first | simp only [h 1 rfl,h 3 rfl,h 5 rfl,h 7 rfl,h 8 rfl] | rfl
                apply Ef 14 rfl rfl rfl
                ·intros;conv=>lhs;simp only [Jh,reduceEqDiff,reduceAdd]
                ·exact Jd rfl
                ·intro gh gh' h;first | simp only [h 1 rfl,h 3 rfl,h 5 rfl,h 7 rfl,h 8 rfl] | rfl
                apply JZ [0,1,2,3,4,5,6,7,8,9,10,11,12,13] [0,1,2,3,4,5,6,7,8,9,10,11,12,13,14,15,16,17,18,19,20,21,22,23,24,25,26,27,28,29,30,31,32,33] foll0 rfl rfl rfl (by rfl)
                iterate 2 focus (intros;(conv=>lhs;simp only [JU,Ej,Ka,El,Es,eq_self,reduceEqDiff,reduceIte,reduceSub,reduceAdd,JxA,JxB]);all_goals rfl)
                intro gh;generalize (gh 1).c=cdo138;generalize (gh 1).c2=cfo138;generalize (gh 1).q=qdo138;generalize (gh 1).q2=qfo138;generalize (gh 1).vs=vso138;generalize (gh 3).c=co140;generalize (gh 3).q=qo140;generalize (gh 5).c=co142;generalize (gh 5).q=qo142;generalize (gh 7).c=co144;generalize (gh 7).q=qo144;generalize (gh 8).c=co145;generalize (gh 8).q=qo145;generalize (gh 8).vs=vso145;clear gh;refine Ja (hK61 (Je fun _ hK62 _=>(Je fun _ hK63 _=>(Jb (Jg (Jc rfl) rfl (Jg (Jc rfl) rfl (Ju fn11 rfl rfl fun w hH=>hH.lend (.s (.s (.s (.s (.s .z))))) fun Hl1 hle1 hA1 hB1 hH=>hH.lend (.s (.s (.s (.s (.s (.s .z)))))) fun Hl2 hle2 hA2 hB2 hH=>(eqInt64SS_c ((own_rows hA1).le hle2) (mlt_rows (hle1.trans hle2) hA2).1 (by omega) f3 hH).mono ?_)))))));rintro _ w ⟨rfl,hH⟩;replace hH:=hB2 _ _ hH;replace hH:=hB1 _ _ hH;refine ⟨_,rfl,fun a hF=>JH hF hH ?_⟩;refine Jg (Em rfl) rfl (Jg (Jc rfl) rfl (Ek (jd:=152) rfl (fun hg152=>?_) (fun hg152=>?_)))
                ·
                 try have hg152p:=of_decide_eq_true hg152
                 refine JQ rfl rfl rfl hg152 (JQ rfl rfl rfl hg152 (JQ rfl rfl rfl hg152 (Jg (JY rfl hg152 rfl) rfl (Jf (Ja (hK63 (Ew rfl (Je fun _ hK64 _=>(Jb (Jg (Jd rfl) rfl (Jf (Ja (hK64 (Jt (Jk (Jr rfl (Res.tmp rfl) fun w hH=>?_))))))))))))))));replace hH:=hH.tail;replace hH:=hH.tail;replace hH:=hH.tail;replace hH:=hH.tail;replace hH:=hH.tail;replace hH:=hH.tail;replace hH:=hH.tail;replace hH:=hH.tail;replace hH:=hH.tail;replace hH:=hH.tail;replace hH:=hH.tail;replace hH:=hH.tail;replace hH:=hH.tail;replace hH:=hH.tail;replace hH:=hH.tail;replace hH:=hH.tail;replace hH:=hH.tail;replace hH:=hH.tail;replace hH:=hH.tail;replace hH:=hH.tail;replace hH:=hH.tail;replace hH:=hH.tail;replace hH:=hH.tail;replace hH:=hH.tail;replace hH:=hH.tail;replace hH:=hH.tail
                 first | exact ⟨rfl,hH.below⟩ | exact absurd rfl hg152p | exact absurd rfl hg152 | (exfalso;omega) | (simp at hg152;done)
                ·
                 try have hg152p:=of_decide_eq_false hg152
                 refine JV (Jc rfl) rfl rfl rfl hg152 (JV (Jc rfl) rfl rfl rfl hg152 (JV (Eo rfl rfl) rfl rfl rfl hg152 (Jg (JX rfl hg152 rfl) rfl (Jf (Ja (hK63 (Jq rfl (fun hc156=>?_) (fun hc156=>?_))))))))
                 ·
                  refine Je fun _ hK65 _=>(Jb (Jg (Jd rfl) rfl (Jf (Ja (hK65 (Jt (Jk (Jr rfl (Res.tmp rfl) fun w hH=>?_))))))));replace hH:=hH.tail;replace hH:=hH.tail;replace hH:=hH.tail;replace hH:=hH.tail;replace hH:=hH.tail;replace hH:=hH.tail;replace hH:=hH.tail;replace hH:=hH.tail;replace hH:=hH.tail;replace hH:=hH.tail;replace hH:=hH.tail;replace hH:=hH.tail;replace hH:=hH.tail;replace hH:=hH.tail;replace hH:=hH.tail;replace hH:=hH.tail;replace hH:=hH.tail;replace hH:=hH.tail;replace hH:=hH.tail;replace hH:=hH.tail;replace hH:=hH.tail;replace hH:=hH.tail;replace hH:=hH.tail;replace hH:=hH.tail;replace hH:=hH.tail;replace hH:=hH.tail
                  first | exact ⟨rfl,hH.below⟩ | exact absurd rfl hc156p | exact absurd rfl hc156 | (exfalso;omega) | (simp at hc156;done)
                 ·
                  refine Jn (Ja (hK62 (Je fun _ hK66 _=>(Jb (Jg (Jd rfl) rfl (Jf (Ja (hK66 (Je fun _ hK67 _=>(Jb (Jg (Jc rfl) rfl (Jg (Jc rfl) rfl (Ju fn17 rfl rfl fun w hH=>hH.lend (.s (.s (.s (.s (.s (.s (.s .z))))))) fun Hl1 hle1 hA1 hB1 hH=>(heldInt64SS_c (own_mrows (by omega) hA1) (by omega) (by omega) hH).mono ?_)))))))))))));rintro _ w ⟨rfl,hH⟩;replace hH:=hB1 _ _ hH;refine ⟨_,rfl,fun a hF=>JH hF hH ?_⟩;refine Jg (Jd rfl) rfl (Jf (Ja (hK67 (Je fun _ hK68 _=>(Je fun _ hK69 _=>(Jb (Jg (Jc rfl) rfl (Jg (JJ rfl rfl) rfl (Jf (Ja (hK69 (Jq rfl (fun hc161=>?_) (fun hc161=>?_)))))))))))))
                  ·
                   refine Je fun _ hK70 _=>(Jb (Jg (Jd rfl) rfl (Jf (Ja (hK70 (Jt (Jk (Jr rfl (Res.tmp rfl) fun w hH=>?_))))))));replace hH:=hH.tail;replace hH:=hH.tail;replace hH:=hH.tail;replace hH:=hH.tail;replace hH:=hH.tail;replace hH:=hH.tail;replace hH:=hH.tail;replace hH:=hH.tail;replace hH:=hH.tail;replace hH:=hH.tail;replace hH:=hH.tail;replace hH:=hH.tail;replace hH:=hH.tail;replace hH:=hH.tail;replace hH:=hH.tail;replace hH:=hH.tail;replace hH:=hH.tail;replace hH:=hH.tail;replace hH:=hH.tail;replace hH:=hH.tail;replace hH:=hH.tail;replace hH:=hH.tail;replace hH:=hH.tail;replace hH:=hH.tail;replace hH:=hH.tail;replace hH:=hH.tail
                   first | exact ⟨rfl,hH.below⟩ | exact absurd rfl hc161p | exact absurd rfl hc161 | (exfalso;omega) | (simp at hc161;done)
                  ·
                   refine Jn (Ja (hK68 (Je fun _ hK71 _=>(Je fun _ hK72 _=>(Jb (Jg (Jc rfl) rfl (Jg (Jc rfl) rfl (Jg (Eo rfl rfl) rfl (Jf (Ja (hK72 (Jq rfl (fun hc164=>?_) (fun hc164=>?_)))))))))))))
                   ·
                    refine Je fun _ hK73 _=>(Jb (Jg (Jd rfl) rfl (Jf (Ja (hK73 (Jt (Jk (Jr rfl (Res.tmp rfl) fun w hH=>?_))))))));replace hH:=hH.tail;replace hH:=hH.tail;replace hH:=hH.tail;replace hH:=hH.tail;replace hH:=hH.tail;replace hH:=hH.tail;replace hH:=hH.tail;replace hH:=hH.tail;replace hH:=hH.tail;replace hH:=hH.tail;replace hH:=hH.tail;replace hH:=hH.tail;replace hH:=hH.tail;replace hH:=hH.tail;replace hH:=hH.tail;replace hH:=hH.tail;replace hH:=hH.tail;replace hH:=hH.tail;replace hH:=hH.tail;replace hH:=hH.tail;replace hH:=hH.tail;replace hH:=hH.tail;replace hH:=hH.tail;replace hH:=hH.tail;replace hH:=hH.tail;replace hH:=hH.tail
                    first | exact ⟨rfl,hH.below⟩ | exact absurd rfl hc164p | exact absurd rfl hc164 | (exfalso;omega) | (simp at hc164;done)
                   ·
                    refine Jn (Ja (hK71 (Je fun _ hK74 _=>(Jb (Jg (Jd rfl) rfl (Jf (Ja (hK74 (Jt (Jr rfl (Res.tmp rfl) fun w hH=>?_))))))))));replace hH:=hH.tail;replace hH:=hH.tail;replace hH:=hH.tail;replace hH:=hH.tail;replace hH:=hH.tail;replace hH:=hH.tail;replace hH:=hH.tail;replace hH:=hH.tail;replace hH:=hH.tail;replace hH:=hH.tail;replace hH:=hH.tail;replace hH:=hH.tail;replace hH:=hH.tail;replace hH:=hH.tail;replace hH:=hH.tail;replace hH:=hH.tail;replace hH:=hH.tail;replace hH:=hH.tail;replace hH:=hH.tail;replace hH:=hH.tail;replace hH:=hH.tail;replace hH:=hH.tail;replace hH:=hH.tail;replace hH:=hH.tail;replace hH:=hH.tail;replace hH:=hH.tail
                    first | exact ⟨rfl,hH.below⟩ | exact absurd rfl hc164p | exact absurd rfl hc164 | (exfalso;omega) | (simp at hc164;done)
end Go.Proofs.YtelcehjliighfaaGreat.G
namespace Go.Proofs.YtelcehjliighfaaGreat.fnExactIndeterminacy
open Go.ChangeShapes Go.WideShapes Go.ChangeAt Go.RowKit
open Go.Proofs.YtelcehjliighfaaGreat.G
theorem u25:Tryz.prog.underlying 25=some (TypeDesc.struct #[{name:="Degrees",type:=22,offset:=0,embedded:=false,tag:="",pkgPath:="",byteOffset:=0},{name:="Images",type:=23,offset:=1,embedded:=false,tag:="",pkgPath:="",byteOffset:=24}]):=by kernel_rfl
theorem u22:Tryz.prog.underlying 22=some (TypeDesc.slice 2):=by kernel_rfl
theorem u2:Tryz.prog.underlying 2=some (TypeDesc.int .i64):=by kernel_rfl
theorem u23:Tryz.prog.underlying 23=some (TypeDesc.slice 28):=by kernel_rfl
theorem u28:Tryz.prog.underlying 28=some (TypeDesc.struct #[{name:="Terms",type:=26,offset:=0,embedded:=false,tag:="",pkgPath:="",byteOffset:=0}]):=by kernel_rfl
theorem u26:Tryz.prog.underlying 26=some (TypeDesc.slice 110):=by kernel_rfl
theorem u110:Tryz.prog.underlying 110=some (TypeDesc.struct #[{name:="Monomial",type:=104,offset:=0,embedded:=false,tag:="",pkgPath:="",byteOffset:=0},{name:="Factor",type:=2,offset:=8,embedded:=false,tag:="",pkgPath:="",byteOffset:=8}]):=by kernel_rfl
theorem u104:Tryz.prog.underlying 104=some (TypeDesc.array 8 5):=by kernel_rfl
theorem u5:Tryz.prog.underlying 5=some (TypeDesc.int .u8):=by kernel_rfl
theorem u4:Tryz.prog.underlying 4=some (TypeDesc.bool):=by kernel_rfl
theorem own:ownKnob Tryz.prog.godebug=none:=by kernel_rfl
theorem lifted (os:Os) (started:os.Started) (H:Type) (enc:TypeId × Value→H):ReturnsInHanded {} Tryz.checked os 3 .any (Rows.fnExactIndeterminacySpec.pre6 enc Tryz.prog Tryz.f3 Rows.fnExactIndeterminacyRow.domain false) (Rows.fnExactIndeterminacySpec.post enc Tryz.prog Tryz.f3 false true false false):=by
 refine returnsInHanded_of_change_sized (C:=Tryz.checked) own started (by kernel_rfl) Tryz.func3
  (ChangeSpec.witness6 (enc:=enc) (C:=Tryz.checked) false ⟨#[],#[.agg #[.slice none 0 0,.slice none 0 0],.agg #[.slice none 0 0],.agg #[.slice none 0 0],.agg #[.slice none 0 0]], []⟩ 12 (by kernel_rfl) (by kernel_rfl) (by kernel_rfl) (by kernel_rfl)) ?_
 intro W base args ds gs before hval0 hW hcnd hsz0 _;have hval : ∀(j:Nat) t v,Tryz.f3.params[j]? = some t→args[j]? = some v→Value.okWide Tryz.prog W .any base t v:=hval0;have hW':=hW;obtain ⟨p,q,hA0,hV,rfl,hfz,hnd⟩:=hW;have hA:DataW.TrodAll enc Tryz.prog W 0 (fun _=>true) true Tryz.f3.params.toList args.toList ds p:=hA0;rw [Tryz.params3] at hA hval;obtain ⟨v0,Ka,d0,ds0,p0,q0,hargs,rfl,rfl,h0,r0⟩:=trodAll_cons hA;obtain ⟨v1,vs1,d1,ds1,p1,q1,rfl,rfl,rfl,h1,r1⟩:=trodAll_cons r0;obtain ⟨v2,vs2,d2,ds2,p2,q2,rfl,rfl,rfl,h2,r2⟩:=trodAll_cons r1;obtain ⟨v3,vs3,d3,ds3,p3,q3,rfl,rfl,rfl,h3,r3⟩:=trodAll_cons r2;obtain ⟨rfl,rfl,rfl⟩:=trodAll_nil r3
 obtain rfl:args = #[v0,v1,v2,v3]:=by cases args;simp_all
 obtain ⟨rfl,rfl⟩:=trodVars_none hV;obtain ⟨q0d,c0d,ds0,q0f,c0f,fs0,rfl,X0,F0,le0,fl0⟩:=openV_alg u25 rfl rfl rfl rfl (by kernel_rfl) (by kernel_rfl) (by kernel_rfl) u22 u2 (by kernel_rfl) u23 (by kernel_rfl) (fun n l y hy=>tr_form u28 rfl rfl (by kernel_rfl) (by kernel_rfl) u26 (by kernel_rfl) u110 rfl rfl rfl rfl u104 u5 (by kernel_rfl) (by kernel_rfl) u2 (by kernel_rfl) hy) (hval 0 25 v0 rfl rfl) h0;obtain ⟨q1,c1,ts1,rfl,X1,le1⟩:=openV_form u28 rfl rfl (by kernel_rfl) (by kernel_rfl) u26 (by kernel_rfl) u110 rfl rfl rfl rfl u104 u5 (by kernel_rfl) (by kernel_rfl) u2 (by kernel_rfl) (hval 1 28 v1 rfl rfl) h1;obtain ⟨q2,c2,ts2,rfl,X2,le2⟩:=openV_form u28 rfl rfl (by kernel_rfl) (by kernel_rfl) u26 (by kernel_rfl) u110 rfl rfl rfl rfl u104 u5 (by kernel_rfl) (by kernel_rfl) u2 (by kernel_rfl) (hval 2 28 v2 rfl rfl) h2;obtain ⟨q3,c3,ts3,rfl,X3,le3⟩:=openV_form u28 rfl rfl (by kernel_rfl) (by kernel_rfl) u26 (by kernel_rfl) u110 rfl rfl rfl rfl u104 u5 (by kernel_rfl) (by kernel_rfl) u2 (by kernel_rfl) (hval 3 28 v3 rfl rfl) h3;clear hA0 hval0 hsz0;refine ((lawIndeterminacy_c X0 F0 X1 X2 X3 le0 fl0 le1 le2 le3 (Hp.start (H:=hp W) fun _ _ h=>h)).mono fun e W' ⟨he,bel⟩=>?_);subst he;exact ⟨_,rfl,law_post (f:=Tryz.f3) (by kernel_rfl) (by kernel_rfl) rfl rfl u4 rfl hW' bel⟩
theorem joined:joinedFacts Tryz.prog 3 Tryz.f3 Rows.fnExactIndeterminacySpec Rows.fnExactIndeterminacyRow=true:=by
 unfold joinedFacts;simp only [Bool.and_eq_true]
 repeat' apply And.intro
 all_goals first
  | with_reducible exact Facts.fEnter
  | with_reducible exact Facts.fLaid
  | with_reducible exact Facts.fMaps
  | with_reducible exact Facts.fHeard
  | (rw [Facts.fMake];rfl)
  | (rw [Facts.fLift];rfl)
  | (rw [Facts.fKeys];rfl)
  | (rw [Facts.fStops];rfl)
  | (rw [Facts.fStopK];rfl)
  | as_aux_lemma=>kernel_rfl
theorem over:Rows.fnExactIndeterminacyRow.holds Tryz.pinned (OpenSpec.ofChange Rows.fnExactIndeterminacySpec):=
 OpenClaim.holds_of_wide 3 Tryz.f3 rfl rfl rfl rfl rfl rfl rfl ⟨rfl,rfl,rfl,rfl,rfl⟩ rfl rfl rfl rfl rfl (by as_aux_lemma=>kernel_rfl) Tryz.func3 joined
  (of_decide_eq_true (by as_aux_lemma=>kernel_rfl)) (by unfold Func.isWrapper;first | (rw [if_pos (by decide +kernel)];kernel_rfl) | (rw [if_neg (by decide +kernel)];exact ⟨rfl,rfl⟩))
  (fun os started H enc _=>lifted os started H enc)
theorem proved:Rows.FnExactIndeterminacySaid:=over
#print axioms proved
end Go.Proofs.YtelcehjliighfaaGreat.fnExactIndeterminacy
namespace Go.Proofs.YtelcehjliighfaaGreat
theorem fnExactIndeterminacy_holds:Rows.FnExactIndeterminacySaid:=fnExactIndeterminacy.proved
end Go.Proofs.YtelcehjliighfaaGreat
