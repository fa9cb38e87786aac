/- A part of the walk of one law: what the functions compute. No condition. -/
import Derived.Test.YthenedanhcnccaaGreatRows
import Derived.Test.YthenedanhcnccaaGreatProg
import Derived.WalkKit
import Derived.KernelRfl
import Derived.JoinedOf
import Derived.Maps.AppendAt
import Derived.Still
import Derived.ProofKit
import Derived.OpenShut
import Derived.StillTail
import Derived.Deep.Upon
import Derived.WalkSpells
import Derived.Maps.Range
import Derived.DeepKeys4
import Derived.Maps.Keyed
import Derived.ChangeOld
import Derived.Below
import Derived.SizedLaws
import Derived.Test.YthenedanhcnccaaGreatPIsof
set_option linter.unusedVariables false
set_option linter.unusedSimpArgs false
set_option maxRecDepth 10000
set_option maxHeartbeats 8000000
open Nat (reduceEqDiff reduceSub reduceAdd)
namespace Go.Proofs.YthenedanhcnccaaGreat.G
open Go Go.RowKit
theorem fn116:Fn Tryz.prog 116:=⟨_,Tryz.func116,by kernel_rfl,rfl⟩
theorem fn122:Fn Tryz.prog 122:=⟨_,Tryz.func122,by kernel_rfl,rfl⟩
theorem fn123:Fn Tryz.prog 123:=⟨_,Tryz.func123,by kernel_rfl,rfl⟩
theorem equalIn_nilS {P:Program} (w:World) (d:Nat) {t e:TypeId} (a:Option Addr) (l c:Nat) (h:P.underlying t=some (.slice e)):(Op.equalIn (d+1) t (.slice a l c) (.slice none 0 0)).run P w = .ok a.isNone w:=by
 cases a <;> simp [Op.equalIn,run_underlying h]
theorem run_neq_nilS {P:Program} (w:World) {t e:TypeId} (a:Option Addr) (l c:Nat) (h:P.underlying t=some (.slice e)):(binOp .neq t (.slice a l c) (.slice none 0 0)).run P w = .ok (.bool (!a.isNone)) w:=by
 have h2:(Op.equal t (.slice a l c) (.slice none 0 0)).run P w = .ok a.isNone w:=equalIn_nilS w 9999 a l c h
 simp [binOp,h2]
section
variable {P : Program} {ops : Array Oper} {Q : Exit → Act → World → Prop} {n : Nat} {B : World} {H0 H : HP} {rest : List Oper} {us : List (Nat × Value)} {L L' : List SA} {t : TypeId} {p : String} {af : Array Edge} {d : Nat} {x y : Operand}
theorem PR.neqNil {xt yt e:TypeId} {q:Option Addr} {m c:Nat} (hu:P.underlying xt=some (.slice e)) (hx:opv us x=some (.slice q m c)) (hy:opv us y=some (.slice none 0 0)):PR P n B H0 us H L (.binOp .neq xt x y yt) t (.bool (!q.isNone)):=
 fun _ _ _ _ a w hF _=>by simp [execOp,hF.ev hx,hF.ev hy,eqGuard_at_slice,run_neq_nilS w q m c hu]
end
section
variable {B : World} {H0 H : HP} {L : List SA} {w : World}
theorem Hp.lvBack {lb:Nat} {rest:List (Int × Lv)} {x y:Int × Lv} (h:Hp B H0 H (lvB x.2::lvB y.2::lvO rest::lvM lb ((x.1,x.2.b)::(y.1,y.2.b)::lvK rest)::L) w):Hp B H0 H (lvB x.2::lvO (y::rest)::lvM lb ((x.1,x.2.b)::lvK (y::rest))::L) w:=by
 have h1:=h.front (.s .z);have h2:=(h1.front (.s (.s .z))).front (.s .z);exact h2.star.front (.s .z)
end
theorem matS_ok {ds:List Int} {fs:List (List Term)} {n:Int} (hA:AlgOk ds fs) (h8:ds.length≤8) (hd : ∀j,j<ds.length→1≤ds.getD j 0∧ds.getD j 0≤12) : ∀r∈matS ds fs n,RowOk (monL ds (n+1)).length r:=fun r hr=>by
 obtain ⟨p,hp,rfl⟩:=List.mem_map.1 hr
 have hp':p∈monS ds n:=List.mem_of_mem_take hp
 have hs:=dS_sok (ds:=ds) (Sok.one (k:=1) (mon_pok h8 hp') (by omega)) hA.fok (mon_occ h8 hp' hd hA.hl)
 refine ⟨by simp,fun k=>?_⟩
 by_cases hk:k<(monL ds (n+1)).length
 ·have e:((monL ds (n+1)).map (cf (dS ds fs [(p,1)]))).getD k 0=cf (dS ds fs [(p,1)]) (monL ds (n+1))[k]:=by simp [List.getD_eq_getElem?_getD,List.getElem?_eq_getElem hk]
  rw [e]
  exact cf_bd hs _
 ·rw [getD_ge (by simp;omega)]
  omega
theorem clS_red {ds:List Int} {fs:List (List Term)} {n:Int} (hA:AlgOk ds fs) (h8:ds.length≤8) (hd : ∀j,j<ds.length→1≤ds.getD j 0∧ds.getD j 0≤12):Red (monL ds n).length (clS ds fs n):=by
 have h1:=(redS_ok (wdS_ok (n:=(matS ds fs n).length) (matS_ok (n:=n) hA h8 hd))).1;have h2:=(redS_ok (fzS_ok h1.row)).1;have h3:Red (matS ds fs n).length (clS ds fs n):=h2
 rwa [matS_len] at h3
theorem bdS_red {ds:List Int} {fs:List (List Term)} {n:Int} (hA:AlgOk ds fs) (h8:ds.length≤8) (hd : ∀j,j<ds.length→1≤ds.getD j 0∧ds.getD j 0≤12):Red (monL ds n).length (bdS ds fs n):=by
 unfold bdS
 split
 ·have:=(redS_ok (matS_ok (n:=n - 1) hA h8 hd)).1
  rwa [Int.sub_add_cancel] at this
 ·exact Red.nil
theorem Red.led {W:Nat} {R:List (List Int)} (h:Red W R) : ∀r∈R,RowOk W r∧ldR r<W:=fun r hr=>⟨h.row r hr,(h.one r hr).1⟩
def lfK (ds:List Int) (fs:List (List Term)) (n:Int) (k:Nat):List (List Int):=((clS ds fs n).take k).map fun r=>byS r (bdS ds fs n)
theorem lfK_succ {ds:List Int} {fs:List (List Term)} {n:Int} {k:Nat} (hk:k<(clS ds fs n).length):lfK ds fs n (k+1)=lfK ds fs n k++[byS (rw_ (clS ds fs n) k) (bdS ds fs n)]:=by
 unfold lfK;rw [rw_take hk,List.map_append]
 rfl
theorem lfK_end {ds:List Int} {fs:List (List Term)} {n:Int} {k:Nat} (hk:k=(clS ds fs n).length):redS (lfK ds fs n k)=csS ds fs n:=by
 subst hk;unfold lfK csS;rw [List.take_length]
theorem lfK_len {ds:List Int} {fs:List (List Term)} {n:Int} {k:Nat} (hk:k≤(clS ds fs n).length):(lfK ds fs n k).length=k:=by
 unfold lfK;rw [List.length_map,List.length_take]
 omega
theorem lfK_ok {ds:List Int} {fs:List (List Term)} {n:Int} {k:Nat} (hA:AlgOk ds fs) (h8:ds.length≤8) (hd : ∀j,j<ds.length→1≤ds.getD j 0∧ds.getD j 0≤12) : ∀r∈lfK ds fs n k,RowOk (monL ds n).length r:=fun r hr=>by
 obtain ⟨s,hs,rfl⟩:=List.mem_map.1 hr
 exact byS_ok ((clS_red hA h8 hd).row s (List.mem_of_mem_take hs)) (bdS_red hA h8 hd).row
theorem csS_red {ds:List Int} {fs:List (List Term)} {n:Int} (hA:AlgOk ds fs) (h8:ds.length≤8) (hd : ∀j,j<ds.length→1≤ds.getD j 0∧ds.getD j 0≤12):Red (monL ds n).length (csS ds fs n):=by
 rw [← lfK_end rfl];exact (redS_ok (lfK_ok hA h8 hd)).1
theorem at_c {B:World} {H0 H:HP} {L:List SA} {w:World} {bc lc:Nat} {bca:Nat} {qcad qcaf:Option Addr} {ccad ccaf:Nat} {cad:List Int} {caf:List (List Term)} {n:Int} {ls:List (Int × Lv)} (pc0:CellAt H bc 0 (.pointer (some ⟨bca,0,none⟩))) (pc1:CellAt H bc 1 (.map (some lc))) (pcad:CellAt H bca 0 (.slice qcad cad.length ccad)) (pcaf:CellAt H bca 1 (.slice qcaf caf.length ccaf)) (hcad:Ints H qcad cad) (hcaf:Forms H qcaf caf) (hd : ∀j,j<cad.length→1≤cad.getD j 0∧cad.getD j 0≤12) (h8:cad.length≤8) (hn : -1≤n∧n≤100000) (hA:AlgOk cad caf) (hfit:fit3 cad n) (hom : ∀m,m≤n→fit2 cad m→Hom1 cad caf m) (hC:CpxOk H cad caf (fun _=>False) ls) (hN:Nxt (fun _=>False) ls) (hH:Hp B H0 H (cpx lc ls::L) w):Calls Tryz.prog 68 [.pointer (some ⟨bc,0,none⟩),.int .i64 n].toArray w fun e w'=>∃H' ls' x,Le H H' ∧CpxOk H' cad caf (fun _=>False) ls' ∧Nxt (fun _=>False) ls' ∧(n,x)∈ls' ∧(Lv3 H' cad caf n x∧Lv2 H' cad caf n x∧Kp ls ls')∧e = .returned (.pointer (some ⟨x.b,0,none⟩))∧Hp B H0 H' (cpx lc ls'::L) w':=by
 refine Jz Tryz.func68 rfl 73 rfl rfl [(0,.pointer (some ⟨bc,0,none⟩)),(1,.int .i64 n)] rfl hH ?_;have hw0:=hH.old;have hw1:=hH.le;have hmok:=matS_ok (n:=n) hA h8 hd;have hmlen:=matS_len cad caf n;have hml:=monL_len cad n;have hml1:=monL_len cad (n+1);clear hH;refine Je fun _ hK1 _=>(Jb (Jg (Jd rfl) rfl (Jf (Ja (hK1 (Je fun _ hK2 _=>(Jb (Jg (Jc rfl) rfl (Jg (Jc rfl) rfl (Jw fn122 rfl rfl fun w hH=>(withMatrix_c (n:=n) (X:=fun _=>False) pc0 pc1 pcad pcaf hcad hcaf hd h8 (by omega) hA (fun h=>h) hfit.1 (hom n (Int.le_refl _) hfit.1) hC hN hH).mono ?_))))))))));rintro _ w ⟨H11,ls11,⟨b11,p11,⟨ql11,kl11,cl11⟩,⟨qm11,km11,cm11⟩,⟨qz11,kz11,cz11⟩,⟨qy11,ky11,cy11⟩,⟨qx11,kx11,cx11⟩⟩,hle11,hC11,hx11,hsub11,hN11,hk11,⟨hm11,hkp11⟩,rfl,hH⟩;refine ⟨_,rfl,fun a hF=>JL hF hH ?_⟩;replace pc0:=pc0.le hle11;replace pc1:=pc1.le hle11;replace pcad:=pcad.le hle11;replace pcaf:=pcaf.le hle11;replace hcad:=hcad.le hle11;replace hcaf:=hcaf.le hle11;replace hC:=hC.le hle11;obtain ⟨⟨b12,p12,⟨ql12,kl12,cl12⟩,⟨qm12,km12,cm12⟩,⟨qz12,kz12,cz12⟩,⟨qy12,ky12,cy12⟩,⟨qx12,kx12,cx12⟩⟩,hx12⟩:=key_mem hk11;obtain ⟨rs11,hp11,hCr11,hne11,hL11,hL12⟩:=hC11.out2 hx11 hx12 (by omega);obtain rfl:kl11=(monL cad n).length:=hL11.one.len;obtain rfl:kl12=(monL cad (n+1)).length:=hL12.one.len;obtain ⟨rfl,hmr⟩:km11=(matS cad caf n).length∧RowsR H11 qm11 (matS cad caf n):=hm11;have hpw11:Pows H11 ql11 (monL cad n):=hL11.one.pw;have hpl11:SumH H11 (.map (some p11)) (plM (monL cad n)):=hL11.one.pl;have hpw12:Pows H11 ql12 (monL cad (n+1)):=hL12.one.pw;refine J.reL (L':=obj b11 (.cells [.slice ql11 (monL cad (n)).length cl11,.map (some p11),.slice qm11 (matS cad caf n).length cm11,.slice qz11 kz11 cz11,.slice qy11 ky11 cy11,.slice qx11 kx11 cx11].toArray 95 (0,0))::obj b12 (.cells [.slice ql12 (monL cad (n+1)).length cl12,.map (some p12),.slice qm12 km12 cm12,.slice qz12 kz12 cz12,.slice qy12 ky12 cy12,.slice qx12 kx12 cx12].toArray 95 (0,0))::lvO rs11::lvM lc ((n,b11)::(n+1,b12)::lvK rs11)::_) (fun w hH=>Hp.lvOut2 (x:=(n,⟨b11,p11,⟨ql11,(monL cad (n)).length,cl11⟩,⟨qm11,(matS cad caf n).length,cm11⟩,⟨qz11,kz11,cz11⟩,⟨qy11,ky11,cy11⟩,⟨qx11,kx11,cx11⟩⟩)) (y:=(n+1,⟨b12,p12,⟨ql12,(monL cad (n+1)).length,cl12⟩,⟨qm12,km12,cm12⟩,⟨qz12,kz12,cz12⟩,⟨qy12,ky12,cy12⟩,⟨qx12,kx12,cx12⟩⟩)) hp11 hH) (Jg (Jd rfl) rfl (Jf (Ja (hK2 (Je fun _ hK3 _=>(Je fun _ hK4 _=>(Jb (Jg (Jc rfl) rfl (Jg (JG rfl) rfl (Jg (Ju u95 rfl sz57 rfl) rfl (Jg (Jy rfl At.z rfl pl57) rfl (Jg (PR.neqNil u57 rfl rfl) rfl (Jf (Ja (hK4 (Eg rfl (fun h16=>?_) (fun h16=>?_)))))))))))))))))
 ·
  refine Je fun _ hK5 _=>(Jb (Jg (Jc rfl) rfl (Jg (Jd rfl) rfl (Jf (Ja (hK5 (Js (Jk (Jq rfl (Res.tmp rfl) fun w hH=>?_)))))))));replace hH:=hH.sublist (.cons_cons _ (.cons_cons _ (.cons_cons _ (.cons_cons _ (List.Sublist.refl _)))))
  have hq:qz11.isSome=true:=by cases qz11 <;> simp_all
  exact ⟨_,(n,⟨b11,p11,⟨ql11,(monL cad (n)).length,cl11⟩,⟨qm11,(matS cad caf n).length,cm11⟩,⟨qz11,kz11,cz11⟩,⟨qy11,ky11,cy11⟩,⟨qx11,kx11,cx11⟩⟩)::(n+1,⟨b12,p12,⟨ql12,(monL cad (n+1)).length,cl12⟩,⟨qm12,km12,cm12⟩,⟨qz12,kz12,cz12⟩,⟨qy12,ky12,cy12⟩,⟨qx12,kx12,cx12⟩⟩)::rs11,_,hle11,(hCr11.cons (fun z hz=>(hne11 z hz).2) hL12).cons (fun z hz=>by
   rcases List.mem_cons.1 hz with rfl | hz
   ·show n+1≠n
    omega
   ·exact (hne11 z hz).1) hL11,hN11.perm hp11,List.mem_cons_self,⟨hL11.three (fun h=>h) hq hfit,⟨rfl,hmr⟩,hkp11.perm hp11⟩,rfl,Hp.lvIn2 (x:=(n,⟨b11,p11,⟨ql11,(monL cad (n)).length,cl11⟩,⟨qm11,(matS cad caf n).length,cm11⟩,⟨qz11,kz11,cz11⟩,⟨qy11,ky11,cy11⟩,⟨qx11,kx11,cx11⟩⟩)) (y:=(n+1,⟨b12,p12,⟨ql12,(monL cad (n+1)).length,cl12⟩,⟨qm12,km12,cm12⟩,⟨qz12,kz12,cz12⟩,⟨qy12,ky12,cy12⟩,⟨qx12,kx12,cx12⟩⟩)) hH⟩
 ·
  refine Jo (Ja (hK3 (Je fun _ hK6 _=>(Ej (Rs:=[_,_,_,_]) 17 [[], [], [1], [1,2], [1,2,3], [], [], [6], [5,6,7], [5,6,7,8], [5,6,7,8,9], [5,6,7,8,9,10], [5,6,7,8,9,10,11], [1,2,3,4,5,6,7,8,9,10,11,12], [0,1,2,3,4,5,6,7,8,9,10,11,12,13], [0,1,2,3,4,5,6,7,8,9,10,11,12,13,14], [0,1,2,3,4,5,6,7,8,9,10,11,12,13,14,15]] [[], [], [], [], [17], [], [], [], [], [], [], [18], [], [], [], [], []] [[], [], [], [], [], [], [], [], [20], [], [], [], [], [], [], [], [17]] rfl rfl (by kernel_rfl) ?_))));apply Jj 1 rfl
  iterate 3 focus (intros;(conv=>lhs;simp only [Jh,Jt,JN,Jv,JI,eq_self,reduceEqDiff,reduceIte,reduceSub,reduceAdd,JxA,JxB]);all_goals rfl)
  ·
   intro gh X K zq zc zq2 zc2 zb zv hK;refine Jg (Jc rfl) rfl (Ji ?_);exact hK zq zc zq2 zc2 zb zv
  ·
   intro gh gh' h
   rfl
  apply Jj 2 rfl
  iterate 3 focus (intros;(conv=>lhs;simp only [Jh,Jt,JN,Jv,JI,eq_self,reduceEqDiff,reduceIte,reduceSub,reduceAdd,JxA,JxB]);all_goals rfl)
  ·
   intro gh X K zq zc zq2 zc2 zb zv hK;refine Jg (Jc rfl) rfl (Ji ?_);exact hK zq zc zq2 zc2 zb zv
  ·
   intro gh gh' h
   rfl
  apply Jj 3 rfl
  iterate 3 focus (intros;(conv=>lhs;simp only [Jh,Jt,JN,Jv,JI,eq_self,reduceEqDiff,reduceIte,reduceSub,reduceAdd,JxA,JxB]);all_goals rfl)
  ·
   intro gh X K zq zc zq2 zc2 zb zv hK;refine Jg (JG rfl) rfl (Ji ?_);exact hK zq zc zq2 zc2 zb zv
  ·
   intro gh gh' h
   rfl
  apply Jj 4 rfl
  iterate 3 focus (intros;(conv=>lhs;simp only [Jh,Jt,JN,Jv,JI,eq_self,reduceEqDiff,reduceIte,reduceSub,reduceAdd,JxA,JxB]);all_goals rfl)
  ·
   intro gh X K zq zc zq2 zc2 zb zv hK;refine Jg (Ju u95 rfl sz57 rfl) rfl (Ji ?_);exact hK zq zc zq2 zc2 zb zv
  ·
   intro gh gh' h
   rfl
  apply Jj 5 rfl
  iterate 3 focus (intros;(conv=>lhs;simp only [Jh,Jt,JN,Jv,JI,eq_self,reduceEqDiff,reduceIte,reduceSub,reduceAdd,JxA,JxB]);all_goals rfl)
  ·
   intro gh X K zq zc zq2 zc2 zb zv hK;refine Jg (Jy rfl At.z rfl pl57) rfl (Ji ?_);exact hK zq zc zq2 zc2 zb zv
  ·
   intro gh gh' h
   rfl
  apply Jj 6 rfl
  iterate 3 focus (intros;(conv=>lhs;simp only [Jh,Jt,JN,Jv,JI,eq_self,reduceEqDiff,reduceIte,reduceSub,reduceAdd,JxA,JxB]);all_goals rfl)
  ·
   intro gh X K zq zc zq2 zc2 zb zv hK;refine Jg (Jc rfl) rfl (Ji ?_);exact hK zq zc zq2 zc2 zb zv
  ·
   intro gh gh' h
   rfl
  apply Jj 7 rfl
  iterate 3 focus (intros;(conv=>lhs;simp only [Jh,Jt,JN,Jv,JI,eq_self,reduceEqDiff,reduceIte,reduceSub,reduceAdd,JxA,JxB]);all_goals rfl)
  ·
   intro gh X K zq zc zq2 zc2 zb zv hK;refine Jg (Jc rfl) rfl (Ji ?_);exact hK zq zc zq2 zc2 zb zv
  ·
   intro gh gh' h
   rfl
  apply Jj 8 rfl
  iterate 3 focus (intros;(conv=>lhs;simp only [Jh,Jt,JN,Jv,JI,eq_self,reduceEqDiff,reduceIte,reduceSub,reduceAdd,JxA,JxB]);all_goals rfl)
  ·
   intro gh X K zq zc zq2 zc2 zb zv hK;refine Jg (JC rfl rfl (by first | exact nw _ (by omega) | rfl)) rfl (Ji ?_);exact hK zq zc zq2 zc2 zb zv
  ·
   intro gh gh' h
   rfl
  apply Ea 9 rfl
  iterate 3 focus (intros;(conv=>lhs;simp only [Jh,Jt,JN,Jv,JI,eq_self,reduceEqDiff,reduceIte,reduceSub,reduceAdd,JxA,JxB]);all_goals rfl)
  ·
   intro gh X K zq zc zq2 zc2 zb zv hK;refine Jw fn124 rfl rfl fun w hH=>(bareK_c (n:=n+1) pc0 pc1 pcad pcaf hcad hcaf (by omega) (look_s (by omega) look_z) (hH.front .z)).mono ?_;rintro _ w ⟨rfl,hH⟩;refine ⟨_,rfl,fun a hF=>JL hF hH ?_⟩;refine Ji ?_;exact hK zq zc zq2 zc2 zb zv
  ·
   intro gh gh' h;refine ⟨?_,?_⟩ <;> rfl
  apply Jj 10 rfl
  iterate 3 focus (intros;(conv=>lhs;simp only [Jh,Jt,JN,Jv,JI,eq_self,reduceEqDiff,reduceIte,reduceSub,reduceAdd,JxA,JxB]);all_goals rfl)
  ·
   intro gh X K zq zc zq2 zc2 zb zv hK;refine Jg (JG rfl) rfl (Ji ?_);exact hK zq zc zq2 zc2 zb zv
  ·
   intro gh gh' h
   rfl
  apply Jj 11 rfl
  iterate 3 focus (intros;(conv=>lhs;simp only [Jh,Jt,JN,Jv,JI,eq_self,reduceEqDiff,reduceIte,reduceSub,reduceAdd,JxA,JxB]);all_goals rfl)
  ·
   intro gh X K zq zc zq2 zc2 zb zv hK;refine Jg (Ju u95 rfl sz92 rfl) rfl (Ji ?_);exact hK zq zc zq2 zc2 zb zv
  ·
   intro gh gh' h
   rfl
  apply Jj 12 rfl
  iterate 3 focus (intros;(conv=>lhs;simp only [Jh,Jt,JN,Jv,JI,eq_self,reduceEqDiff,reduceIte,reduceSub,reduceAdd,JxA,JxB]);all_goals rfl)
  ·
   intro gh X K zq zc zq2 zc2 zb zv hK;refine Jg (Jy rfl At.z rfl pl92) rfl (Ji ?_);exact hK zq zc zq2 zc2 zb zv
  ·
   intro gh gh' h
   rfl
  apply Jj 13 rfl
  iterate 3 focus (intros;(conv=>lhs;simp only [Jh,Jt,JN,Jv,JI,eq_self,reduceEqDiff,reduceIte,reduceSub,reduceAdd,JxA,JxB]);all_goals rfl)
  ·
   intro gh X K zq zc zq2 zc2 zb zv hK;refine Jg (Jm u92 rfl rfl) rfl (Ji ?_);exact hK zq zc zq2 zc2 zb zv
  ·
   intro gh gh' h
   rfl
  apply Ea 14 rfl
  iterate 3 focus (intros;(conv=>lhs;simp only [Jh,Jt,JN,Jv,JI,eq_self,reduceEqDiff,reduceIte,reduceSub,reduceAdd,JxA,JxB]);all_goals rfl)
  ·
   intro gh X K zq zc zq2 zc2 zb zv hK;refine Jw fn123 rfl rfl fun w hH=>(kernel_c hmr hmok (by omega) (by omega) hH).mono ?_;rintro _ w ⟨qo31,co31,vso31,rfl,hH⟩;refine ⟨_,rfl,fun a hF=>JL hF hH ?_⟩;refine Ji ?_;exact hK qo31 co31 zq2 zc2 zb vso31
  ·
   intro gh gh' h;refine ⟨?_,?_⟩ <;> rfl
  apply Jj 15 rfl
  iterate 3 focus (intros;(conv=>lhs;simp only [Jh,Jt,JN,Jv,JI,eq_self,reduceEqDiff,reduceIte,reduceSub,reduceAdd,JxA,JxB]);all_goals rfl)
  ·
   intro gh X K zq zc zq2 zc2 zb zv hK;refine Jg (JG rfl) rfl (Ji ?_);exact hK zq zc zq2 zc2 zb zv
  ·
   intro gh gh' h
   first | simp only [h 13 rfl] | rfl
  apply Jj 16 rfl
  iterate 3 focus (intros;(conv=>lhs;simp only [Jh,Jt,JN,Jv,JI,eq_self,reduceEqDiff,reduceIte,reduceSub,reduceAdd,JxA,JxB]);all_goals rfl)
  ·
   intro gh X K zq zc zq2 zc2 zb zv hK;refine Jg (Ju u95 rfl sz57 rfl) rfl (Ji ?_);exact hK zq zc zq2 zc2 zb zv
  ·
   intro gh gh' h
   first | simp only [h 13 rfl] | rfl
  apply ET 17 rfl
  iterate 3 focus (intros;(conv=>lhs;simp only [Jh,Jt,JN,Jv,JI,eq_self,reduceEqDiff,reduceIte,reduceSub,reduceAdd,JxA,JxB]);all_goals rfl)
  ·
   intro gh X K hK;refine Ez rfl rfl rfl rfl sz57 (by simp [*]) At.z (Ji ?_);exact hK
  ·
   intro gh gh' h
   first | simp only [h 13 rfl] | rfl
  apply Ek [0,1,2,3,4,5,6,7,8,9,10,11,12,13,14,15,16] [0,1,2,3,4,5,6,7,8,9,10,11,12,13,14,15,16,18,19] foll0 rfl rfl rfl (by rfl)
  iterate 2 focus (intros;(conv=>lhs;simp only [Jh,Jt,JN,Jv,JI,eq_self,reduceEqDiff,reduceIte,reduceSub,reduceAdd,JxA,JxB]);all_goals rfl)
  intro gh;generalize (gh 13).c=co31;generalize (gh 13).q=qo31;generalize (gh 13).vs=vso31;clear gh;refine EV (.s .z) fun Ho31 hleo31 hAo31=>?_;replace pc0:=pc0.le hleo31;replace pc1:=pc1.le hleo31;replace pcad:=pcad.le hleo31;replace pcaf:=pcaf.le hleo31;replace hcad:=hcad.le hleo31;replace hcaf:=hcaf.le hleo31;replace hC:=hC.le hleo31;replace hCr11:=hCr11.le hleo31;replace hL11:=hL11.le hleo31;replace hL12:=hL12.le hleo31;replace hmr:=hmr.le hleo31;replace hpw11:=hpw11.le hleo31;replace hpl11:=hpl11.le hleo31;replace hpw12:=hpw12.le hleo31;have hxo31:=own_rows hAo31;have hco31:=own_le hAo31.1;have hz3:SlIs Ho31 ⟨qo31,(clS cad caf n).length,co31⟩ (clS cad caf n):=⟨rfl,hxo31⟩
  have hneR : ∀z∈(n+1,⟨b12,p12,⟨ql12,(monL cad (n+1)).length,cl12⟩,⟨qm12,km12,cm12⟩,⟨qz12,kz12,cz12⟩,⟨qy12,ky12,cy12⟩,⟨qx12,kx12,cx12⟩⟩)::rs11,z.1≠n:=fun z hz=>by
   rcases List.mem_cons.1 hz with rfl | hz
   ·show n+1≠n
    omega
   ·exact (hne11 z hz).1
  have hCR:CpxOk Ho31 cad caf (fun _=>False) ((n+1,⟨b12,p12,⟨ql12,(monL cad (n+1)).length,cl12⟩,⟨qm12,km12,cm12⟩,⟨qz12,kz12,cz12⟩,⟨qy12,ky12,cy12⟩,⟨qx12,kx12,cx12⟩⟩)::rs11):=hCr11.cons (fun z hz=>(hne11 z hz).2) hL12;have hN0:Nxt (fun m=>m=n) ((n,⟨b11,p11,⟨ql11,(monL cad (n)).length,cl11⟩,⟨qm11,(matS cad caf n).length,cm11⟩,⟨qo31,(clS cad caf n).length,co31⟩,⟨qy11,ky11,cy11⟩,⟨qx11,kx11,cx11⟩⟩)::(n+1,⟨b12,p12,⟨ql12,(monL cad (n+1)).length,cl12⟩,⟨qm12,km12,cm12⟩,⟨qz12,kz12,cz12⟩,⟨qy12,ky12,cy12⟩,⟨qx12,kx12,cx12⟩⟩)::rs11):=(hN11.perm hp11).swap hneR (fun _ _ _ h=>h) fun h=>absurd rfl h;refine EJ.reL (fun w hH=>Hp.lvBack (x:=(n,⟨b11,p11,⟨ql11,(monL cad (n)).length,cl11⟩,⟨qm11,(matS cad caf n).length,cm11⟩,⟨qo31,(clS cad caf n).length,co31⟩,⟨qy11,ky11,cy11⟩,⟨qx11,kx11,cx11⟩⟩)) (y:=(n+1,⟨b12,p12,⟨ql12,(monL cad (n+1)).length,cl12⟩,⟨qm12,km12,cm12⟩,⟨qz12,kz12,cz12⟩,⟨qy12,ky12,cy12⟩,⟨qx12,kx12,cx12⟩⟩)) (((hH.front (.s (.s (.s .z)))).front (.s (.s (.s .z)))).front (.s (.s (.s .z))))) (Ja (hK6 (EW (σ:=HP × Option Addr × Nat × List (Int × Lv)) (fun ⟨Hj,qj,cj,rsj⟩=>[]) (fun ⟨Hj,qj,cj,rsj⟩=>Hj) (fun ⟨Hj,qj,cj,rsj⟩=>obj b11 (.cells [.slice ql11 (monL cad (n)).length cl11,.map (some p11),.slice qm11 (matS cad caf n).length cm11,.slice qo31 (clS cad caf n).length co31,.slice qj (bdS cad caf n).length cj,.slice qx11 kx11 cx11].toArray 95 (0,0))::lvO rsj::lvM lc ((n,b11)::lvK rsj)::L) (fun ⟨Hj,qj,cj,rsj⟩=>Le Ho31 Hj∧RowsR Hj qj (bdS cad caf n)∧CpxOk Hj cad caf (fun _=>False) rsj∧(∀z∈rsj,z.1≠n)∧Nxt (fun m=>m=n) ((n,⟨b11,p11,⟨ql11,(monL cad (n)).length,cl11⟩,⟨qm11,(matS cad caf n).length,cm11⟩,⟨qo31,(clS cad caf n).length,co31⟩,⟨qy11,ky11,cy11⟩,⟨qx11,kx11,cx11⟩⟩)::rsj)∧n+1∈rsj.map (·.1)∧Kp ((n+1,⟨b12,p12,⟨ql12,(monL cad (n+1)).length,cl12⟩,⟨qm12,km12,cm12⟩,⟨qz12,kz12,cz12⟩,⟨qy12,ky12,cy12⟩,⟨qx12,kx12,cx12⟩⟩)::rs11) rsj) ?_ ?_)))
  ·
   intro _ hMt1;refine Je fun _ hK7 _=>(Jb (Jg (Jc rfl) rfl (Jg (EC rfl rfl) rfl (Jf (Ja (hK7 (Jp rfl (fun h35=>?_) (fun h35=>?_))))))))
   ·
    have hbe:bdS cad caf n=redS (matS cad caf (n - 1)):=if_pos h35;have hft:fit2 cad (n - 1):=⟨hfit.2 h35,by rw [Int.sub_add_cancel];exact hfit.1.1⟩;refine Jb (Jg (Jc rfl) rfl (Jg (Jc rfl) rfl (Jg (Jc rfl) rfl (Jg (EL rfl rfl (by first | exact nw _ (by omega) | rfl)) rfl ?_))));have hC0:CpxOk Ho31 cad caf (fun m=>m=n) ((n,⟨b11,p11,⟨ql11,(monL cad (n)).length,cl11⟩,⟨qm11,(matS cad caf n).length,cm11⟩,⟨qo31,(clS cad caf n).length,co31⟩,⟨qy11,ky11,cy11⟩,⟨qx11,kx11,cx11⟩⟩)::(n+1,⟨b12,p12,⟨ql12,(monL cad (n+1)).length,cl12⟩,⟨qm12,km12,cm12⟩,⟨qz12,kz12,cz12⟩,⟨qy12,ky12,cy12⟩,⟨qx12,kx12,cx12⟩⟩)::rs11):=(hCR.mono fun _ _ h=>h.elim).cons hneR ⟨⟨rfl,hpw11,hpl11,hL11.one.z⟩,fun h=>absurd rfl h,fun h=>absurd rfl h⟩;refine J.reL (fun w hH=>Hp.lvIn (x:=(n,⟨b11,p11,⟨ql11,(monL cad (n)).length,cl11⟩,⟨qm11,(matS cad caf n).length,cm11⟩,⟨qo31,(clS cad caf n).length,co31⟩,⟨qy11,ky11,cy11⟩,⟨qx11,kx11,cx11⟩⟩)) (rest:=(n+1,⟨b12,p12,⟨ql12,(monL cad (n+1)).length,cl12⟩,⟨qm12,km12,cm12⟩,⟨qz12,kz12,cz12⟩,⟨qy12,ky12,cy12⟩,⟨qx12,kx12,cx12⟩⟩)::rs11) (((hH.front (.s (.s .z))).front (.s (.s .z))).front (.s (.s .z)))) (Jw fn122 rfl rfl fun w hH=>(withMatrix_c (n:=n - 1) (X:=fun m=>m=n) pc0 pc1 pcad pcaf hcad hcaf hd h8 (by omega) hA (by show ¬(n - 1=n);omega) hft (hom (n - 1) (by omega) hft) hC0 hN0 hH).mono ?_);rintro _ w ⟨H40,ls40,⟨b40,p40,⟨ql40,kl40,cl40⟩,⟨qm40,km40,cm40⟩,⟨qz40,kz40,cz40⟩,⟨qy40,ky40,cy40⟩,⟨qx40,kx40,cx40⟩⟩,hle40,hC40,hx40,hsub40,hN40,hk40,⟨hm40,hkp40⟩,rfl,hH⟩;refine ⟨_,rfl,fun a hF=>JL hF hH ?_⟩;replace pc0:=pc0.le hle40;replace pc1:=pc1.le hle40;replace pcad:=pcad.le hle40;replace pcaf:=pcaf.le hle40;replace hcad:=hcad.le hle40;replace hcaf:=hcaf.le hle40;replace hC:=hC.le hle40;replace hCr11:=hCr11.le hle40;replace hL11:=hL11.le hle40;replace hL12:=hL12.le hle40;replace hmr:=hmr.le hle40;replace hpw11:=hpw11.le hle40;replace hpl11:=hpl11.le hle40;replace hpw12:=hpw12.le hle40;replace hxo31:=hxo31.le hle40;replace hz3:=hz3.le hle40;replace hCR:=hCR.le hle40;obtain ⟨rs40,hp40,hCr40,hne40,hM40,hL40⟩:=hC40.out2 (hsub40 (n,⟨b11,p11,⟨ql11,(monL cad (n)).length,cl11⟩,⟨qm11,(matS cad caf n).length,cm11⟩,⟨qo31,(clS cad caf n).length,co31⟩,⟨qy11,ky11,cy11⟩,⟨qx11,kx11,cx11⟩⟩) (by simp) (by show n≠n - 1;omega)) hx40 (by omega);obtain rfl:kl40=(monL cad (n - 1)).length:=hL40.one.len;obtain ⟨rfl,hmr40⟩:km40=(matS cad caf (n - 1)).length∧RowsR H40 qm40 (matS cad caf (n - 1)):=hm40;refine J.reL (L':=obj b11 (.cells [.slice ql11 (monL cad (n)).length cl11,.map (some p11),.slice qm11 (matS cad caf n).length cm11,.slice qo31 (clS cad caf n).length co31,.slice qy11 ky11 cy11,.slice qx11 kx11 cx11].toArray 95 (0,0))::obj b40 (.cells [.slice ql40 (monL cad (n - 1)).length cl40,.map (some p40),.slice qm40 (matS cad caf (n - 1)).length cm40,.slice qz40 kz40 cz40,.slice qy40 ky40 cy40,.slice qx40 kx40 cx40].toArray 95 (0,0))::lvO rs40::lvM lc ((n,b11)::(n - 1,b40)::lvK rs40)::_) (fun w hH=>Hp.lvOut2 (x:=(n,⟨b11,p11,⟨ql11,(monL cad (n)).length,cl11⟩,⟨qm11,(matS cad caf n).length,cm11⟩,⟨qo31,(clS cad caf n).length,co31⟩,⟨qy11,ky11,cy11⟩,⟨qx11,kx11,cx11⟩⟩)) (y:=(n - 1,⟨b40,p40,⟨ql40,(monL cad (n - 1)).length,cl40⟩,⟨qm40,(matS cad caf (n - 1)).length,cm40⟩,⟨qz40,kz40,cz40⟩,⟨qy40,ky40,cy40⟩,⟨qx40,kx40,cx40⟩⟩)) hp40 hH) (Jg (JG rfl) rfl (Jg (Ju u95 rfl sz57 rfl) rfl (Jg (Jy rfl (.s .z) rfl pl57) rfl (Jw fn93 rfl rfl fun w hH=>(reduce_c (W:=(monL cad (n - 1+1)).length) hmr40 (matS_ok hA h8 hd) (by rw [matS_len];have:=monL_len cad (n - 1);omega) (by have:=monL_len cad (n - 1+1);omega) hH).mono ?_))));rintro _ w ⟨qo44,co44,vso44,rfl,hH⟩;refine ⟨_,rfl,fun a hF=>JL hF hH ?_⟩;refine EA .z fun Ho44 hleo44 hAo44=>?_;replace pc0:=pc0.le hleo44;replace pc1:=pc1.le hleo44;replace pcad:=pcad.le hleo44;replace pcaf:=pcaf.le hleo44;replace hcad:=hcad.le hleo44;replace hcaf:=hcaf.le hleo44;replace hC:=hC.le hleo44;replace hCr11:=hCr11.le hleo44;replace hL11:=hL11.le hleo44;replace hL12:=hL12.le hleo44;replace hmr:=hmr.le hleo44;replace hpw11:=hpw11.le hleo44;replace hpl11:=hpl11.le hleo44;replace hpw12:=hpw12.le hleo44;replace hxo31:=hxo31.le hleo44;replace hz3:=hz3.le hleo44;replace hCR:=hCR.le hleo44;replace hCr40:=hCr40.le hleo44;replace hL40:=hL40.le hleo44;replace hmr40:=hmr40.le hleo44;have hxo44:=own_rows hAo44;have hco44:=own_le hAo44.1;refine Jg (JG rfl) rfl (Jg (Ju u95 rfl sz57 rfl) rfl (Ez rfl rfl rfl rfl sz57 (by simp [*]) At.z ?_))
    have hneS : ∀z∈(n - 1,⟨b40,p40,⟨ql40,(monL cad (n - 1)).length,cl40⟩,⟨qm40,(matS cad caf (n - 1)).length,cm40⟩,⟨qz40,kz40,cz40⟩,⟨qy40,ky40,cy40⟩,⟨qx40,kx40,cx40⟩⟩)::rs40,z.1≠n:=fun z hz=>by
     rcases List.mem_cons.1 hz with rfl | hz
     ·show n - 1≠n
      omega
     ·exact (hne40 z hz).1
    have hCS:CpxOk Ho44 cad caf (fun _=>False) ((n - 1,⟨b40,p40,⟨ql40,(monL cad (n - 1)).length,cl40⟩,⟨qm40,(matS cad caf (n - 1)).length,cm40⟩,⟨qz40,kz40,cz40⟩,⟨qy40,ky40,cy40⟩,⟨qx40,kx40,cx40⟩⟩)::rs40):=(hCr40.mono fun z hz h=>absurd h (hne40 z hz).1).cons (fun z hz=>(hne40 z hz).2) (hL40.mono fun h=>by have:n - 1=n:=h;omega);have hNS:=hN40.perm hp40
    have hkS:n+1∈((n - 1,⟨b40,p40,⟨ql40,(monL cad (n - 1)).length,cl40⟩,⟨qm40,(matS cad caf (n - 1)).length,cm40⟩,⟨qz40,kz40,cz40⟩,⟨qy40,ky40,cy40⟩,⟨qx40,kx40,cx40⟩⟩)::rs40).map (·.1):=by
     have h1:=hp40.subset (hsub40 (n+1,⟨b12,p12,⟨ql12,(monL cad (n+1)).length,cl12⟩,⟨qm12,km12,cm12⟩,⟨qz12,kz12,cz12⟩,⟨qy12,ky12,cy12⟩,⟨qx12,kx12,cx12⟩⟩) (by simp) (by show n+1≠n - 1;omega))
     rcases List.mem_cons.1 h1 with h1 | h1
     ·have:=congrArg Prod.fst h1;simp only at this
      omega
     ·exact mem_key h1
    have hKS:Kp ((n+1,⟨b12,p12,⟨ql12,(monL cad (n+1)).length,cl12⟩,⟨qm12,km12,cm12⟩,⟨qz12,kz12,cz12⟩,⟨qy12,ky12,cy12⟩,⟨qx12,kx12,cx12⟩⟩)::rs11) ((n - 1,⟨b40,p40,⟨ql40,(monL cad (n - 1)).length,cl40⟩,⟨qm40,(matS cad caf (n - 1)).length,cm40⟩,⟨qz40,kz40,cz40⟩,⟨qy40,ky40,cy40⟩,⟨qx40,kx40,cx40⟩⟩)::rs40):=fun y hy hF=>by
     rcases List.mem_cons.1 (hp40.subset (hkp40 y (List.mem_cons_of_mem _ hy) hF)) with rfl | h1
     ·exact absurd rfl (hneR _ hy)
     ·exact h1
    refine J.reL (fun w hH=>Hp.lvBack (x:=(n,⟨b11,p11,⟨ql11,(monL cad (n)).length,cl11⟩,⟨qm11,(matS cad caf n).length,cm11⟩,⟨qo31,(clS cad caf n).length,co31⟩,⟨qo44,(redS (matS cad caf (n - 1))).length,co44⟩,⟨qx11,kx11,cx11⟩⟩)) (y:=(n - 1,⟨b40,p40,⟨ql40,(monL cad (n - 1)).length,cl40⟩,⟨qm40,(matS cad caf (n - 1)).length,cm40⟩,⟨qz40,kz40,cz40⟩,⟨qy40,ky40,cy40⟩,⟨qx40,kx40,cx40⟩⟩)) ((((hH.front (.s (.s (.s .z)))).front (.s (.s (.s .z)))).front (.s (.s (.s .z)))).front (.s (.s (.s .z))))) (Jf (Ja ?_));exact hMt1 (Ho44,qo44,co44,(n - 1,⟨b40,p40,⟨ql40,(monL cad (n - 1)).length,cl40⟩,⟨qm40,(matS cad caf (n - 1)).length,cm40⟩,⟨qz40,kz40,cz40⟩,⟨qy40,ky40,cy40⟩,⟨qx40,kx40,cx40⟩⟩)::rs40) ⟨(hle40.trans hleo44),by rw [hbe];exact hxo44,hCS,hneS,hNS,hkS,hKS⟩ 13 rfl rfl trivial rfl (by dsimp only;rw [hbe])
   ·
    have hbz:bdS cad caf n=[]:=if_neg h35;have hky:ky11=0:=hL11.one.z (by omega);refine Jo (Ja ?_);exact hMt1 (Ho31,qy11,cy11,(n+1,⟨b12,p12,⟨ql12,(monL cad (n+1)).length,cl12⟩,⟨qm12,km12,cm12⟩,⟨qz12,kz12,cz12⟩,⟨qy12,ky12,cy12⟩,⟨qx12,kx12,cx12⟩⟩)::rs11) ⟨(Le.refl _),by rw [hbz];exact RowsR.nil _ _,hCR,hneR,hN0,by simp,Kp.refl _⟩ 2 rfl rfl trivial rfl (by subst hky;dsimp only;rw [hbz];rfl)
  ·
   rintro ⟨Hj,qj,cj,rsj⟩ ⟨hlj,hbx,hCj,hnej,hNj,hkj,hKj⟩;replace pc0:=pc0.le hlj;replace pc1:=pc1.le hlj;replace pcad:=pcad.le hlj;replace pcaf:=pcaf.le hlj;replace hcad:=hcad.le hlj;replace hcaf:=hcaf.le hlj;replace hC:=hC.le hlj;replace hCr11:=hCr11.le hlj;replace hL11:=hL11.le hlj;replace hL12:=hL12.le hlj;replace hmr:=hmr.le hlj;replace hpw11:=hpw11.le hlj;replace hpl11:=hpl11.le hlj;replace hpw12:=hpw12.le hlj;replace hxo31:=hxo31.le hlj;replace hz3:=hz3.le hlj;replace hCR:=hCR.le hlj;have hclR:=clS_red (n:=n) hA h8 hd;have hbdR:=bdS_red (n:=n) hA h8 hd;have hclc:=hclR.count;have hbdc:=hbdR.count;refine Je fun _ hK8 _=>(Jb (EK (EP u57 sz22) rfl fun qo47 co47=>(Jg (Jd rfl) rfl (Jf (Ja (hK8 (Je fun _ hK9 _=>(Je fun _ hK10 _=>(Jb (Jg (Jc rfl) rfl (Jg (JG rfl) rfl (Jg (Ju u95 rfl sz57 rfl) rfl (Jg (Jy rfl (.s .z) rfl pl57) rfl (Jg (Jm u57 rfl rfl) rfl (Jg (Jc rfl) rfl ?_)))))))))))))));refine Jf (Ja (hK10 (Jn (JE (σ:=HP × Option Addr × Nat × List Value × Nat) (fun ⟨Hk,q,c,vals,k⟩=>[(53,.int .i64 (k:Int)),(6,.slice q k c)]) (fun ⟨Hk,q,c,vals,k⟩=>Hk) (fun ⟨Hk,q,c,vals,k⟩=>own 22 1 q k c vals::obj b11 (.cells [.slice ql11 (monL cad (n)).length cl11,.map (some p11),.slice qm11 (matS cad caf n).length cm11,.slice qo31 (clS cad caf n).length co31,.slice qj (bdS cad caf n).length cj,.slice qx11 kx11 cx11].toArray 95 (0,0))::lvO rsj::lvM lc ((n,b11)::lvK rsj)::L) (fun ⟨Hk,q,c,vals,k⟩=>Le Hj Hk∧SlF Hk vals (lfK cad caf n k)∧k≤(clS cad caf n).length) (fun ⟨Hk,q,c,vals,k⟩=>(clS cad caf n).length - k) (Hj,qo47,co47, [],0) ⟨Le.refl _,SlF.nil _,by omega⟩ ⟨rfl,⟨rfl,trivial⟩⟩ rfl rfl ?_))));rintro ⟨Hk,q,c,vals,k⟩ ⟨hlk,hS,hk⟩ _ hAg0;replace pc0:=pc0.le hlk;replace pc1:=pc1.le hlk;replace pcad:=pcad.le hlk;replace pcaf:=pcaf.le hlk;replace hcad:=hcad.le hlk;replace hcaf:=hcaf.le hlk;replace hC:=hC.le hlk;replace hCr11:=hCr11.le hlk;replace hL11:=hL11.le hlk;replace hL12:=hL12.le hlk;replace hmr:=hmr.le hlk;replace hpw11:=hpw11.le hlk;replace hpl11:=hpl11.le hlk;replace hpw12:=hpw12.le hlk;replace hxo31:=hxo31.le hlk;replace hz3:=hz3.le hlk;replace hCR:=hCR.le hlk;replace hbx:=hbx.le hlk;replace hCj:=hCj.le hlk;refine Je fun _ hK11 _=>(Jb (Jg (JR rfl rfl) rfl (Jf (Ja (hK11 (Je fun _ hK12 _=>(Jp rfl (fun h54=>?_) (fun h54=>?_))))))))
   ·
    have hkc:k<(clS cad caf n).length:=by omega
    refine Jo (Ja (hK12 (Je fun _ hK13 _=>(Jn (Je fun _ hK14 _=>(Jb (Jg (JP u57 sz22 rfl rfl rfl hkc hxo31.sm) rfl ?_)))))));obtain ⟨qe56,ce56,he56,le56,Fe56⟩:=hxo31 k hkc;refine Jg (JB rfl he56 pl22) rfl (Jg (Jd rfl) rfl (Jf (Ja (hK14 (Jb (Jg (Jc rfl) rfl (Jg (Jc rfl) rfl (Jg (Jc rfl) rfl (Jg (JG rfl) rfl (Jg (Ju u95 rfl sz57 rfl) rfl (Jg (Jy rfl (.s .z) rfl pl57) rfl (Jw fn116 rfl rfl fun w hH=>(reduceBy_c (W:=(monL cad n).length) Fe56 hbx (hclR.row _ (rw_mem hkc)) hbdR.led (by omega) (by omega) hH).mono ?_))))))))))));rintro _ w ⟨qo63,co63,rfl,hH⟩;refine ⟨_,rfl,fun a hF=>JL hF hH ?_⟩;refine EA .z fun Ho63 hleo63 hAo63=>?_;replace pc0:=pc0.le hleo63;replace pc1:=pc1.le hleo63;replace pcad:=pcad.le hleo63;replace pcaf:=pcaf.le hleo63;replace hcad:=hcad.le hleo63;replace hcaf:=hcaf.le hleo63;replace hC:=hC.le hleo63;replace hCr11:=hCr11.le hleo63;replace hL11:=hL11.le hleo63;replace hL12:=hL12.le hleo63;replace hmr:=hmr.le hleo63;replace hpw11:=hpw11.le hleo63;replace hpl11:=hpl11.le hleo63;replace hpw12:=hpw12.le hleo63;replace hxo31:=hxo31.le hleo63;replace hz3:=hz3.le hleo63;replace hCR:=hCR.le hleo63;replace hbx:=hbx.le hleo63;replace hCj:=hCj.le hleo63;replace hS:=hS.le hleo63;replace Fe56:=Fe56.le hleo63;have hxo63:=own_ints hAo63;have hco63:=own_le hAo63;refine EK (EM u57 ze22 sz22 rfl rfl) rfl fun qo64 co64=>(EF u57 ze22 sz22 by22 rfl rfl rfl rfl (by omega) .z At.z (fun _ _=>At.z) rfl fun qo65 co65=>?_);have hS2:=hS.snoc hxo63 rfl hco63;refine Jg (Jd rfl) rfl (Jf (JF (Ja (hK13 (Jb (Jg (JC rfl rfl (by first | exact nw _ (by omega) | rfl)) rfl (Jg (Jc rfl) rfl (Jf (Ja (JK .z ?_))))))))));exact hAg0 (Ho63,qo65,co65,_,k+1) ⟨(hlk.trans hleo63),by rw [lfK_succ hkc];exact hS2,by omega⟩ (by show (clS cad caf n).length - (k+1)<(clS cad caf n).length - k;omega) 18 rfl rfl ⟨rfl,⟨rfl,trivial⟩⟩ rfl rfl
   ·
    refine JH (Jl (Jl (JQ (Ja (hK9 (Je fun _ hK15 _=>(Jb (Jg (Jc rfl) rfl (Jg (EN (v':=.slice q (lfK cad caf n k).length c) (by rw [lfK_len hk]) (Jc rfl)) rfl (EA .z fun Ho47 hleo47 hAo47=>?_))))))))));replace pc0:=pc0.le hleo47;replace pc1:=pc1.le hleo47;replace pcad:=pcad.le hleo47;replace pcaf:=pcaf.le hleo47;replace hcad:=hcad.le hleo47;replace hcaf:=hcaf.le hleo47;replace hC:=hC.le hleo47;replace hCr11:=hCr11.le hleo47;replace hL11:=hL11.le hleo47;replace hL12:=hL12.le hleo47;replace hmr:=hmr.le hleo47;replace hpw11:=hpw11.le hleo47;replace hpl11:=hpl11.le hleo47;replace hpw12:=hpw12.le hleo47;replace hxo31:=hxo31.le hleo47;replace hz3:=hz3.le hleo47;replace hCR:=hCR.le hleo47;replace hbx:=hbx.le hleo47;replace hCj:=hCj.le hleo47;replace hS:=hS.le hleo47;have hxo47:=hS.rows (Le.refl _) hAo47;have hco47:=own_le hAo47;refine Jw fn93 rfl rfl fun w hH=>(reduce_c (W:=(monL cad n).length) hxo47 (lfK_ok hA h8 hd) (by rw [lfK_len hk];omega) (by omega) hH).mono ?_;rintro _ w ⟨qo69,co69,vso69,rfl,hH⟩;refine ⟨_,rfl,fun a hF=>JL hF hH ?_⟩;refine EA .z fun Ho69 hleo69 hAo69=>?_;replace pc0:=pc0.le hleo69;replace pc1:=pc1.le hleo69;replace pcad:=pcad.le hleo69;replace pcaf:=pcaf.le hleo69;replace hcad:=hcad.le hleo69;replace hcaf:=hcaf.le hleo69;replace hC:=hC.le hleo69;replace hCr11:=hCr11.le hleo69;replace hL11:=hL11.le hleo69;replace hL12:=hL12.le hleo69;replace hmr:=hmr.le hleo69;replace hpw11:=hpw11.le hleo69;replace hpl11:=hpl11.le hleo69;replace hpw12:=hpw12.le hleo69;replace hxo31:=hxo31.le hleo69;replace hz3:=hz3.le hleo69;replace hCR:=hCR.le hleo69;replace hbx:=hbx.le hleo69;replace hCj:=hCj.le hleo69;replace hS:=hS.le hleo69;replace hxo47:=hxo47.le hleo69;have hxo69:=own_rows hAo69;have hco69:=own_le hAo69.1;refine Jg (JG rfl) rfl (Jg (Ju u95 rfl sz57 rfl) rfl (Ez rfl rfl rfl rfl sz57 (by simp [*]) At.z (Jf (Ja (hK15 (Je fun _ hK16 _=>(Jb (Jg (Jc rfl) rfl (Jg (Jd rfl) rfl (Jf (Ja (hK16 (Js (Jq rfl (Res.tmp rfl) fun w hH=>?_))))))))))))));replace hH:=hH.sublist (.cons_cons _ (.cons_cons _ (.cons_cons _ (List.Sublist.refl _))))
    have hke:k=(clS cad caf n).length:=by omega
    have hce:=lfK_end hke;rw [hce] at hxo69 hH;have hL3:Lv3 Ho69 cad caf n ⟨b11,p11,⟨ql11,(monL cad (n)).length,cl11⟩,⟨qm11,(matS cad caf n).length,cm11⟩,⟨qo31,(clS cad caf n).length,co31⟩,⟨qj,(bdS cad caf n).length,cj⟩,⟨qo69,(csS cad caf n).length,co69⟩⟩:=⟨⟨rfl,hxo31⟩,⟨rfl,hbx⟩,⟨rfl,hxo69⟩⟩
    have hq0:qz11=none:=by cases qz11 <;> simp_all
    have hKf:Kp ls ((n,⟨b11,p11,⟨ql11,(monL cad (n)).length,cl11⟩,⟨qm11,(matS cad caf n).length,cm11⟩,⟨qo31,(clS cad caf n).length,co31⟩,⟨qj,(bdS cad caf n).length,cj⟩,⟨qo69,(csS cad caf n).length,co69⟩⟩)::rsj):=fun y hy hF=>by
     rcases List.mem_cons.1 (hp11.subset (hkp11 y hy hF)) with rfl | h1
     ·have h2:qz11.isSome=true:=hF.2;rw [hq0] at h2
      cases h2
     ·exact List.mem_cons_of_mem _ (hKj y h1 hF)
    exact ⟨_,(n,⟨b11,p11,⟨ql11,(monL cad (n)).length,cl11⟩,⟨qm11,(matS cad caf n).length,cm11⟩,⟨qo31,(clS cad caf n).length,co31⟩,⟨qj,(bdS cad caf n).length,cj⟩,⟨qo69,(csS cad caf n).length,co69⟩⟩)::rsj,_,(((((hle11.trans hleo31).trans hlj).trans hlk).trans hleo47).trans hleo69),hCj.cons hnej ⟨⟨rfl,hpw11,hpl11,fun h=>by show (bdS cad caf n).length=0;rw [bdS,if_neg (by omega)];rfl⟩,fun _ _ _=>⟨rfl,hmr⟩,fun _ _ _=>hL3⟩,hNj.swap hnej (fun _ _ h=>h) fun _ _=>List.mem_cons_of_mem _ hkj,List.mem_cons_self,⟨hL3,⟨rfl,hmr⟩,hKf⟩,rfl,Hp.lvIn (x:=(n,⟨b11,p11,⟨ql11,(monL cad (n)).length,cl11⟩,⟨qm11,(matS cad caf n).length,cm11⟩,⟨qo31,(clS cad caf n).length,co31⟩,⟨qj,(bdS cad caf n).length,cj⟩,⟨qo69,(csS cad caf n).length,co69⟩⟩)) (rest:=rsj) ((hH.front (.s .z)).front (.s .z))⟩
theorem u88:Tryz.prog.underlying 88=some (TypeDesc.slice 150):=by kernel_rfl
theorem by150:Bytes Tryz.prog 150 8:=by unfold Bytes;kernel_rfl
theorem fn121:Fn Tryz.prog 121:=⟨_,Tryz.func121,by kernel_rfl,rfl⟩
theorem EnI.stop {ds:List Int} {i:Nat} {m mm:Pw} {n e:Int} {A acc:List Pw} (h:EnI ds i m n e A mm) (hl:401≤(capL 401 acc A).length):capL 401 acc A=capL 401 acc (enS ds i m n):=by
 rw [← h.eq,← capL_app,capL_full hl]
theorem EnI.stop2 {ds:List Int} {i:Nat} {m mm:Pw} {n e:Int} {A acc:List Pw} (h:EnI ds i m n e A mm) (he : ¬0≤e):capL 401 acc A=capL 401 acc (enS ds i m n):=by rw [← h.end (by omega)]
theorem topS_odd {d n:Int} (h0:1≤d) (h:d.tmod 2≠0):min (min (n.tdiv d) 1) 20=topM d n:=by
 have:=tmod_two (d:=d) (by omega);rw [topM,if_pos (by omega)]
 omega
theorem topS_even {d n:Int} (h : ¬d.tmod 2≠0):min (n.tdiv d) 20=topM d n:=by
 rw [topM,if_neg (by omega)]
theorem Mono.set {m:List Int} (h:Mono m) {i:Nat} {e:Int} (he:0≤e∧e≤255):Mono (m.set i e):=⟨by rw [List.length_set];exact h.len,fun j=>by
 rw [getD_set8]
 split
 ·exact he
 ·exact h.bd j⟩
structure EnB (ds:List Int) (i:Nat) (m:Pw) (n e:Int) (A:List Pw) (mm:Pw):Prop where
 en:EnI ds i m n e A mm
 mo:Mono mm
theorem l01FillX_c {B:World} {H0 H:HP} {L:List SA} {w:World} {qds:Option Addr} {cds:Nat} {ds:List Int} {m:List Int} {i:Nat} {n:Int} {qo:Option Addr} {co:Nat} {acc:List Pw} (hds:Ints H qds ds) (hm:Mono m) (hd : ∀j,j<ds.length→1≤ds.getD j 0∧ds.getD j 0≤12) (hi:i≤ds.length) (h8:ds.length≤8) (hn : -1000000≤n∧n≤1000000) (ha:acc.length≤400) (hrec:i<ds.length→∀(m':Pw) (n':Int) (acc':List Pw) (qo':Option Addr) (co':Nat),Mono m' → -1000000≤n' ∧n' ≤1000000→acc'.length≤400→∀(L:List SA) (w:World),Hp B H0 H (own 150 8 qo' acc'.length co' (msC acc')::L) w→Calls Tryz.prog 121 [.slice qds ds.length cds,.agg (bytesC m').toArray,.int .i64 ((i+1:Nat):Int),.int .i64 n',.slice qo' acc'.length co'].toArray w fun r w'=>∃q c,r = .returned (.slice q (capL 401 acc' (enS ds (i+1) m' n')).length c)∧Hp B H0 H (own 150 8 q (capL 401 acc' (enS ds (i+1) m' n')).length c (msC (capL 401 acc' (enS ds (i+1) m' n')))::L) w') (hH:Hp B H0 H (own 150 8 qo acc.length co (msC acc)::L) w):Calls Tryz.prog 121 [.slice qds ds.length cds,.agg (bytesC m).toArray,.int .i64 (i:Int),.int .i64 n,.slice qo acc.length co].toArray w fun e w'=>∃q c,e = .returned (.slice q (capL 401 acc (enS ds i m n)).length c)∧Hp B H0 H (own 150 8 q (capL 401 acc (enS ds i m n)).length c (msC (capL 401 acc (enS ds i m n)))::L) w':=by
 refine Jz Tryz.func121 rfl 68 rfl rfl [(0,.slice qds ds.length cds),(1,.agg (bytesC m).toArray),(2,.int .i64 (i:Int)),(3,.int .i64 n),(4,.slice qo acc.length co)] rfl hH ?_;have hml:=hm.len;clear hH;refine Je fun _ hK1 _=>(Jb (Ee rfl rfl rfl fun g6=>(Jg (Jd rfl) rfl (Jf (Ja (hK1 (Je fun _ hK2 _=>(Je fun _ hK3 _=>(Jb (Jg (Jc rfl) rfl (Jg (Jc rfl) rfl (Jg (Jm u22 rfl rfl) rfl (Jg (EG rfl rfl) rfl (Jf (Ja (hK3 ?_))))))))))))))));refine Jp rfl (fun h16=>?_) (fun h16=>?_)
 ·
  refine Je fun _ hK4 _=>(Je fun _ hK5 _=>(Jb (Jg (Jc rfl) rfl (Jg (EG rfl rfl) rfl (Jf (Ja (hK5 (Jp rfl (fun h18=>?_) (fun h18=>?_)))))))))
  ·
   refine Je fun _ hK6 _=>(Jb (Jg (Jc rfl) rfl (Jg (Jx rfl At.z (by simpa [*] using ag150)) rfl (EK (MK.lit8 cf8B u88 ze150 rfl sz150 hm.len rfl) rfl fun qo21 co21=>(J.append8 cf8B u88 ze150 rfl sz150 by150 rfl rfl rfl (by omega) .z (.s .z) (fun _ _=>(.s .z)) rfl fun qo22 co22=>(Jg (Jd rfl) rfl (Jf (Ja (hK6 (Js (Jk (Jk (Jq rfl (Res.tmp rfl) fun w hH=>?_)))))))))))));replace hH:=hH.sublist (.cons _ (.cons _ (.cons_cons _ (List.Sublist.refl _))));rw [show enS ds i m n=[m] from by rw [enS,enum_end (by omega),if_pos h18],capL_one (by omega),List.length_append];exact ⟨qo22,co22,rfl,hH⟩
  ·
   refine Jo (Ja (hK4 (Je fun _ hK7 _=>(Jb (Jg (Jc rfl) rfl (Jg (Jd rfl) rfl (Jf (Ja (hK7 (Js (Jk (Jq rfl (Res.tmp rfl) fun w hH=>?_))))))))))));replace hH:=hH.sublist (.cons _ (.cons_cons _ (List.Sublist.refl _)));rw [show enS ds i m n=[] from by rw [enS,enum_end (by omega),if_neg h18],capL_nil];exact ⟨qo,co,rfl,hH⟩
 ·
  have hil:i<ds.length:=by omega
  have hdi:=hd i hil;have htb:=tdiv_b hdi.1 hn;have htt:=tmod_bd n;have hts:=topM_20 (ds.getD i 0) n;have htl:=topM_lo hdi.1 hn;refine Jo (Ja (hK2 (Je fun _ hK8 _=>(Jb (Jg (Jc rfl) rfl (Jg (Jc rfl) rfl (Jg (Jc rfl) rfl (Jg (JP u22 sz2 rfl rfl rfl hil hds.sm) rfl (Jg (JB rfl (hds _ hil) pl2) rfl (Jg (PR.quo rfl rfl (by omega) (nw _ (by omega))) rfl (Jg (Jd rfl) rfl (Jf (Ja (hK8 (EW (σ:=Int) (fun (t:Int)=>[(11,.int .i64 t)]) (fun (t:Int)=>H) (fun (t:Int)=>obj g6 (.cells (bytesC m).toArray 150 (0,0))::own 150 8 qo acc.length co (msC acc)::L) (fun (t:Int)=>min t 20=topM (ds.getD i 0) n) ?_ ?_)))))))))))))))
  ·
   intro _ hMt1;refine Je fun _ hK9 _=>(Jb (Jg (Jc rfl) rfl (Jg (Jc rfl) rfl (Jg (JP u22 sz2 rfl rfl rfl hil hds.sm) rfl (Jg (JB rfl (hds _ hil) pl2) rfl (Jg (ED rfl rfl (by decide) rfl) rfl (Jg (El rfl rfl) rfl (Jf (Ja (hK9 (Jp rfl (fun h35=>?_) (fun h35=>?_))))))))))))
   ·
    refine Jb (Jg (Jc rfl) rfl (Jg (PR.min2 rfl rfl) rfl (Jg (Jd rfl) rfl (Jf (Ja ?_)))));exact hMt1 (min (n.tdiv (ds.getD i 0)) 1) (topS_odd hdi.1 h35) 9 rfl rfl ⟨(vi (min_if _ _)),trivial⟩ rfl rfl
   ·
    refine Jo (Ja ?_);exact hMt1 (n.tdiv (ds.getD i 0)) (topS_even h35) 6 rfl rfl ⟨rfl,trivial⟩ rfl rfl
  ·
   rintro t ht;refine Je fun _ hK10 _=>(Je fun _ hK11 _=>(Jb (Jg (Jc rfl) rfl (Jg (EN (v':=.int .i64 (topM (ds.getD i 0) n)) (by rw [min_if,ht]) (PR.min2 rfl rfl)) rfl (Jg (Jd rfl) rfl (Jf (Ja (hK11 (Jn (JE (σ:=Int × List Pw × Pw × Option Addr × Nat) (fun ⟨e,A,mm,qo1,co1⟩=>[(12,.int .i64 e),(4,.slice qo1 (capL 401 acc A).length co1)]) (fun ⟨e,A,mm,qo1,co1⟩=>H) (fun ⟨e,A,mm,qo1,co1⟩=>obj g6 (.cells (bytesC mm).toArray 150 (0,0))::own 150 8 qo1 (capL 401 acc A).length co1 (msC (capL 401 acc A))::L) (fun ⟨e,A,mm,qo1,co1⟩=>EnB ds i m n e A mm) (fun ⟨e,A,mm,qo1,co1⟩=>(e+1).toNat) (topM (ds.getD i 0) n, [],m,qo,co) ⟨EnI.start hm.len hil hdi.1 hn,hm⟩ ⟨rfl,⟨(by rw [capL_nil];rfl),trivial⟩⟩ rfl (by dsimp only;rw [capL_nil]) ?_))))))))));rintro ⟨e,A,mm,qo1,co1⟩ hI _ hAg0;have hen:=hI.en;have hlo:=hen.lo;have hhi:=hen.hi;have hmml:=hI.mo.len;refine Je fun _ hK12 _=>(Je fun _ hK13 _=>(Jb (Jg (Jc rfl) rfl (Jg (PR.geq rfl rfl) rfl (Jg (Jc rfl) rfl (Ei (jd:=42) rfl (fun h41=>?_) (fun h41=>?_)))))))
   ·
    try have h41p:=of_decide_eq_true h41
    refine JX (Jc rfl) rfl rfl rfl h41 (JX (Jm u88 rfl rfl) rfl rfl rfl h41 (JX (PR.leq rfl rfl) rfl rfl rfl h41 (Jg (JZ rfl h41 rfl) rfl (Jf (Ja (hK13 (Jp rfl (fun h45p=>?_) (fun h45p=>?_))))))))
    ·
     have hlb:=left_b hdi h41p hhi hn;have hmo:=hI.mo.set (i:=i) (e:=e) (by omega);refine Jo (Ja (hK12 (Je fun _ hK14 _=>(Jn (Je fun _ hK15 _=>(Jb (Jg (Jc rfl) rfl (Jg (Jc rfl) rfl (Jg (PR.conv u2 u5 rfl (u8_id (by omega))) rfl (Jg (JY u150 sz5 rfl rfl rfl (by omega)) rfl (J.storeB rfl rfl sz5 (by simp [*];omega) At.z (Jf (Ja (hK15 (Ej (Rs:=[_,_]) 15 [[], [], [], [2], [], [], [], [], [6,7], [6,7,8], [5,6,7,8,9], [4,5,6,7,8,9,10], [], [0,1,2,3,4,5,6,7,8,9,10,11,12], [0,1,2,3,4,5,6,7,8,9,10,11,12,13]] [[], [15], [], [], [], [], [], [], [], [], [], [], [], [], []] [[], [], [], [], [], [], [], [], [], [], [], [], [], [16], []] rfl rfl (by kernel_rfl) ?_)))))))))))))));apply Jj 1 rfl
     iterate 3 focus (intros;(conv=>lhs;simp only [Jh,Jt,JN,Jv,JI,eq_self,reduceEqDiff,reduceIte,reduceSub,reduceAdd,JxA,JxB]);all_goals rfl)
     ·
      intro gh X K zq zc zq2 zc2 zb zv hK;refine Jg (Jc rfl) rfl (Ji ?_);exact hK zq zc zq2 zc2 zb zv
     ·
      intro gh gh' h
      rfl
     apply Jj 2 rfl
     iterate 3 focus (intros;(conv=>lhs;simp only [Jh,Jt,JN,Jv,JI,eq_self,reduceEqDiff,reduceIte,reduceSub,reduceAdd,JxA,JxB]);all_goals rfl)
     ·
      intro gh X K zq zc zq2 zc2 zb zv hK;refine Jg (Jx rfl At.z (by simpa [*] using ag150)) rfl (Ji ?_);exact hK zq zc zq2 zc2 zb zv
     ·
      intro gh gh' h
      rfl
     apply Jj 3 rfl
     iterate 3 focus (intros;(conv=>lhs;simp only [Jh,Jt,JN,Jv,JI,eq_self,reduceEqDiff,reduceIte,reduceSub,reduceAdd,JxA,JxB]);all_goals rfl)
     ·
      intro gh X K zq zc zq2 zc2 zb zv hK;refine Jg (Jc rfl) rfl (Ji ?_);exact hK zq zc zq2 zc2 zb zv
     ·
      intro gh gh' h
      rfl
     apply Jj 4 rfl
     iterate 3 focus (intros;(conv=>lhs;simp only [Jh,Jt,JN,Jv,JI,eq_self,reduceEqDiff,reduceIte,reduceSub,reduceAdd,JxA,JxB]);all_goals rfl)
     ·
      intro gh X K zq zc zq2 zc2 zb zv hK;refine Jg (JC rfl rfl (by first | exact nw _ (by omega) | rfl)) rfl (Ji ?_);exact hK zq zc zq2 zc2 zb zv
     ·
      intro gh gh' h
      rfl
     apply Jj 5 rfl
     iterate 3 focus (intros;(conv=>lhs;simp only [Jh,Jt,JN,Jv,JI,eq_self,reduceEqDiff,reduceIte,reduceSub,reduceAdd,JxA,JxB]);all_goals rfl)
     ·
      intro gh X K zq zc zq2 zc2 zb zv hK;refine Jg (Jc rfl) rfl (Ji ?_);exact hK zq zc zq2 zc2 zb zv
     ·
      intro gh gh' h
      rfl
     apply Jj 6 rfl
     iterate 3 focus (intros;(conv=>lhs;simp only [Jh,Jt,JN,Jv,JI,eq_self,reduceEqDiff,reduceIte,reduceSub,reduceAdd,JxA,JxB]);all_goals rfl)
     ·
      intro gh X K zq zc zq2 zc2 zb zv hK;refine Jg (Jc rfl) rfl (Ji ?_);exact hK zq zc zq2 zc2 zb zv
     ·
      intro gh gh' h
      rfl
     apply Jj 7 rfl
     iterate 3 focus (intros;(conv=>lhs;simp only [Jh,Jt,JN,Jv,JI,eq_self,reduceEqDiff,reduceIte,reduceSub,reduceAdd,JxA,JxB]);all_goals rfl)
     ·
      intro gh X K zq zc zq2 zc2 zb zv hK;refine Jg (Jc rfl) rfl (Ji ?_);exact hK zq zc zq2 zc2 zb zv
     ·
      intro gh gh' h
      rfl
     apply Jj 8 rfl
     iterate 3 focus (intros;(conv=>lhs;simp only [Jh,Jt,JN,Jv,JI,eq_self,reduceEqDiff,reduceIte,reduceSub,reduceAdd,JxA,JxB]);all_goals rfl)
     ·
      intro gh X K zq zc zq2 zc2 zb zv hK;refine Jg (Jc rfl) rfl (Ji ?_);exact hK zq zc zq2 zc2 zb zv
     ·
      intro gh gh' h
      rfl
     apply Jj 9 rfl
     iterate 3 focus (intros;(conv=>lhs;simp only [Jh,Jt,JN,Jv,JI,eq_self,reduceEqDiff,reduceIte,reduceSub,reduceAdd,JxA,JxB]);all_goals rfl)
     ·
      intro gh X K zq zc zq2 zc2 zb zv hK;refine Jg (JP u22 sz2 rfl rfl rfl hil hds.sm) rfl (Ji ?_);exact hK zq zc zq2 zc2 zb zv
     ·
      intro gh gh' h
      rfl
     apply Jj 10 rfl
     iterate 3 focus (intros;(conv=>lhs;simp only [Jh,Jt,JN,Jv,JI,eq_self,reduceEqDiff,reduceIte,reduceSub,reduceAdd,JxA,JxB]);all_goals rfl)
     ·
      intro gh X K zq zc zq2 zc2 zb zv hK;refine Jg (JB rfl (hds _ hil) pl2) rfl (Ji ?_);exact hK zq zc zq2 zc2 zb zv
     ·
      intro gh gh' h
      rfl
     apply Jj 11 rfl
     iterate 3 focus (intros;(conv=>lhs;simp only [Jh,Jt,JN,Jv,JI,eq_self,reduceEqDiff,reduceIte,reduceSub,reduceAdd,JxA,JxB]);all_goals rfl)
     ·
      intro gh X K zq zc zq2 zc2 zb zv hK;refine Jg (EH rfl rfl (nw _ (by omega))) rfl (Ji ?_);exact hK zq zc zq2 zc2 zb zv
     ·
      intro gh gh' h
      rfl
     apply Jj 12 rfl
     iterate 3 focus (intros;(conv=>lhs;simp only [Jh,Jt,JN,Jv,JI,eq_self,reduceEqDiff,reduceIte,reduceSub,reduceAdd,JxA,JxB]);all_goals rfl)
     ·
      intro gh X K zq zc zq2 zc2 zb zv hK;refine Jg (EL rfl rfl (nw _ (by omega))) rfl (Ji ?_);exact hK zq zc zq2 zc2 zb zv
     ·
      intro gh gh' h
      rfl
     apply Jj 13 rfl
     iterate 3 focus (intros;(conv=>lhs;simp only [Jh,Jt,JN,Jv,JI,eq_self,reduceEqDiff,reduceIte,reduceSub,reduceAdd,JxA,JxB]);all_goals rfl)
     ·
      intro gh X K zq zc zq2 zc2 zb zv hK;refine Jg (Jc rfl) rfl (Ji ?_);exact hK zq zc zq2 zc2 zb zv
     ·
      intro gh gh' h
      rfl
     apply Ea 14 rfl
     iterate 3 focus (intros;(conv=>lhs;simp only [Jh,Jt,JN,Jv,JI,eq_self,reduceEqDiff,reduceIte,reduceSub,reduceAdd,JxA,JxB]);all_goals rfl)
     ·
      intro gh X K zq zc zq2 zc2 zb zv hK;refine Jw fn121 rfl rfl fun w hH=>(hrec hil (mm.set i e) (n - e * ds.getD i 0) (capL 401 acc A) qo1 co1 hmo hlb.2 (by omega) _ _ (hH.front .z)).mono ?_;rintro _ w ⟨qo66,co66,rfl,hH⟩;refine ⟨_,rfl,fun a hF=>JL hF hH ?_⟩;refine Ji ?_;exact hK qo66 co66 zq2 zc2 zb zv
     ·
      intro gh gh' h;refine ⟨?_,?_⟩ <;> rfl
     apply Jj 15 rfl
     iterate 3 focus (intros;(conv=>lhs;simp only [Jh,Jt,JN,Jv,JI,eq_self,reduceEqDiff,reduceIte,reduceSub,reduceAdd,JxA,JxB]);all_goals rfl)
     ·
      intro gh X K zq zc zq2 zc2 zb zv hK;refine Jg (Jd rfl) rfl (Ji ?_);exact hK zq zc zq2 zc2 zb zv
     ·
      intro gh gh' h
      first | simp only [h 13 rfl] | rfl
     apply Ek [0,1,2,3,4,5,6,7,8,9,10,11,12,13,14] [0,1,2,3,4,5,6,7,8,9,10,11,12,13,14,15] foll0 rfl rfl rfl (by rfl)
     iterate 2 focus (intros;(conv=>lhs;simp only [Jh,Jt,JN,Jv,JI,eq_self,reduceEqDiff,reduceIte,reduceSub,reduceAdd,JxA,JxB]);all_goals rfl)
     intro gh;generalize (gh 13).c=co66;generalize (gh 13).q=qo66;clear gh;refine JF (Ja (hK14 (Jb (Jg (Jc rfl) rfl (Jg (EL rfl rfl (by first | exact nw _ (by omega) | rfl)) rfl (Jg (Jd rfl) rfl (Jf (Ja (Jr .z (Jr (.s .z) ?_))))))))));exact hAg0 (e - 1,A++enG ds i m n e,mm.set i e,qo66,co66) ⟨hen.next h41p,hmo⟩ (by show (e - 1+1).toNat<(e+1).toNat;omega) 31 rfl rfl ⟨rfl,⟨(by rw [← capL_app,← enG_set hen.set];rfl),trivial⟩⟩ rfl (by dsimp only;rw [← capL_app,← enG_set hen.set])
    ·
     refine JH (Jl (Jl (JQ (Ja (hK10 (Je fun _ hK16 _=>(Jb (Jg (Jc rfl) rfl (Jg (Jd rfl) rfl (Jf (Ja (hK16 (Js (Jq rfl (Res.tmp rfl) fun w hH=>?_))))))))))))));replace hH:=hH.sublist (.cons _ (.cons_cons _ (List.Sublist.refl _)));rw [← hen.stop (by omega)];exact ⟨_,_,rfl,hH⟩
   ·
    try have h41p:=of_decide_eq_false h41
    refine JU rfl rfl rfl h41 (JU rfl rfl rfl h41 (JU rfl rfl rfl h41 (Jg (JW rfl h41 rfl) rfl (Jf (Ja (hK13 (Et rfl (JH (Jl (Jl (JQ (Ja (hK10 (Je fun _ hK17 _=>(Jb (Jg (Jc rfl) rfl ?_))))))))))))))));refine Jg (Jd rfl) rfl (Jf (Ja (hK17 (Js (Jq rfl (Res.tmp rfl) fun w hH=>?_)))));replace hH:=hH.sublist (.cons _ (.cons_cons _ (List.Sublist.refl _)));rw [← hen.stop2 h41p];exact ⟨_,_,rfl,hH⟩
theorem l01Fill_n {B:World} {H0 H:HP} {qds:Option Addr} {cds:Nat} {ds:List Int} (hds:Ints H qds ds) (hd : ∀j,j<ds.length→1≤ds.getD j 0∧ds.getD j 0≤12) (h8:ds.length≤8) : ∀(k i:Nat) (m:Pw) (n:Int) (acc:List Pw) (qo:Option Addr) (co:Nat),ds.length - i≤k→i≤ds.length→Mono m→ -1000000≤n∧n≤1000000→acc.length≤400→∀(L:List SA) (w:World),Hp B H0 H (own 150 8 qo acc.length co (msC acc)::L) w→Calls Tryz.prog 121 [.slice qds ds.length cds,.agg (bytesC m).toArray,.int .i64 (i:Int),.int .i64 n,.slice qo acc.length co].toArray w fun r w'=>∃q c,r = .returned (.slice q (capL 401 acc (enS ds i m n)).length c)∧Hp B H0 H (own 150 8 q (capL 401 acc (enS ds i m n)).length c (msC (capL 401 acc (enS ds i m n)))::L) w'
 | 0,i,m,n,acc,qo,co,hk,hi,hm,hn,ha,L,w,hH=>l01FillX_c hds hm hd hi h8 hn ha (fun h=>by omega) hH
 | k+1,i,m,n,acc,qo,co,hk,hi,hm,hn,ha,L,w,hH=>l01FillX_c hds hm hd hi h8 hn ha (fun h m' n' acc' qo' co' h1 h2 h3 L w hH=>l01Fill_n hds hd h8 k (i+1) m' n' acc' qo' co' (by omega) (by omega) h1 h2 h3 L w hH) hH
def monT (ds:List Int) (n:Int):List Pw:=(monS ds n).take 401
theorem mon_capS (ds:List Int) (n:Int) (m:Pw) (hm:m=zP):capL 401 [] (enS ds 0 m n)=monT ds n:=by
 subst hm;rw [capL_zero]
 rfl
theorem monT_fit {ds:List Int} {n:Int}:(decide (((monT ds n).length:Int)>120)) = !fitB ds n:=by
 unfold monT fitB;rw [List.length_take,← decide_not];simp only [decide_eq_decide]
 omega
theorem monT_eq {ds:List Int} {n:Int} (h:fitB ds n=true):monT ds n=monS ds n:=List.take_of_length_le (by have:=of_decide_eq_true h;omega)
theorem Mono.zP:Mono zP:=⟨rfl,fun j=>by rw [show G.zP=List.replicate 8 0 from rfl,rep_get];omega⟩
theorem l01Monomials_c {B:World} {H0 H:HP} {L:List SA} {w:World} {qds:Option Addr} {cds:Nat} {ds:List Int} {n:Int} (hds:Ints H qds ds) (hd : ∀j,j<ds.length→1≤ds.getD j 0∧ds.getD j 0≤12) (h8:ds.length≤8) (hn : -1000000≤n∧n≤1000000) (hH:Hp B H0 H L w):Calls Tryz.prog 66 [.slice qds ds.length cds,.int .i64 n].toArray w fun e w'=>∃q c,e = .returned (.slice q (monT ds n).length c)∧Hp B H0 H (own 150 8 q (monT ds n).length c (msC (monT ds n))::L) w':=by
 refine Jz Tryz.func66 rfl 9 rfl rfl [(0,.slice qds ds.length cds),(1,.int .i64 n)] rfl hH ?_;clear hH;refine Je fun _ hK1 _=>(Jb (Jg (Jd rfl) rfl (Jf (Ja (hK1 (Je fun _ hK2 _=>(Jb (Jg (Jc rfl) rfl (Jg (Ew bz150) rfl (Jg (Jc rfl) rfl (J.own0 150 8 (Jw fn121 rfl rfl fun w hH=>(l01Fill_n hds hd h8 ds.length 0 zP n [] none 0 (by omega) (by omega) Mono.zP hn (by simp) _ _ hH).mono ?_))))))))))));rintro _ w ⟨qo2,co2,rfl,hH⟩;refine ⟨_,rfl,fun a hF=>JL hF hH ?_⟩;refine Jg (Jd rfl) rfl (Jf (Ja (hK2 (Js (Jq rfl (Res.tmp rfl) fun w hH=>?_)))));replace hH:=hH.sublist (.cons_cons _ (List.Sublist.refl _));rw [mon_capS _ _ _ rfl] at hH ⊢;exact ⟨qo2,co2,rfl,hH⟩
theorem fn66:Fn Tryz.prog 66:=⟨_,Tryz.func66,by kernel_rfl,rfl⟩
def wiB (ds:List Int) (a b:Int):Bool:=(List.range (b+1 - max a 0).toNat).all fun k:Nat=>fitB ds (max a 0+(k:Int))
theorem wiB_no {ds:List Int} {a b:Int} {k:Nat} (h:max a 0+(k:Int)≤b) (hf:fitB ds (max a 0+(k:Int))=false):wiB ds a b=false:=by
 cases hh:wiB ds a b with
 | false=>rfl
 | true=>
  have:=List.all_eq_true.1 hh k (List.mem_range.2 (by omega));rw [hf] at this
  cases this
theorem wiB_yes {ds:List Int} {a b:Int} (h : ∀k:Nat,max a 0+(k:Int)≤b→fitB ds (max a 0+(k:Int))=true):wiB ds a b=true:=
 List.all_eq_true.2 fun k hk=>h k (by have:=List.mem_range.1 hk;omega)
theorem vmax (lo:Int):Value.int .i64 (if 0>lo then 0 else lo) = .int .i64 (max lo 0+((0:Nat):Int)):=by
 congr 1
 omega
def lsZ (row other:List Int) (f:Int) (k:Nat):List Int:=(List.range row.length).map fun i=>if i<k then fld (row.getD i 0 - f * other.getD i 0) else 0
@[simp] theorem lsZ_len (row other:List Int) (f:Int) (k:Nat):(lsZ row other f k).length=row.length:=by simp [lsZ]
theorem lsZ_get {row other:List Int} {f:Int} {k i:Nat} (h:i<row.length):(lsZ row other f k).getD i 0=if i<k then fld (row.getD i 0 - f * other.getD i 0) else 0:=by simp [lsZ,List.getD_eq_getElem?_getD,h]
theorem lsZ_zero (row other:List Int) (f:Int):lsZ row other f 0=List.replicate row.length 0:=list_eq_of (by simp) fun j hj=>by rw [lsZ_get (by simpa using hj),if_neg (by omega),rep_get]
theorem lsZ_set {row other:List Int} {f:Int} {k:Nat} (hk:k<row.length):(lsZ row other f k).set k (fld (row.getD k 0 - f * other.getD k 0))=lsZ row other f (k+1):=list_eq_of (by simp) fun j hj=>by
 have hj':j<row.length:=by simpa using hj
 rw [getD_set8,lsZ_get hj',lsZ_get hj',lsZ_len]
 by_cases e:k=j
 ·subst e
  rw [if_pos ⟨rfl,hk⟩,if_pos (by omega)]
 ·rw [if_neg (fun h=>e h.1)]
  by_cases h:j<k
  ·rw [if_pos h,if_pos (by omega)]
  ·rw [if_neg h,if_neg (by omega)]
theorem lsZ_end {row other:List Int} {f:Int} {k:Nat} (hk:k=row.length):lsZ row other f k=lessS row other f:=by
 subst hk
 exact list_eq_of (by simp) fun j hj=>by
  have hj':j<row.length:=by simpa using hj
  rw [lsZ_get hj',if_pos hj',lessS_get hj']
theorem oneBy_z {W:Nat} {row r:List Int} (h:RowOk W row) (hr:RowOk W r) (h0:row.getD (ldR r) 0=0):oneBy row r=row:=list_eq_of (by simp [oneBy]) fun j hj=>by
 rw [oneBy_get h hr,h0,Int.zero_mul,Int.sub_zero,fld_id (h.val j)]
theorem l03Within_c {B:World} {H0 H:HP} {L:List SA} {w:World} {qad qaf:Option Addr} {cad caf:Nat} {ad:List Int} {af:List (List Term)} {lo:Int} {hi:Int} (had:Ints H qad ad) (haf:Forms H qaf af) (hd : ∀j,j<ad.length→1≤ad.getD j 0∧ad.getD j 0≤12) (h8:ad.length≤8) (hl : -100000≤lo∧lo≤100000) (hh : -100000≤hi∧hi≤100000) (hH:Hp B H0 H L w):Calls Tryz.prog 74 [.agg [.slice qad ad.length cad,.slice qaf af.length caf].toArray,.int .i64 lo,.int .i64 hi].toArray w fun e w'=>e = .returned (.bool (wiB ad lo hi))∧Hp B H0 H L w':=by
 refine Jz Tryz.func74 rfl 21 rfl rfl [(0,.agg [.slice qad ad.length cad,.slice qaf af.length caf].toArray),(1,.int .i64 lo),(2,.int .i64 hi)] rfl hH ?_;clear hH;refine Je fun _ hK1 _=>(Jb (Ee rfl rfl rfl fun g3=>(Jg (Jd rfl) rfl (Jf (Ja (hK1 (Je fun _ hK2 _=>(Je fun _ hK3 _=>(Jb (Jg (Jc rfl) rfl (Jg (EN (v':=.int .i64 (max lo 0+((0:Nat):Int))) (vmax _) (PR.max2 rfl rfl)) rfl (Jg (Jd rfl) rfl (Jf (Ja (hK3 (Jn ?_))))))))))))))));refine JE (σ:=Nat) (fun (k:Nat)=>[(7,.int .i64 (max lo 0+(k:Int)))]) (fun (k:Nat)=>H) (fun (k:Nat)=>obj g3 (.cells [.slice qad ad.length cad,.slice qaf af.length caf].toArray 35 (0,0))::L) (fun (k:Nat)=>(max lo 0+(k:Int)≤hi+1∨k=0)∧∀j,j<k→fitB ad (max lo 0+(j:Int))=true) (fun (k:Nat)=>(hi+1 - (max lo 0+(k:Int))).toNat) 0 ⟨.inr rfl,fun j hj=>by omega⟩ ⟨rfl,trivial⟩ rfl rfl ?_;rintro k ⟨hk,hI⟩ _ hAg0;refine Je fun _ hK4 _=>(Je fun _ hK5 _=>(Jb (Jg (Jc rfl) rfl (Jg (Jc rfl) rfl (Jg (PR.leq rfl rfl) rfl (Jf (Ja (hK5 (Jp rfl (fun h12=>?_) (fun h12=>?_))))))))))
 ·
  refine Jo (Ja (hK4 (Je fun _ hK6 _=>(Jn (Je fun _ hK7 _=>(Jb (Jg (Ju u35 rfl sz22 rfl) rfl (Jg (Jy rfl At.z rfl pl22) rfl (Jg (Jc rfl) rfl (Jw fn66 rfl rfl fun w hH=>(l01Monomials_c had hd h8 (by omega) hH).mono ?_))))))))));rintro _ w ⟨qo18,co18,rfl,hH⟩;refine ⟨_,rfl,fun a hF=>JL hF hH ?_⟩;refine Jg (Jm u88 rfl rfl) rfl (Jg (EC rfl rfl) rfl (Jf (Ja (hK7 (Eg rfl (fun h20=>?_) (fun h20=>?_))))))
  ·
   refine Je fun _ hK8 _=>(Jb (Jg (Jd rfl) rfl (Jf (Ja (hK8 (Js (JT (Jk (Jk (JT (Jk (Jq rfl (Res.tmp rfl) fun w hH=>?_))))))))))));replace hH:=hH.tail;replace hH:=hH.tail;exact ⟨by rw [wiB_no (k:=k) (by omega) (by rw [monT_fit] at h20;simpa using h20)],hH⟩
  ·
   refine Jo (JF (Ja (hK6 (Jb (Jg (Jc rfl) rfl (Jg (JC rfl rfl (by first | exact nw _ (by omega) | rfl)) rfl (Jg (Jd rfl) rfl (Jf (Ja (JK .z ?_))))))))));exact hAg0 (k+1) ⟨.inl (by omega),upto hI (by rw [monT_fit] at h20;simpa using h20)⟩ (by show (hi+1 - (max lo 0+((k+1:Nat):Int))).toNat<(hi+1 - (max lo 0+(k:Int))).toNat;omega) 13 rfl rfl ⟨(vi (by omega)),trivial⟩ rfl rfl
 ·
  refine JH (Jl (Jl (JQ (Ja (hK2 (Je fun _ hK9 _=>(Jb (Jg (Jd rfl) rfl (Jf (Ja (hK9 (Js (Jq rfl (Res.tmp rfl) fun w hH=>?_)))))))))))));replace hH:=hH.tail;exact ⟨by rw [wiB_yes (fun j hj=>hI j (by omega))],hH⟩
theorem l03First_c {B:World} {H0 H:HP} {L:List SA} {w:World} {qxs:Option Addr} {cxs:Nat} {xs:List Int} (hxs:Ints H qxs xs) (hn:xs.length≤1000000) (hH:Hp B H0 H L w):Calls Tryz.prog 108 [.slice qxs xs.length cxs].toArray w fun e w'=>e = .returned (.int .i64 (idxOf xs nzI))∧Hp B H0 H L w':=by
 refine Jz Tryz.func108 rfl 16 rfl rfl [(0,.slice qxs xs.length cxs)] rfl hH ?_;clear hH;refine Je fun _ hK1 _=>(Jb (Jg (Jd rfl) rfl (Jf (Ja (hK1 (Je fun _ hK2 _=>(Je fun _ hK3 _=>(Jb (Jg (Jd rfl) rfl (Jf (Ja (hK3 (Jn (JE (σ:=Nat) (fun (k:Nat)=>[(3,.int .i64 (k:Int))]) (fun (k:Nat)=>H) (fun (k:Nat)=>L) (fun (k:Nat)=>k≤xs.length∧∀j,j<k→nzI (xs.getD j 0)=false) (fun (k:Nat)=>xs.length - k) 0 ⟨by omega,fun j hj=>by omega⟩ ⟨rfl,trivial⟩ rfl rfl ?_))))))))))))));rintro k ⟨hk,hI⟩ _ hAg0;refine Je fun _ hK4 _=>(Je fun _ hK5 _=>(Jb (Jg (Jc rfl) rfl (Jg (Jc rfl) rfl (Jg (Jm u22 rfl rfl) rfl (Jg (JR rfl rfl) rfl (Jf (Ja (hK5 (Jp rfl (fun h7=>?_) (fun h7=>?_)))))))))))
 ·
  refine Jo (Ja (hK4 (Je fun _ hK6 _=>(Jn (Je fun _ hK7 _=>(Jb (Jg (Jc rfl) rfl (Jg (Jc rfl) rfl (Jg (JP u22 sz2 rfl rfl rfl (by omega) hxs.sm) rfl (Jg (JB rfl (hxs _ (by omega)) pl2) rfl (Jg (El rfl rfl) rfl (Jf (Ja (hK7 (Jp rfl (fun h14=>?_) (fun h14=>?_))))))))))))))))
  ·
   refine Je fun _ hK8 _=>(Jb (Jg (Jc rfl) rfl (Jg (Jd rfl) rfl (Jf (Ja (hK8 (Js (JT (Jk (Jk (JT (Jk (Jq rfl (Res.tmp rfl) fun w hH=>?_)))))))))))));exact ⟨by rw [idxOf_hit (k:=k) (by omega) hI (decide_eq_true h14)],hH⟩
  ·
   refine Jo (JF (Ja (hK6 (Jb (Jg (Jc rfl) rfl (Jg (JC rfl rfl (by first | exact nw _ (by omega) | rfl)) rfl (Jg (Jd rfl) rfl (Jf (Ja ?_)))))))));exact hAg0 (k+1) ⟨by omega,upto hI (decide_eq_false h14)⟩ (by show xs.length - (k+1)<xs.length - k;omega) 13 rfl rfl ⟨rfl,trivial⟩ rfl rfl
 ·
  refine JH (Jl (Jl (JQ (Ja (hK2 (Je fun _ hK9 _=>(Jb (Jg (Jd rfl) rfl (Jf (Ja (hK9 (Js (Jq rfl (Res.tmp rfl) fun w hH=>?_)))))))))))));exact ⟨by rw [idxOf_miss (fun j hj=>hI j (by omega))],hH⟩
theorem l03Less_c {B:World} {H0 H:HP} {L:List SA} {w:World} {qxs:Option Addr} {cxs:Nat} {xs:List Int} {qys:Option Addr} {cys:Nat} {ys:List Int} {k:Int} (hxs:Ints H qxs xs) (hys:Ints H qys ys) (hn:xs.length≤1000000) (hl:ys.length=xs.length) (hx : ∀j,0≤xs.getD j 0∧xs.getD j 0≤10006) (hy : ∀j,0≤ys.getD j 0∧ys.getD j 0≤10006) (hk:0≤k∧k≤10006) (hH:Hp B H0 H L w):Calls Tryz.prog 161 [.slice qxs xs.length cxs,.slice qys ys.length cys,.int .i64 k].toArray w fun e w'=>∃q c,e = .returned (.slice q (lessS xs ys k).length c)∧Hp B H0 H (own 2 1 q (lessS xs ys k).length c (intsC (lessS xs ys k))::L) w':=by
 refine Jz Tryz.func161 rfl 34 rfl rfl [(0,.slice qxs xs.length cxs),(1,.slice qys ys.length cys),(2,.int .i64 k)] rfl hH ?_;clear hH;refine Je fun _ hK1 _=>(Jb (Jg (Jd rfl) rfl (Jf (Ja (hK1 (Je fun _ hK2 _=>(Jb (Jg (Jc rfl) rfl (Jg (Jm u22 rfl rfl) rfl (EK (MK.makeI (m:=xs.length) u22 ze2 sz2 by2 rfl rfl rfl rfl (by omega)) rfl fun qo11 co11=>(Jg (EN (v':=.slice qo11 xs.length co11) (by rw [List.length_replicate]) (Jd rfl)) rfl (Jf (Ja (hK2 (Je fun _ hK3 _=>(Je fun _ hK4 _=>?_))))))))))))))));refine Jb (Jg (Jd rfl) rfl (Jf (Ja (hK4 (Jn (JE (σ:=Nat) (fun (i:Nat)=>[(8,.int .i64 (i:Int))]) (fun (i:Nat)=>H) (fun (i:Nat)=>own 2 1 qo11 xs.length co11 (intsC (lsZ xs ys k i))::L) (fun (i:Nat)=>i≤xs.length) (fun (i:Nat)=>xs.length - i) 0 (by omega) ⟨rfl,trivial⟩ rfl (by rw [lsZ_zero,List.length_replicate]) ?_))))));rintro i hi _ hAg0;refine Je fun _ hK5 _=>(Je fun _ hK6 _=>(Jb (Jg (Jc rfl) rfl (Jg (Jc rfl) rfl (Jg (Jm u22 rfl rfl) rfl (Jg (JR rfl rfl) rfl (Jf (Ja (hK6 (Jp rfl (fun h15=>?_) (fun h15=>?_)))))))))))
 ·
  have hik:i<xs.length:=by omega
  have hxi:=hx i;have hyi:=hy i;have hmb:=mul_bd (a:=k) (b:=ys.getD i 0) hk hyi;refine Jo (Ja (hK5 (Je fun _ hK7 _=>(Jn (Ej (Rs:=[_]) 16 [[], [], [], [], [2,3], [2,3,4], [], [], [], [7,8], [7,8,9], [6,7,8,9,10], [2,3,4,5,6,7,8,9,10,11], [2,3,4,5,6,7,8,9,10,11,12], [0,1,2,3,4,5,6,7,8,9,10,11,12,13], [0,1,2,3,4,5,6,7,8,9,10,11,12,13,14]] [[], [], [], [], [], [], [], [], [], [], [], [], [], [], [16], []] [[], [], [], [], [], [], [], [], [], [], [], [], [], [], [], [16]] rfl rfl (by kernel_rfl) ?_)))));apply Jj 1 rfl
  iterate 3 focus (intros;(conv=>lhs;simp only [Jh,Jt,JN,Jv,JI,eq_self,reduceEqDiff,reduceIte,reduceSub,reduceAdd,JxA,JxB]);all_goals rfl)
  ·
   intro gh X K zq zc zq2 zc2 zb zv hK;refine Jg (Jc rfl) rfl (Ji ?_);exact hK zq zc zq2 zc2 zb zv
  ·
   intro gh gh' h
   rfl
  apply Jj 2 rfl
  iterate 3 focus (intros;(conv=>lhs;simp only [Jh,Jt,JN,Jv,JI,eq_self,reduceEqDiff,reduceIte,reduceSub,reduceAdd,JxA,JxB]);all_goals rfl)
  ·
   intro gh X K zq zc zq2 zc2 zb zv hK;refine Jg (Jc rfl) rfl (Ji ?_);exact hK zq zc zq2 zc2 zb zv
  ·
   intro gh gh' h
   rfl
  apply Jj 3 rfl
  iterate 3 focus (intros;(conv=>lhs;simp only [Jh,Jt,JN,Jv,JI,eq_self,reduceEqDiff,reduceIte,reduceSub,reduceAdd,JxA,JxB]);all_goals rfl)
  ·
   intro gh X K zq zc zq2 zc2 zb zv hK;refine Jg (Jc rfl) rfl (Ji ?_);exact hK zq zc zq2 zc2 zb zv
  ·
   intro gh gh' h
   rfl
  apply Jj 4 rfl
  iterate 3 focus (intros;(conv=>lhs;simp only [Jh,Jt,JN,Jv,JI,eq_self,reduceEqDiff,reduceIte,reduceSub,reduceAdd,JxA,JxB]);all_goals rfl)
  ·
   intro gh X K zq zc zq2 zc2 zb zv hK;refine Jg (Jc rfl) rfl (Ji ?_);exact hK zq zc zq2 zc2 zb zv
  ·
   intro gh gh' h
   rfl
  apply Jj 5 rfl
  iterate 3 focus (intros;(conv=>lhs;simp only [Jh,Jt,JN,Jv,JI,eq_self,reduceEqDiff,reduceIte,reduceSub,reduceAdd,JxA,JxB]);all_goals rfl)
  ·
   intro gh X K zq zc zq2 zc2 zb zv hK;refine Jg (JP u22 sz2 rfl rfl rfl (by omega) hxs.sm) rfl (Ji ?_);exact hK zq zc zq2 zc2 zb zv
  ·
   intro gh gh' h
   rfl
  apply Jj 6 rfl
  iterate 3 focus (intros;(conv=>lhs;simp only [Jh,Jt,JN,Jv,JI,eq_self,reduceEqDiff,reduceIte,reduceSub,reduceAdd,JxA,JxB]);all_goals rfl)
  ·
   intro gh X K zq zc zq2 zc2 zb zv hK;refine Jg (JB rfl (hxs _ (by omega)) pl2) rfl (Ji ?_);exact hK zq zc zq2 zc2 zb zv
  ·
   intro gh gh' h
   rfl
  apply Jj 7 rfl
  iterate 3 focus (intros;(conv=>lhs;simp only [Jh,Jt,JN,Jv,JI,eq_self,reduceEqDiff,reduceIte,reduceSub,reduceAdd,JxA,JxB]);all_goals rfl)
  ·
   intro gh X K zq zc zq2 zc2 zb zv hK;refine Jg (Jc rfl) rfl (Ji ?_);exact hK zq zc zq2 zc2 zb zv
  ·
   intro gh gh' h
   rfl
  apply Jj 8 rfl
  iterate 3 focus (intros;(conv=>lhs;simp only [Jh,Jt,JN,Jv,JI,eq_self,reduceEqDiff,reduceIte,reduceSub,reduceAdd,JxA,JxB]);all_goals rfl)
  ·
   intro gh X K zq zc zq2 zc2 zb zv hK;refine Jg (Jc rfl) rfl (Ji ?_);exact hK zq zc zq2 zc2 zb zv
  ·
   intro gh gh' h
   rfl
  apply Jj 9 rfl
  iterate 3 focus (intros;(conv=>lhs;simp only [Jh,Jt,JN,Jv,JI,eq_self,reduceEqDiff,reduceIte,reduceSub,reduceAdd,JxA,JxB]);all_goals rfl)
  ·
   intro gh X K zq zc zq2 zc2 zb zv hK;refine Jg (Jc rfl) rfl (Ji ?_);exact hK zq zc zq2 zc2 zb zv
  ·
   intro gh gh' h
   rfl
  apply Jj 10 rfl
  iterate 3 focus (intros;(conv=>lhs;simp only [Jh,Jt,JN,Jv,JI,eq_self,reduceEqDiff,reduceIte,reduceSub,reduceAdd,JxA,JxB]);all_goals rfl)
  ·
   intro gh X K zq zc zq2 zc2 zb zv hK;refine Jg (JP u22 sz2 rfl rfl rfl (by omega) hys.sm) rfl (Ji ?_);exact hK zq zc zq2 zc2 zb zv
  ·
   intro gh gh' h
   rfl
  apply Jj 11 rfl
  iterate 3 focus (intros;(conv=>lhs;simp only [Jh,Jt,JN,Jv,JI,eq_self,reduceEqDiff,reduceIte,reduceSub,reduceAdd,JxA,JxB]);all_goals rfl)
  ·
   intro gh X K zq zc zq2 zc2 zb zv hK;refine Jg (JB rfl (hys _ (by omega)) pl2) rfl (Ji ?_);exact hK zq zc zq2 zc2 zb zv
  ·
   intro gh gh' h
   rfl
  apply Jj 12 rfl
  iterate 3 focus (intros;(conv=>lhs;simp only [Jh,Jt,JN,Jv,JI,eq_self,reduceEqDiff,reduceIte,reduceSub,reduceAdd,JxA,JxB]);all_goals rfl)
  ·
   intro gh X K zq zc zq2 zc2 zb zv hK;refine Jg (EH rfl rfl (nw _ (by omega))) rfl (Ji ?_);exact hK zq zc zq2 zc2 zb zv
  ·
   intro gh gh' h
   rfl
  apply Jj 13 rfl
  iterate 3 focus (intros;(conv=>lhs;simp only [Jh,Jt,JN,Jv,JI,eq_self,reduceEqDiff,reduceIte,reduceSub,reduceAdd,JxA,JxB]);all_goals rfl)
  ·
   intro gh X K zq zc zq2 zc2 zb zv hK;refine Jg (EL rfl rfl (nw _ (by omega))) rfl (Ji ?_);exact hK zq zc zq2 zc2 zb zv
  ·
   intro gh gh' h
   rfl
  apply Jj 14 rfl
  iterate 3 focus (intros;(conv=>lhs;simp only [Jh,Jt,JN,Jv,JI,eq_self,reduceEqDiff,reduceIte,reduceSub,reduceAdd,JxA,JxB]);all_goals rfl)
  ·
   intro gh X K zq zc zq2 zc2 zb zv hK;refine Jw fn160 rfl rfl fun w hH=>(l01Mod_c (by omega) hH).mono ?_;rintro _ w ⟨rfl,hH⟩;refine ⟨_,rfl,fun a hF=>JL hF hH ?_⟩;refine Ji ?_;exact hK zq zc zq2 zc2 zb zv
  ·
   intro gh gh' h
   rfl
  apply Jj 15 rfl
  iterate 3 focus (intros;(conv=>lhs;simp only [Jh,Jt,JN,Jv,JI,eq_self,reduceEqDiff,reduceIte,reduceSub,reduceAdd,JxA,JxB]);all_goals rfl)
  ·
   intro gh X K zq zc zq2 zc2 zb zv hK;refine Jg (Es u22 sz2 rfl rfl rfl (by omega) At.z) rfl (Ji ?_);exact hK zq zc zq2 zc2 zb zv
  ·
   intro gh gh' h
   rfl
  apply ET 16 rfl
  iterate 3 focus (intros;(conv=>lhs;simp only [Jh,Jt,JN,Jv,JI,eq_self,reduceEqDiff,reduceIte,reduceSub,reduceAdd,JxA,JxB]);all_goals rfl)
  ·
   intro gh X K hK;refine J.storeWI rfl rfl sz2 (by omega) At.z (Ji ?_);exact hK
  ·
   intro gh gh' h
   rfl
  apply Ek [0,1,2,3,4,5,6,7,8,9,10,11,12,13,14,15] [0,1,2,3,4,5,6,7,8,9,10,11,12,13,14,15] foll0 rfl rfl rfl (by rfl)
  iterate 2 focus (intros;(conv=>lhs;simp only [Jh,Jt,JN,Jv,JI,eq_self,reduceEqDiff,reduceIte,reduceSub,reduceAdd,JxA,JxB]);all_goals rfl)
  intro gh;clear gh;refine JF (Ja (hK7 (Jb (Jg (Jc rfl) rfl (Jg (JC rfl rfl (by first | exact nw _ (by omega) | rfl)) rfl (Jg (Jd rfl) rfl (Jf (Ja ?_))))))));exact hAg0 (i+1) (by omega) (by show xs.length - (i+1)<xs.length - i;omega) 23 rfl rfl ⟨rfl,trivial⟩ rfl (by rw [lsZ_set (by omega)])
 ·
  refine JH (Jl (Jl (JQ (Ja (hK3 (Je fun _ hK8 _=>(Jb (Jg (Jc rfl) rfl (Jg (Jd rfl) rfl (Jf (Ja (hK8 (Js (Jq rfl (Res.tmp rfl) fun w hH=>?_))))))))))))));replace hH:=hH.sublist (.cons_cons _ (List.Sublist.refl _));rw [lsZ_end (by omega)] at hH;exact ⟨_,_,by rw [lessS_len],by rw [lessS_len];exact hH⟩
theorem fn108:Fn Tryz.prog 108:=⟨_,Tryz.func108,by kernel_rfl,rfl⟩
theorem fn161:Fn Tryz.prog 161:=⟨_,Tryz.func161,by kernel_rfl,rfl⟩
theorem l03By_c {B:World} {H0 H:HP} {L:List SA} {w:World} {qrow:Option Addr} {crow:Nat} {row:List Int} {qrs:Option Addr} {crs:Nat} {rs:List (List Int)} {W:Nat} (hrow:Ints H qrow row) (hrs:RowsR H qrs rs) (hw:RowOk W row) (hW : ∀r∈rs,RowOk W r∧ldR r<W) (hn:rs.length≤1000000) (hWn:W≤1000000) (hcr:row.length≤crow) (hH:Hp B H0 H L w):Calls Tryz.prog 109 [.slice qrow row.length crow,.slice qrs rs.length crs].toArray w fun e w'=>∃H' q c,Le H H' ∧Ints H' q (byS row rs)∧(byS row rs).length≤c∧e = .returned (.slice q (byS row rs).length c)∧Hp B H0 H' L w':=by
 refine Jz Tryz.func109 rfl 34 rfl rfl [(0,.slice qrow row.length crow),(1,.slice qrs rs.length crs)] rfl hH ?_;have hw0:=hH.old;have hw1:=hH.le;clear hH;refine Je fun _ hK1 _=>(Jb (Jg (Jd rfl) rfl (Jf (Ja (hK1 (Je fun _ hK2 _=>(Je fun _ hK3 _=>(Jb (Jg (Jd rfl) rfl (Jf (Ja (hK3 (Jn (JE (σ:=HP × Option Addr × Nat × Nat) (fun ⟨Hk,q,c,k⟩=>[(5,.int .i64 (k:Int)),(0,.slice q (byS row (rs.take k)).length c)]) (fun ⟨Hk,q,c,k⟩=>Hk) (fun ⟨Hk,q,c,k⟩=>L) (fun ⟨Hk,q,c,k⟩=>Le H Hk∧Ints Hk q (byS row (rs.take k))∧(byS row (rs.take k)).length≤c∧k≤rs.length) (fun ⟨Hk,q,c,k⟩=>rs.length - k) (H,qrow,crow,0) ⟨Le.refl _,hrow,hcr,by omega⟩ ⟨rfl,⟨rfl,trivial⟩⟩ rfl rfl ?_))))))))))))));rintro ⟨Hk,q,c,k⟩ ⟨hlk,hS,hSc,hk⟩ _ hAg0;replace hrow:=hrow.le hlk;replace hrs:=hrs.le hlk;refine Je fun _ hK4 _=>(Je fun _ hK5 _=>(Jb (Jg (Jc rfl) rfl (Jg (Jc rfl) rfl (Jg (Jm u57 rfl rfl) rfl (Jg (JR rfl rfl) rfl (Jf (Ja (hK5 (Jp rfl (fun h10=>?_) (fun h10=>?_)))))))))))
 ·
  have hk1:k<rs.length:=by omega
  have hrk:=hW _ (rw_mem hk1);have hbk:=byS_ok (B:=rs.take k) hw (fun r hr=>(hW r (List.mem_of_mem_take hr)).1);have hbl:=hbk.len;have hrl:=hrk.1.len;have hld:=idxOf_ld (r:=rw_ rs k) (by omega);have hbv:=hbk.val (ldR (rw_ rs k));have hrle:=hrk.2;refine Jo (Ja (hK4 (Je fun _ hK6 _=>(Jn (Je fun _ hK7 _=>(Jb (Jg (Jc rfl) rfl (Jg (Jc rfl) rfl (Jg (JP u57 sz22 rfl rfl rfl hk1 hrs.sm) rfl ?_)))))))));obtain ⟨qe16,ce16,he16,le16,Fe16⟩:=hrs k hk1;refine Jg (JB rfl he16 pl22) rfl (Jw fn108 rfl rfl fun w hH=>(l03First_c Fe16 (by omega) hH).mono ?_);rintro _ w ⟨rfl,hH⟩;refine ⟨_,rfl,fun a hF=>JL hF hH ?_⟩;refine Jg (EN (v':=.int .i64 ((ldR (rw_ rs k):Nat):Int)) (by rw [hld]) (Jd rfl)) rfl (Jf (Ja (hK7 (Je fun _ hK8 _=>(Jb (Jg (Jc rfl) rfl (Jg (Jc rfl) rfl (Jg (JP u22 sz2 rfl rfl rfl (by omega) hS.sm) rfl (Jg (JB rfl (hS _ (by omega)) pl2) rfl (Jg (El rfl rfl) rfl (Jf (Ja (hK8 (Jp rfl (fun h22=>?_) (fun h22=>?_)))))))))))))))
  ·
   refine Ej (Rs:=[]) 11 [[], [], [], [1,2], [1,2,3], [], [], [5,6], [5,6,7], [0,1,2,3,4,5,6,7,8], [0,1,2,3,4,5,6,7,8,9]] [[], [], [], [], [], [], [], [], [], [], []] [[], [], [], [], [], [], [], [], [], [], []] rfl rfl (by kernel_rfl) ?_;apply Jj 1 rfl
   iterate 3 focus (intros;(conv=>lhs;simp only [Jh,Jt,JN,Jv,JI,eq_self,reduceEqDiff,reduceIte,reduceSub,reduceAdd,JxA,JxB]);all_goals rfl)
   ·
    intro gh X K zq zc zq2 zc2 zb zv hK;refine Jg (Jc rfl) rfl (Ji ?_);exact hK zq zc zq2 zc2 zb zv
   ·
    intro gh gh' h
    rfl
   apply Jj 2 rfl
   iterate 3 focus (intros;(conv=>lhs;simp only [Jh,Jt,JN,Jv,JI,eq_self,reduceEqDiff,reduceIte,reduceSub,reduceAdd,JxA,JxB]);all_goals rfl)
   ·
    intro gh X K zq zc zq2 zc2 zb zv hK;refine Jg (Jc rfl) rfl (Ji ?_);exact hK zq zc zq2 zc2 zb zv
   ·
    intro gh gh' h
    rfl
   apply Jj 3 rfl
   iterate 3 focus (intros;(conv=>lhs;simp only [Jh,Jt,JN,Jv,JI,eq_self,reduceEqDiff,reduceIte,reduceSub,reduceAdd,JxA,JxB]);all_goals rfl)
   ·
    intro gh X K zq zc zq2 zc2 zb zv hK;refine Jg (Jc rfl) rfl (Ji ?_);exact hK zq zc zq2 zc2 zb zv
   ·
    intro gh gh' h
    rfl
   apply Jj 4 rfl
   iterate 3 focus (intros;(conv=>lhs;simp only [Jh,Jt,JN,Jv,JI,eq_self,reduceEqDiff,reduceIte,reduceSub,reduceAdd,JxA,JxB]);all_goals rfl)
   ·
    intro gh X K zq zc zq2 zc2 zb zv hK;refine Jg (JP u57 sz22 rfl rfl rfl hk1 hrs.sm) rfl (Ji ?_);exact hK zq zc zq2 zc2 zb zv
   ·
    intro gh gh' h
    rfl
   obtain ⟨qe27,ce27,he27,le27,Fe27⟩:=hrs k hk1;apply Jj 5 rfl
   iterate 3 focus (intros;(conv=>lhs;simp only [Jh,Jt,JN,Jv,JI,eq_self,reduceEqDiff,reduceIte,reduceSub,reduceAdd,JxA,JxB]);all_goals rfl)
   ·
    intro gh X K zq zc zq2 zc2 zb zv hK;refine Jg (JB rfl he27 pl22) rfl (Ji ?_);exact hK zq zc zq2 zc2 zb zv
   ·
    intro gh gh' h
    rfl
   apply Jj 6 rfl
   iterate 3 focus (intros;(conv=>lhs;simp only [Jh,Jt,JN,Jv,JI,eq_self,reduceEqDiff,reduceIte,reduceSub,reduceAdd,JxA,JxB]);all_goals rfl)
   ·
    intro gh X K zq zc zq2 zc2 zb zv hK;refine Jg (Jc rfl) rfl (Ji ?_);exact hK zq zc zq2 zc2 zb zv
   ·
    intro gh gh' h
    rfl
   apply Jj 7 rfl
   iterate 3 focus (intros;(conv=>lhs;simp only [Jh,Jt,JN,Jv,JI,eq_self,reduceEqDiff,reduceIte,reduceSub,reduceAdd,JxA,JxB]);all_goals rfl)
   ·
    intro gh X K zq zc zq2 zc2 zb zv hK;refine Jg (Jc rfl) rfl (Ji ?_);exact hK zq zc zq2 zc2 zb zv
   ·
    intro gh gh' h
    rfl
   apply Jj 8 rfl
   iterate 3 focus (intros;(conv=>lhs;simp only [Jh,Jt,JN,Jv,JI,eq_self,reduceEqDiff,reduceIte,reduceSub,reduceAdd,JxA,JxB]);all_goals rfl)
   ·
    intro gh X K zq zc zq2 zc2 zb zv hK;refine Jg (JP u22 sz2 rfl rfl rfl (by omega) hS.sm) rfl (Ji ?_);exact hK zq zc zq2 zc2 zb zv
   ·
    intro gh gh' h
    rfl
   apply Jj 9 rfl
   iterate 3 focus (intros;(conv=>lhs;simp only [Jh,Jt,JN,Jv,JI,eq_self,reduceEqDiff,reduceIte,reduceSub,reduceAdd,JxA,JxB]);all_goals rfl)
   ·
    intro gh X K zq zc zq2 zc2 zb zv hK;refine Jg (JB rfl (hS _ (by omega)) pl2) rfl (Ji ?_);exact hK zq zc zq2 zc2 zb zv
   ·
    intro gh gh' h
    rfl
   apply Ea 10 rfl
   iterate 3 focus (intros;(conv=>lhs;simp only [Jh,Jt,JN,Jv,JI,eq_self,reduceEqDiff,reduceIte,reduceSub,reduceAdd,JxA,JxB]);all_goals rfl)
   ·
    intro gh X K zq zc zq2 zc2 zb zv hK;refine Jw fn161 rfl rfl fun w hH=>(l03Less_c hS Fe27 (by omega) (by rw [hbl,hrl]) hbk.val hrk.1.val hbv hH).mono ?_;rintro _ w ⟨qo32,co32,rfl,hH⟩;refine ⟨_,rfl,fun a hF=>JL hF hH ?_⟩;refine Ji ?_;exact hK qo32 co32 zq2 zc2 zb zv
   ·
    intro gh gh' h;refine ⟨?_,?_⟩ <;> rfl
   apply Jj 11 rfl
   iterate 3 focus (intros;(conv=>lhs;simp only [Jh,Jt,JN,Jv,JI,eq_self,reduceEqDiff,reduceIte,reduceSub,reduceAdd,JxA,JxB]);all_goals rfl)
   ·
    intro gh X K zq zc zq2 zc2 zb zv hK;refine Jg (Jd rfl) rfl (Ji ?_);exact hK zq zc zq2 zc2 zb zv
   ·
    intro gh gh' h
    first | simp only [h 9 rfl] | rfl
   apply Ek [0,1,2,3,4,5,6,7,8,9,10] [0,1,2,3,4,5,6,7,8,9,10] foll0 rfl rfl rfl (by rfl)
   iterate 2 focus (intros;(conv=>lhs;simp only [Jh,Jt,JN,Jv,JI,eq_self,reduceEqDiff,reduceIte,reduceSub,reduceAdd,JxA,JxB]);all_goals rfl)
   intro gh;generalize (gh 9).c=co32;generalize (gh 9).q=qo32;clear gh;refine EV .z fun Ho32 hleo32 hAo32=>?_;replace hrow:=hrow.le hleo32;replace hrs:=hrs.le hleo32;replace hS:=hS.le hleo32;replace Fe16:=Fe16.le hleo32;replace Fe27:=Fe27.le hleo32;have hxo32:=own_ints hAo32;have hco32:=own_le hAo32;refine JF (Ja (hK6 (Jb (Jg (Jc rfl) rfl (Jg (JC rfl rfl (by first | exact nw _ (by omega) | rfl)) rfl (Jg (Jd rfl) rfl (Jf (Ja ?_))))))));exact hAg0 (Ho32,qo32,co32,k+1) ⟨(hlk.trans hleo32),by rw [byS_take hk1];exact hxo32,by rw [byS_take hk1];exact hco32,by omega⟩ (by show rs.length - (k+1)<rs.length - k;omega) 31 rfl rfl ⟨rfl,⟨(by rw [byS_take hk1];rfl),trivial⟩⟩ rfl rfl
  ·
   refine Jo (JF (Ja (hK6 (Jb (Jg (Jc rfl) rfl (Jg (JC rfl rfl (by first | exact nw _ (by omega) | rfl)) rfl (Jg (Jd rfl) rfl (Jf (Ja ?_)))))))));exact hAg0 (Hk,q,c,k+1) ⟨hlk,by rw [byS_take hk1,oneBy_z hbk hrk.1 (by omega)];exact hS,by rw [byS_take hk1,oneBy_z hbk hrk.1 (by omega)];exact hSc,by omega⟩ (by show rs.length - (k+1)<rs.length - k;omega) 20 rfl rfl ⟨rfl,⟨(by rw [byS_take hk1,oneBy_z hbk hrk.1 (by omega)];rfl),trivial⟩⟩ rfl rfl
 ·
  refine JH (Jl (Jl (JQ (Ja (hK2 (Je fun _ hK9 _=>(Jb (Jg (Jc rfl) rfl (Jg (Jd rfl) rfl (Jf (Ja (hK9 (Js (Jq rfl (Res.tmp rfl) fun w hH=>?_))))))))))))))
  obtain rfl:k=rs.length:=by omega
  rw [List.take_length] at hS hSc ⊢;exact ⟨_,_,_,hlk,hS,hSc,rfl,hH⟩
theorem fn109:Fn Tryz.prog 109:=⟨_,Tryz.func109,by kernel_rfl,rfl⟩
theorem fn171:Fn Tryz.prog 171:=⟨_,Tryz.func171,by kernel_rfl,rfl⟩
def stI (u:List Int) (s:List (List Int) × Bool) (r:List Int):List (List Int) × Bool:=if s.2 then s else if ldR u<ldR r then (s.1++[u],true) else s
def stP (u:List Int) (s:List (List Int) × Bool) (r:List Int):List (List Int) × Bool:=((stI u s r).1++[oneBy r u],(stI u s r).2)
def goK (u:List Int) (rs:List (List Int)) (i:Nat):List (List Int) × Bool:=(rs.take i).foldl (stP u) ([],false)
theorem goK_succ {u:List Int} {rs:List (List Int)} {i:Nat} (hi:i<rs.length):goK u rs (i+1)=stP u (goK u rs i) (rw_ rs i):=by
 unfold goK;rw [rw_take hi,List.foldl_append]
 rfl
theorem stI_a {u:List Int} {s:List (List Int) × Bool} {r:List Int} (h:s.2=true):stI u s r=s:=by unfold stI;rw [if_pos h]
theorem stI_b {u:List Int} {s:List (List Int) × Bool} {r:List Int} (h:s.2=false) (hl:ldR u<ldR r):stI u s r=(s.1++[u],true):=by unfold stI;rw [h,if_neg (by decide),if_pos hl]
theorem stI_c {u:List Int} {s:List (List Int) × Bool} {r:List Int} (h:s.2=false) (hl : ¬ldR u<ldR r):stI u s r=s:=by unfold stI;rw [h,if_neg (by decide),if_neg hl]
theorem stP_true (u:List Int) : ∀(rs o:List (List Int)),rs.foldl (stP u) (o,true)=(o++rs.map (fun x=>oneBy x u),true)
 | [],o=>by simp
 | r::rs,o=>by
  rw [List.foldl_cons,show stP u (o,true) r=(o++[oneBy r u],true) from rfl,stP_true u rs,List.map_cons,List.append_assoc]
  rfl
theorem stP_ins (u:List Int) : ∀(rs o:List (List Int)),(if (rs.foldl (stP u) (o,false)).2 then (rs.foldl (stP u) (o,false)).1 else (rs.foldl (stP u) (o,false)).1++[u])=o++insS u rs
 | [],o=>rfl
 | r::rs,o=>by
  rw [List.foldl_cons]
  by_cases h:ldR u<ldR r
  ·have e:stP u (o,false) r=(o++[u]++[oneBy r u],true):=by unfold stP;rw [stI_b rfl h]
   rw [e,stP_true,if_pos rfl]
   simp only [insS]
   rw [if_pos h,List.map_cons]
   simp [oneBy]
  ·have e:stP u (o,false) r=(o++[oneBy r u],false):=by unfold stP;rw [stI_c rfl h]
   rw [e,stP_ins u rs]
   simp only [insS]
   rw [if_neg h]
   simp [oneBy]
theorem goK_end {u:List Int} {rs:List (List Int)} {i:Nat} (hi:i=rs.length):(if (goK u rs i).2 then (goK u rs i).1 else (goK u rs i).1++[u])=insS u rs:=by
 subst hi;unfold goK;rw [List.take_length,stP_ins u rs []]
 rfl
theorem goK_yes {u:List Int} {rs:List (List Int)} {i:Nat} (hi:i=rs.length) (h:(goK u rs i).2=true):(goK u rs i).1=insS u rs:=by rw [← goK_end hi,if_pos h]
theorem goK_no {u:List Int} {rs:List (List Int)} {i:Nat} (hi:i=rs.length) (h:(goK u rs i).2=false):(goK u rs i).1++[u]=insS u rs:=by rw [← goK_end hi,h];rfl
theorem stI_len {u:List Int} {s:List (List Int) × Bool} {r:List Int}:(stI u s r).1.length≤s.1.length+1:=by
 unfold stI
 split
 ·omega
 ·split
  ·simp
  ·omega
theorem goK_len (u:List Int) (rs:List (List Int)) : ∀i,(goK u rs i).1.length≤2 * i
 | 0=>by simp [goK]
 | i+1=>by
  by_cases hi:i<rs.length
  ·rw [goK_succ hi]
   have h1:=goK_len u rs i
   have h2:=stI_len (u:=u) (s:=goK u rs i) (r:=rw_ rs i)
   unfold stP
   rw [List.length_append]
   simp only [List.length_cons,List.length_nil]
   omega
  ·have e:goK u rs (i+1)=goK u rs i:=by
    unfold goK
    rw [List.take_of_length_le (by omega),List.take_of_length_le (by omega)]
   rw [e]
   have:=goK_len u rs i
   omega
theorem put_no {rs:List (List Int)} {row:List Int} (h:idxOf (byS row rs) nzI<0):putS rs row=rs:=by
 have h1:zR (byS row rs)=true:=by rw [← zR_eq];exact decide_eq_true h
 unfold putS;rw [if_neg (of_decide_eq_true h1)]
theorem put_lt {b:List Int} (h : ¬idxOf b nzI<0):ldR b<b.length:=by
 have h1:zR b=false:=by rw [← zR_eq];exact decide_eq_false h
 exact Decidable.not_not.1 (of_decide_eq_false h1)
theorem put_yes {rs:List (List Int)} {row:List Int} (h:ldR (byS row rs)<(byS row rs).length):putS rs row=insS (unitS (byS row rs)) rs:=by
 unfold putS;rw [if_pos h]
theorem l03Put_c {B:World} {H0 H:HP} {L:List SA} {w:World} {qrs:Option Addr} {crs:Nat} {rs:List (List Int)} {qrow:Option Addr} {crow:Nat} {row:List Int} {W:Nat} (hrs:RowsR H qrs rs) (hrow:Ints H qrow row) (hR:Red W rs) (hw:RowOk W row) (hWn:W≤100000) (hcr:row.length≤crow) (hcs:rs.length≤crs) (hH:Hp B H0 H L w):Calls Tryz.prog 128 [.slice qrs rs.length crs,.slice qrow row.length crow].toArray w fun e w'=>∃H' q c,Le H H' ∧RowsR H' q (putS rs row)∧(putS rs row).length≤c∧e = .returned (.slice q (putS rs row).length c)∧Hp B H0 H' L w':=by
 refine Jz Tryz.func128 rfl 74 rfl rfl [(0,.slice qrs rs.length crs),(1,.slice qrow row.length crow)] rfl hH ?_;have hw0:=hH.old;have hw1:=hH.le;have hRc:=hR.count;clear hH;refine Je fun _ hK1 _=>(Jb (Jg (Jd rfl) rfl (Jf (Ja (hK1 (Je fun _ hK2 _=>(Jb (Jg (Jc rfl) rfl (Jg (Jc rfl) rfl (Jw fn109 rfl rfl fun w hH=>(l03By_c (W:=W) hrow hrs hw hR.led (by omega) (by omega) hcr hH).mono ?_))))))))));rintro _ w ⟨Hf11,qf11,cf11,hlf11,hI11,hcc11,rfl,hH⟩;refine ⟨_,rfl,fun a hF=>JL hF hH ?_⟩;replace hrs:=hrs.le hlf11;replace hrow:=hrow.le hlf11;have hbk:=byS_ok hw hR.row;have hbl:=hbk.len;refine Jg (Jd rfl) rfl (Jf (Ja (hK2 (Je fun _ hK3 _=>(Jb (Jg (Jc rfl) rfl (Jw fn108 rfl rfl fun w hH=>(l03First_c hI11 (by omega) hH).mono ?_)))))));rintro _ w ⟨rfl,hH⟩;refine ⟨_,rfl,fun a hF=>JL hF hH ?_⟩;refine Jg (Jd rfl) rfl (Jf (Ja (hK3 (Je fun _ hK4 _=>(Je fun _ hK5 _=>(Jb (Jg (Jc rfl) rfl (Jg (JR rfl rfl) rfl (Jf (Ja (hK5 (Jp rfl (fun h15=>?_) (fun h15=>?_)))))))))))))
 ·
  refine Je fun _ hK6 _=>(Jb (Jg (Jc rfl) rfl (Jg (Jd rfl) rfl (Jf (Ja (hK6 (Js (Jk (Jq rfl (Res.tmp rfl) fun w hH=>?_)))))))));rw [put_no h15];exact ⟨_,_,_,hlf11,hrs,hcs,rfl,hH⟩
 ·
  have hlt:=put_lt h15;have hld:=idxOf_ld hlt;have hbv:=hbk.val (ldR (byS row rs));have huk:=hbk.unit;have hul:=unitS_ld hbk hlt;have huL:=huk.len;have hiv:=fld_bd (-(ivZ ((byS row rs).getD (ldR (byS row rs)) 0)));have hivb:=ivZ_bd hbv.1;refine Jo (Ja (hK4 (Je fun _ hK7 _=>(Ej (Rs:=[]) 13 [[], [0], [0,1], [], [], [], [4,5], [4,5,6], [4,5,6,7], [4,5,6,7,8], [4,5,6,7,8,9], [0,1,2,3,4,5,6,7,8,9,10], [0,1,2,3,4,5,6,7,8,9,10,11]] [[], [], [], [], [], [], [], [], [], [], [], [2], []] [[], [], [], [], [], [], [], [], [], [], [], [], []] rfl rfl (by kernel_rfl) ?_))));apply Jj 1 rfl
  iterate 3 focus (intros;(conv=>lhs;simp only [Jh,Jt,JN,Jv,JI,eq_self,reduceEqDiff,reduceIte,reduceSub,reduceAdd,JxA,JxB]);all_goals rfl)
  ·
   intro gh X K zq zc zq2 zc2 zb zv hK;refine Jg (Jc rfl) rfl (Ji ?_);exact hK zq zc zq2 zc2 zb zv
  ·
   intro gh gh' h
   rfl
  apply Jj 2 rfl
  iterate 3 focus (intros;(conv=>lhs;simp only [Jh,Jt,JN,Jv,JI,eq_self,reduceEqDiff,reduceIte,reduceSub,reduceAdd,JxA,JxB]);all_goals rfl)
  ·
   intro gh X K zq zc zq2 zc2 zb zv hK;refine Jg (Jm u22 rfl rfl) rfl (Ji ?_);exact hK zq zc zq2 zc2 zb zv
  ·
   intro gh gh' h
   rfl
  apply Ea 3 rfl
  iterate 3 focus (intros;(conv=>lhs;simp only [Jh,Jt,JN,Jv,JI,eq_self,reduceEqDiff,reduceIte,reduceSub,reduceAdd,JxA,JxB]);all_goals rfl)
  ·
   intro gh X K zq zc zq2 zc2 zb zv hK;refine EK (MK.makeI (m:=(byS row rs).length) u22 ze2 sz2 by2 rfl rfl rfl rfl (by omega)) rfl fun qo19 co19=>(Ji ?_);exact hK qo19 co19 zq2 zc2 zb zv
  ·
   intro gh gh' h;refine ⟨?_,?_⟩ <;> rfl
  apply Jj 4 rfl
  iterate 3 focus (intros;(conv=>lhs;simp only [Jh,Jt,JN,Jv,JI,eq_self,reduceEqDiff,reduceIte,reduceSub,reduceAdd,JxA,JxB]);all_goals rfl)
  ·
   intro gh X K zq zc zq2 zc2 zb zv hK;refine Jg (Jc rfl) rfl (Ji ?_);exact hK zq zc zq2 zc2 zb zv
  ·
   intro gh gh' h
   rfl
  apply Jj 5 rfl
  iterate 3 focus (intros;(conv=>lhs;simp only [Jh,Jt,JN,Jv,JI,eq_self,reduceEqDiff,reduceIte,reduceSub,reduceAdd,JxA,JxB]);all_goals rfl)
  ·
   intro gh X K zq zc zq2 zc2 zb zv hK;refine Jg (Jc rfl) rfl (Ji ?_);exact hK zq zc zq2 zc2 zb zv
  ·
   intro gh gh' h
   rfl
  apply Jj 6 rfl
  iterate 3 focus (intros;(conv=>lhs;simp only [Jh,Jt,JN,Jv,JI,eq_self,reduceEqDiff,reduceIte,reduceSub,reduceAdd,JxA,JxB]);all_goals rfl)
  ·
   intro gh X K zq zc zq2 zc2 zb zv hK;refine Jg (EN (v':=.int .i64 ((ldR (byS row rs):Nat):Int)) (by rw [hld]) (Jc rfl)) rfl (Ji ?_);exact hK zq zc zq2 zc2 zb zv
  ·
   intro gh gh' h
   rfl
  apply Jj 7 rfl
  iterate 3 focus (intros;(conv=>lhs;simp only [Jh,Jt,JN,Jv,JI,eq_self,reduceEqDiff,reduceIte,reduceSub,reduceAdd,JxA,JxB]);all_goals rfl)
  ·
   intro gh X K zq zc zq2 zc2 zb zv hK;refine Jg (JP u22 sz2 rfl rfl rfl hlt hI11.sm) rfl (Ji ?_);exact hK zq zc zq2 zc2 zb zv
  ·
   intro gh gh' h
   rfl
  apply Jj 8 rfl
  iterate 3 focus (intros;(conv=>lhs;simp only [Jh,Jt,JN,Jv,JI,eq_self,reduceEqDiff,reduceIte,reduceSub,reduceAdd,JxA,JxB]);all_goals rfl)
  ·
   intro gh X K zq zc zq2 zc2 zb zv hK;refine Jg (JB rfl (hI11 _ hlt) pl2) rfl (Ji ?_);exact hK zq zc zq2 zc2 zb zv
  ·
   intro gh gh' h
   rfl
  apply Jj 9 rfl
  iterate 3 focus (intros;(conv=>lhs;simp only [Jh,Jt,JN,Jv,JI,eq_self,reduceEqDiff,reduceIte,reduceSub,reduceAdd,JxA,JxB]);all_goals rfl)
  ·
   intro gh X K zq zc zq2 zc2 zb zv hK;refine Jw fn171 rfl rfl fun w hH=>(l01Inverse_c (by omega) hH).mono ?_;rintro _ w ⟨rfl,hH⟩;refine ⟨_,rfl,fun a hF=>JL hF hH ?_⟩;refine Ji ?_;exact hK zq zc zq2 zc2 zb zv
  ·
   intro gh gh' h
   rfl
  apply Jj 10 rfl
  iterate 3 focus (intros;(conv=>lhs;simp only [Jh,Jt,JN,Jv,JI,eq_self,reduceEqDiff,reduceIte,reduceSub,reduceAdd,JxA,JxB]);all_goals rfl)
  ·
   intro gh X K zq zc zq2 zc2 zb zv hK;refine Jg (PR.neg rfl ((nw _ (by omega)).trans (Int.zero_sub _))) rfl (Ji ?_);exact hK zq zc zq2 zc2 zb zv
  ·
   intro gh gh' h
   rfl
  apply Jj 11 rfl
  iterate 3 focus (intros;(conv=>lhs;simp only [Jh,Jt,JN,Jv,JI,eq_self,reduceEqDiff,reduceIte,reduceSub,reduceAdd,JxA,JxB]);all_goals rfl)
  ·
   intro gh X K zq zc zq2 zc2 zb zv hK;refine Jw fn160 rfl rfl fun w hH=>(l01Mod_c (by omega) hH).mono ?_;rintro _ w ⟨rfl,hH⟩;refine ⟨_,rfl,fun a hF=>JL hF hH ?_⟩;refine Ji ?_;exact hK zq zc zq2 zc2 zb zv
  ·
   intro gh gh' h
   rfl
  apply Ea 12 rfl
  iterate 3 focus (intros;(conv=>lhs;simp only [Jh,Jt,JN,Jv,JI,eq_self,reduceEqDiff,reduceIte,reduceSub,reduceAdd,JxA,JxB]);all_goals rfl)
  ·
   intro gh X K zq zc zq2 zc2 zb zv hK;refine Jw fn161 rfl rfl fun w hH=>hH.lend .z fun Hl1 hle1 hA1 hB1 hH=>(l03Less_c (own_ints hA1) (hI11.le hle1) (by simp;omega) (by simp) (fun j=>by rw [rep_get];omega) hbk.val hiv hH).mono ?_;rintro _ w ⟨qo28,co28,rfl,hH⟩;replace hH:=hB1 _ _ hH;refine ⟨_,rfl,fun a hF=>JL hF hH ?_⟩;refine Jr .z (Jr (.s .z) (Ji ?_));exact hK qo28 co28 zq2 zc2 zb zv
  ·
   intro gh gh' h;refine ⟨?_,?_⟩ <;> (first | simp only [h 2 rfl] | rfl)
  apply Jj 13 rfl
  iterate 3 focus (intros;(conv=>lhs;simp only [Jh,Jt,JN,Jv,JI,eq_self,reduceEqDiff,reduceIte,reduceSub,reduceAdd,JxA,JxB]);all_goals rfl)
  ·
   intro gh X K zq zc zq2 zc2 zb zv hK;refine Jg (Jd rfl) rfl (Ji ?_);exact hK zq zc zq2 zc2 zb zv
  ·
   intro gh gh' h
   first | simp only [h 2 rfl,h 11 rfl] | rfl
  apply Ek [0,1,2,3,4,5,6,7,8,9,10,11,12] [0,1,2,3,4,5,6,7,8,9,10,11,12] foll0 rfl rfl rfl (by rfl)
  iterate 2 focus (intros;(conv=>lhs;simp only [Jh,Jt,JN,Jv,JI,eq_self,reduceEqDiff,reduceIte,reduceSub,reduceAdd,JxA,JxB]);all_goals rfl)
  intro gh;generalize (gh 2).c=co19;generalize (gh 2).q=qo19;generalize (gh 11).c=co28;generalize (gh 11).q=qo28;clear gh;refine EV (.s .z) fun Ho28 hleo28 hAo28=>?_;replace hrs:=hrs.le hleo28;replace hrow:=hrow.le hleo28;replace hI11:=hI11.le hleo28;have hxo28:=own_ints hAo28;have hco28:=own_le hAo28;have hxu:Ints Ho28 qo28 (unitS (byS row rs)):=hxo28;have hcu:(unitS (byS row rs)).length≤co28:=hco28;refine JK .z (Ja (hK7 (Je fun _ hK8 _=>(Jb (EK (EP u57 sz22) rfl fun qo29 co29=>(Jg (Jd rfl) rfl (Jg (Jd rfl) rfl (Jf (Ja (hK8 (Je fun _ hK9 _=>(Je fun _ hK10 _=>(Jb (Jg (Jd rfl) rfl (Jf (Ja (hK10 ?_)))))))))))))))));refine Jn (JE (σ:=HP × Option Addr × Nat × List Value × Nat) (fun ⟨Hk,q,c,vals,i⟩=>[(8,.int .i64 (i:Int)),(6,.slice q (goK (unitS (byS row rs)) rs i).1.length c),(7,.bool (goK (unitS (byS row rs)) rs i).2)]) (fun ⟨Hk,q,c,vals,i⟩=>Hk) (fun ⟨Hk,q,c,vals,i⟩=>own 22 1 q (goK (unitS (byS row rs)) rs i).1.length c vals::L) (fun ⟨Hk,q,c,vals,i⟩=>Le Ho28 Hk∧SlF Hk vals (goK (unitS (byS row rs)) rs i).1∧i≤rs.length) (fun ⟨Hk,q,c,vals,i⟩=>rs.length - i) (Ho28,qo29,co29, [],0) ⟨Le.refl _,SlF.nil _,by omega⟩ ⟨rfl,⟨rfl,⟨rfl,trivial⟩⟩⟩ rfl rfl ?_);rintro ⟨Hk,q,c,vals,i⟩ ⟨hlk,hS,hi⟩ _ hAg0;replace hrs:=hrs.le hlk;replace hrow:=hrow.le hlk;replace hI11:=hI11.le hlk;replace hxo28:=hxo28.le hlk;replace hxu:=hxu.le hlk;refine Je fun _ hK11 _=>(Je fun _ hK12 _=>(Jb (Jg (Jc rfl) rfl (Jg (Jc rfl) rfl (Jg (Jm u57 rfl rfl) rfl (Jg (JR rfl rfl) rfl (Jf (Ja (hK12 (Jp rfl (fun h33=>?_) (fun h33=>?_)))))))))))
  ·
   have hik:i<rs.length:=by omega
   have hgl:=goK_len (unitS (byS row rs)) rs i;have hrk:=hR.led _ (rw_mem hik);have hrl:=hrk.1.len;have hldi:=idxOf_ld (r:=rw_ rs i) (by omega);have hvv:=hrk.1.val (ldR (byS row rs));refine Jo (Ja (hK11 (Je fun _ hK13 _=>(Jn (EW (σ:=Option Addr × Nat × List Value) (fun ⟨q1,c1,vals1⟩=>[(6,.slice q1 (stI (unitS (byS row rs)) (goK (unitS (byS row rs)) rs i) (rw_ rs i)).1.length c1),(7,.bool (stI (unitS (byS row rs)) (goK (unitS (byS row rs)) rs i) (rw_ rs i)).2)]) (fun ⟨q1,c1,vals1⟩=>Hk) (fun ⟨q1,c1,vals1⟩=>own 22 1 q1 (stI (unitS (byS row rs)) (goK (unitS (byS row rs)) rs i) (rw_ rs i)).1.length c1 vals1::L) (fun ⟨q1,c1,vals1⟩=>SlF Hk vals1 (stI (unitS (byS row rs)) (goK (unitS (byS row rs)) rs i) (rw_ rs i)).1) ?_ ?_)))))
   ·
    intro _ hMt1;refine Je fun _ hK14 _=>(Jb (Jg (Jc rfl) rfl (Jg (Em rfl) rfl (Jg (Jc rfl) rfl (Ei (jd:=38) rfl (fun hg38=>?_) (fun hg38=>?_))))))
    ·
     try have hg38p:=of_decide_eq_true hg38
     refine JX (Jc rfl) rfl rfl rfl hg38 (JX (Jc rfl) rfl rfl rfl hg38 (JX (JP u57 sz22 rfl rfl rfl hik hrs.sm) rfl rfl rfl hg38 ?_));obtain ⟨qe42,ce42,he42,le42,Fe42⟩:=hrs i hik;refine JX (JB rfl he42 pl22) rfl rfl rfl hg38 (ES fn108 rfl rfl hg38 rfl rfl fun w hH=>(l03First_c Fe42 (by omega) hH).mono ?_);rintro _ w ⟨rfl,hH⟩;refine ⟨_,rfl,fun a hF=>JL hF hH ?_⟩;refine JX (Jc rfl) rfl rfl rfl hg38 (JX (EC rfl rfl) rfl rfl rfl hg38 (Jg (JZ rfl hg38 rfl) rfl (Jf (Ja (hK14 (Jp rfl (fun h46=>?_) (fun h46=>?_)))))))
     ·
      refine Je fun _ hK15 _=>(Jb (Jg (Jc rfl) rfl (Jg (Jc rfl) rfl (EK (EM u57 ze22 sz22 rfl rfl) rfl fun qo49 co49=>(EF u57 ze22 sz22 by22 rfl rfl rfl rfl (by omega) .z At.z (fun _ _=>At.z) rfl fun qo50 co50=>?_)))));have hS2:=hS.snoc hxu rfl hcu;refine Jg (Jd rfl) rfl (Jf (Ja (hK15 (Jb (Jg (Jd rfl) rfl (Jf (Ja (JK .z ?_))))))));exact hMt1 (qo50,co50,_) (by rw [stI_b (not_f hg38) (by omega)];exact hS2) 17 rfl rfl ⟨(by rw [stI_b (not_f hg38) (by omega),List.length_append];rfl),⟨(by rw [stI_b (not_f hg38) (by omega)];rfl),trivial⟩⟩ rfl (by dsimp only;rw [stI_b (not_f hg38) (by omega),List.length_append];rfl)
     ·
      refine Jo (Ja ?_);exact hMt1 (q,c,vals) (by rw [stI_c (not_f hg38) (by omega)];exact hS) 11 rfl rfl ⟨(by rw [stI_c (not_f hg38) (by omega)];rfl),⟨(by rw [stI_c (not_f hg38) (by omega)];rfl),trivial⟩⟩ rfl (by rw [stI_c (not_f hg38) (by omega)])
    ·
     try have hg38p:=of_decide_eq_false hg38
     refine JU rfl rfl rfl hg38 (JU rfl rfl rfl hg38 (JU rfl rfl rfl hg38 (JU rfl rfl rfl hg38 (JU rfl rfl rfl hg38 (JU rfl rfl rfl hg38 (JU rfl rfl rfl hg38 (Jg (JW rfl hg38 rfl) rfl (Jf (Ja (hK14 (Et rfl (Jo (Ja ?_)))))))))))));exact hMt1 (q,c,vals) (by rw [stI_a (not_t hg38)];exact hS) 11 rfl rfl ⟨(by rw [stI_a (not_t hg38)];rfl),⟨(by rw [stI_a (not_t hg38)];rfl),trivial⟩⟩ rfl (by rw [stI_a (not_t hg38)])
   ·
    rintro ⟨q1,c1,vals1⟩ hT;have hsl:=stI_len (u:=(unitS (byS row rs))) (s:=(goK (unitS (byS row rs)) rs i)) (r:=rw_ rs i);refine Ej (Rs:=[_]) 17 [[], [], [], [1,2], [1,2,3], [], [], [], [6,7], [6,7,8], [], [6,7,8,9,10], [6,7,8,9,10,11], [1,2,3,4,5,6,7,8,9,10,11,12], [1,2,3,4,5,6,7,8,9,10,11,12,13], [0,1,2,3,4,5,6,7,8,9,10,11,12,13,14], [0,1,2,3,4,5,6,7,8,9,10,11,12,13,14,15]] [[], [], [], [], [], [], [], [], [], [], [], [], [], [], [], [14], []] [[], [], [], [], [], [], [], [], [], [], [], [], [], [], [], [17], []] rfl rfl (by kernel_rfl) ?_;apply Jj 1 rfl
    iterate 3 focus (intros;(conv=>lhs;simp only [Jh,Jt,JN,Jv,JI,eq_self,reduceEqDiff,reduceIte,reduceSub,reduceAdd,JxA,JxB]);all_goals rfl)
    ·
     intro gh X K zq zc zq2 zc2 zb zv hK;refine Jg (Jc rfl) rfl (Ji ?_);exact hK zq zc zq2 zc2 zb zv
    ·
     intro gh gh' h
     rfl
    apply Jj 2 rfl
    iterate 3 focus (intros;(conv=>lhs;simp only [Jh,Jt,JN,Jv,JI,eq_self,reduceEqDiff,reduceIte,reduceSub,reduceAdd,JxA,JxB]);all_goals rfl)
    ·
     intro gh X K zq zc zq2 zc2 zb zv hK;refine Jg (Jc rfl) rfl (Ji ?_);exact hK zq zc zq2 zc2 zb zv
    ·
     intro gh gh' h
     rfl
    apply Jj 3 rfl
    iterate 3 focus (intros;(conv=>lhs;simp only [Jh,Jt,JN,Jv,JI,eq_self,reduceEqDiff,reduceIte,reduceSub,reduceAdd,JxA,JxB]);all_goals rfl)
    ·
     intro gh X K zq zc zq2 zc2 zb zv hK;refine Jg (Jc rfl) rfl (Ji ?_);exact hK zq zc zq2 zc2 zb zv
    ·
     intro gh gh' h
     rfl
    apply Jj 4 rfl
    iterate 3 focus (intros;(conv=>lhs;simp only [Jh,Jt,JN,Jv,JI,eq_self,reduceEqDiff,reduceIte,reduceSub,reduceAdd,JxA,JxB]);all_goals rfl)
    ·
     intro gh X K zq zc zq2 zc2 zb zv hK;refine Jg (JP u57 sz22 rfl rfl rfl hik hrs.sm) rfl (Ji ?_);exact hK zq zc zq2 zc2 zb zv
    ·
     intro gh gh' h
     rfl
    obtain ⟨qe55,ce55,he55,le55,Fe55⟩:=hrs i hik;apply Jj 5 rfl
    iterate 3 focus (intros;(conv=>lhs;simp only [Jh,Jt,JN,Jv,JI,eq_self,reduceEqDiff,reduceIte,reduceSub,reduceAdd,JxA,JxB]);all_goals rfl)
    ·
     intro gh X K zq zc zq2 zc2 zb zv hK;refine Jg (JB rfl he55 pl22) rfl (Ji ?_);exact hK zq zc zq2 zc2 zb zv
    ·
     intro gh gh' h
     rfl
    apply Jj 6 rfl
    iterate 3 focus (intros;(conv=>lhs;simp only [Jh,Jt,JN,Jv,JI,eq_self,reduceEqDiff,reduceIte,reduceSub,reduceAdd,JxA,JxB]);all_goals rfl)
    ·
     intro gh X K zq zc zq2 zc2 zb zv hK;refine Jg (Jc rfl) rfl (Ji ?_);exact hK zq zc zq2 zc2 zb zv
    ·
     intro gh gh' h
     rfl
    apply Jj 7 rfl
    iterate 3 focus (intros;(conv=>lhs;simp only [Jh,Jt,JN,Jv,JI,eq_self,reduceEqDiff,reduceIte,reduceSub,reduceAdd,JxA,JxB]);all_goals rfl)
    ·
     intro gh X K zq zc zq2 zc2 zb zv hK;refine Jg (Jc rfl) rfl (Ji ?_);exact hK zq zc zq2 zc2 zb zv
    ·
     intro gh gh' h
     rfl
    apply Jj 8 rfl
    iterate 3 focus (intros;(conv=>lhs;simp only [Jh,Jt,JN,Jv,JI,eq_self,reduceEqDiff,reduceIte,reduceSub,reduceAdd,JxA,JxB]);all_goals rfl)
    ·
     intro gh X K zq zc zq2 zc2 zb zv hK;refine Jg (Jc rfl) rfl (Ji ?_);exact hK zq zc zq2 zc2 zb zv
    ·
     intro gh gh' h
     rfl
    apply Jj 9 rfl
    iterate 3 focus (intros;(conv=>lhs;simp only [Jh,Jt,JN,Jv,JI,eq_self,reduceEqDiff,reduceIte,reduceSub,reduceAdd,JxA,JxB]);all_goals rfl)
    ·
     intro gh X K zq zc zq2 zc2 zb zv hK;refine Jg (JP u57 sz22 rfl rfl rfl hik hrs.sm) rfl (Ji ?_);exact hK zq zc zq2 zc2 zb zv
    ·
     intro gh gh' h
     rfl
    obtain ⟨qe60,ce60,he60,le60,Fe60⟩:=hrs i hik;apply Jj 10 rfl
    iterate 3 focus (intros;(conv=>lhs;simp only [Jh,Jt,JN,Jv,JI,eq_self,reduceEqDiff,reduceIte,reduceSub,reduceAdd,JxA,JxB]);all_goals rfl)
    ·
     intro gh X K zq zc zq2 zc2 zb zv hK;refine Jg (JB rfl he60 pl22) rfl (Ji ?_);exact hK zq zc zq2 zc2 zb zv
    ·
     intro gh gh' h
     rfl
    apply Jj 11 rfl
    iterate 3 focus (intros;(conv=>lhs;simp only [Jh,Jt,JN,Jv,JI,eq_self,reduceEqDiff,reduceIte,reduceSub,reduceAdd,JxA,JxB]);all_goals rfl)
    ·
     intro gh X K zq zc zq2 zc2 zb zv hK;refine Jg (EN (v':=.int .i64 ((ldR (byS row rs):Nat):Int)) (by rw [hld]) (Jc rfl)) rfl (Ji ?_);exact hK zq zc zq2 zc2 zb zv
    ·
     intro gh gh' h
     rfl
    apply Jj 12 rfl
    iterate 3 focus (intros;(conv=>lhs;simp only [Jh,Jt,JN,Jv,JI,eq_self,reduceEqDiff,reduceIte,reduceSub,reduceAdd,JxA,JxB]);all_goals rfl)
    ·
     intro gh X K zq zc zq2 zc2 zb zv hK;refine Jg (JP u22 sz2 rfl rfl rfl (by omega) Fe60.sm) rfl (Ji ?_);exact hK zq zc zq2 zc2 zb zv
    ·
     intro gh gh' h
     rfl
    apply Jj 13 rfl
    iterate 3 focus (intros;(conv=>lhs;simp only [Jh,Jt,JN,Jv,JI,eq_self,reduceEqDiff,reduceIte,reduceSub,reduceAdd,JxA,JxB]);all_goals rfl)
    ·
     intro gh X K zq zc zq2 zc2 zb zv hK;refine Jg (JB rfl (Fe60 _ (by omega)) pl2) rfl (Ji ?_);exact hK zq zc zq2 zc2 zb zv
    ·
     intro gh gh' h
     rfl
    apply Ea 14 rfl
    iterate 3 focus (intros;(conv=>lhs;simp only [Jh,Jt,JN,Jv,JI,eq_self,reduceEqDiff,reduceIte,reduceSub,reduceAdd,JxA,JxB]);all_goals rfl)
    ·
     intro gh X K zq zc zq2 zc2 zb zv hK;refine Jw fn161 rfl rfl fun w hH=>(l03Less_c Fe55 hxu (by omega) (by omega) hrk.1.val huk.val hvv hH).mono ?_;rintro _ w ⟨qo64,co64,rfl,hH⟩;refine ⟨_,rfl,fun a hF=>JL hF hH ?_⟩;refine Ji ?_;exact hK qo64 co64 zq2 zc2 zb zv
    ·
     intro gh gh' h;refine ⟨?_,?_⟩ <;> rfl
    apply Ea 15 rfl
    iterate 3 focus (intros;(conv=>lhs;simp only [Jh,Jt,JN,Jv,JI,eq_self,reduceEqDiff,reduceIte,reduceSub,reduceAdd,JxA,JxB]);all_goals rfl)
    ·
     intro gh X K zq zc zq2 zc2 zb zv hK;refine EK (EM u57 ze22 sz22 rfl rfl) rfl fun qo65 co65=>(Ji ?_);exact hK qo65 co65 zq2 zc2 zb zv
    ·
     intro gh gh' h;refine ⟨?_,?_⟩ <;> (first | simp only [h 13 rfl] | rfl)
    apply Ea 16 rfl
    iterate 3 focus (intros;(conv=>lhs;simp only [Jh,Jt,JN,Jv,JI,eq_self,reduceEqDiff,reduceIte,reduceSub,reduceAdd,JxA,JxB]);all_goals rfl)
    ·
     intro gh X K zq zc zq2 zc2 zb zv hK;refine EF u57 ze22 sz22 by22 rfl rfl rfl rfl (by omega) (.s .z) At.z (fun _ _=>At.z) rfl fun qo66 co66=>(Jr .z (Jr (.s .z) (Ji ?_)));exact hK qo66 co66 zq2 zc2 zb zv
    ·
     intro gh gh' h;refine ⟨?_,?_⟩ <;> (first | simp only [h 13 rfl,h 14 rfl] | rfl)
    apply Jj 17 rfl
    iterate 3 focus (intros;(conv=>lhs;simp only [Jh,Jt,JN,Jv,JI,eq_self,reduceEqDiff,reduceIte,reduceSub,reduceAdd,JxA,JxB]);all_goals rfl)
    ·
     intro gh X K zq zc zq2 zc2 zb zv hK;refine Jg (Jd rfl) rfl (Ji ?_);exact hK zq zc zq2 zc2 zb zv
    ·
     intro gh gh' h
     first | simp only [h 13 rfl,h 14 rfl,h 15 rfl] | rfl
    apply Ek [0,1,2,3,4,5,6,7,8,9,10,11,12,13,14,15,16] [0,1,2,3,4,5,6,7,8,9,10,11,12,13,14,15,16] foll0 rfl rfl rfl (by rfl)
    iterate 2 focus (intros;(conv=>lhs;simp only [Jh,Jt,JN,Jv,JI,eq_self,reduceEqDiff,reduceIte,reduceSub,reduceAdd,JxA,JxB]);all_goals rfl)
    intro gh;generalize (gh 13).c=co64;generalize (gh 13).q=qo64;generalize (gh 14).c=co65;generalize (gh 14).q=qo65;generalize (gh 15).c=co66;generalize (gh 15).q=qo66;clear gh;refine EV .z fun Ho64 hleo64 hAo64=>?_;replace hrs:=hrs.le hleo64;replace hrow:=hrow.le hleo64;replace hI11:=hI11.le hleo64;replace hxo28:=hxo28.le hleo64;replace hxu:=hxu.le hleo64;replace hS:=hS.le hleo64;replace hT:=hT.le hleo64;replace Fe55:=Fe55.le hleo64;replace Fe60:=Fe60.le hleo64;have hxo64:=own_ints hAo64;have hco64:=own_le hAo64
    have hxv:Ints Ho64 qo64 (oneBy (rw_ rs i) (unitS (byS row rs))):=by
     unfold oneBy;rw [hul];exact hxo64
    have hT3:=hT.snoc hxv (by unfold oneBy;rw [lessS_len,lessS_len]) hco64;refine JF (Ja (hK13 (Jb (Jg (Jc rfl) rfl (Jg (JC rfl rfl (by first | exact nw _ (by omega) | rfl)) rfl (Jg (Jd rfl) rfl (Jf (Ja (JK .z ?_)))))))));exact hAg0 (Ho64,qo66,co66,_,i+1) ⟨(hlk.trans hleo64),by rw [goK_succ hik];exact hT3,by omega⟩ (by show rs.length - (i+1)<rs.length - i;omega) 29 rfl rfl ⟨rfl,⟨(by rw [goK_succ hik];unfold stP;rw [List.length_append];rfl),⟨(by rw [goK_succ hik];rfl),trivial⟩⟩⟩ rfl (by dsimp only;rw [goK_succ hik];unfold stP;rw [List.length_append];rfl)
  ·
   refine JH (Jl (Jl (JQ (Ja (hK9 (Je fun _ hK16 _=>(Je fun _ hK17 _=>(Jb (Jg (Jc rfl) rfl (Jg (Em rfl) rfl (Jf (Ja (hK17 (Eg rfl (fun h68=>?_) (fun h68=>?_)))))))))))))))
   ·
    have hgl:=goK_len (unitS (byS row rs)) rs i;refine Jb (Jg (Jc rfl) rfl (Jg (Jc rfl) rfl (EK (EM u57 ze22 sz22 rfl rfl) rfl fun qo71 co71=>(EF u57 ze22 sz22 by22 rfl rfl rfl rfl (by omega) .z At.z (fun _ _=>At.z) rfl fun qo72 co72=>?_))));have hS3:=hS.snoc hxu rfl hcu;refine Jg (Jd rfl) rfl (Jf (Ja (hK16 (Je fun _ hK18 _=>(Jb (Jg (Jc rfl) rfl (EA (.s .z) fun Ho29 hleo29 hAo29=>?_)))))));replace hrs:=hrs.le hleo29;replace hrow:=hrow.le hleo29;replace hI11:=hI11.le hleo29;replace hxo28:=hxo28.le hleo29;replace hxu:=hxu.le hleo29;replace hS:=hS.le hleo29;replace hS3:=hS3.le hleo29;have hxo29:=hS3.rows (Le.refl _) hAo29;have hco29:=own_le hAo29;refine Jg (Jd rfl) rfl (Jf (Ja (hK18 (Js (Jq rfl (Res.tmp rfl) fun w hH=>?_)))));replace hH:=hH.tail;rw [put_yes hlt,← goK_no (i:=i) (by omega) (not_f h68)];exact ⟨_,_,_,(((hlf11.trans hleo28).trans hlk).trans hleo29),hxo29,by rw [List.length_append];exact hco29,by rw [List.length_append];rfl,hH⟩
   ·
    refine Jo (Ja (hK16 (Je fun _ hK19 _=>(Jb (Jg (Jc rfl) rfl (EA .z fun Ho29 hleo29 hAo29=>?_))))));replace hrs:=hrs.le hleo29;replace hrow:=hrow.le hleo29;replace hI11:=hI11.le hleo29;replace hxo28:=hxo28.le hleo29;replace hxu:=hxu.le hleo29;replace hS:=hS.le hleo29;have hxo29:=hS.rows (Le.refl _) hAo29;have hco29:=own_le hAo29;refine Jg (Jd rfl) rfl (Jf (Ja (hK19 (Js (Jq rfl (Res.tmp rfl) fun w hH=>?_)))));rw [put_yes hlt,← goK_yes (i:=i) (by omega) (not_t h68)];exact ⟨_,_,_,(((hlf11.trans hleo28).trans hlk).trans hleo29),hxo29,hco29,rfl,hH⟩
theorem fn128:Fn Tryz.prog 128:=⟨_,Tryz.func128,by kernel_rfl,rfl⟩
theorem fn78:Fn Tryz.prog 78:=⟨_,Tryz.func78,by kernel_rfl,rfl⟩
theorem redS_take {rs:List (List Int)} {k:Nat} (hk:k<rs.length):redS (rs.take (k+1))=putS (redS (rs.take k)) (rw_ rs k):=by
 unfold redS;rw [rw_take hk,List.foldl_append]
 rfl
theorem take_ok {W:Nat} {rs:List (List Int)} (h : ∀r∈rs,RowOk W r) (k:Nat) : ∀r∈rs.take k,RowOk W r:=fun r hr=>h r (List.mem_of_mem_take hr)
theorem uni_eq {row:List Int} {W n k:Nat} (hr:row.length=W):((([]++row)++List.replicate n 0):List Int).set (W+k) 1=row++uniR n k:=by
 unfold uniR;subst hr;rw [JxB,List.set_append,if_neg (by omega),Nat.add_sub_cancel_left]
theorem fzK_ylen {R:List (List Int)} {W m:Nat} (hm:m<R.length) (h:zR ((rw_ R m).take W)=true):(fzK R W (m+1)).length=(fzK R W m).length+1:=by
 rw [fzK_yes hm h,List.length_append]
 rfl
theorem zR_take {W:Nat} {r:List Int} (hl:ldR r<r.length) (hW:W≤r.length):zR (r.take W)=decide (W≤ldR r):=by
 unfold zR;refine decide_eq_decide.2 ⟨fun h=>?_,fun h hh=>?_⟩
 ·refine Classical.byContradiction fun hc=>h ?_
  have hlt:ldR r<W:=by omega
  have e:(r.take W).getD (ldR r) 0=r.getD (ldR r) 0:=by rw [List.getD_eq_getElem?_getD,List.getD_eq_getElem?_getD,List.getElem?_take,if_pos hlt]
  have:ldR (r.take W)=ldR r:=ldR_of (fun j hj=>by rw [List.getD_eq_getElem?_getD,List.getElem?_take,if_pos (by omega),← List.getD_eq_getElem?_getD];exact ldR_lt hj) (by rw [e];exact ldR_ne hl);rw [this,List.length_take]
  omega
 ·have h1:=ldR_ne hh;have h2:=hh;rw [List.length_take] at h2;rw [List.getD_eq_getElem?_getD,List.getElem?_take,if_pos (by omega),← List.getD_eq_getElem?_getD,ldR_lt (by omega)] at h1;exact h1 rfl
theorem l03Reduce_c {B:World} {H0 H:HP} {L:List SA} {w:World} {qrs:Option Addr} {crs:Nat} {rs:List (List Int)} {W:Nat} (hrs:RowsR H qrs rs) (hW : ∀r∈rs,RowOk W r) (hn:rs.length≤1000000) (hWn:W≤100000) (hH:Hp B H0 H L w):Calls Tryz.prog 78 [.slice qrs rs.length crs].toArray w fun e w'=>∃H' q c,Le H H' ∧RowsR H' q (redS rs)∧(redS rs).length≤c∧e = .returned (.slice q (redS rs).length c)∧Hp B H0 H' L w':=by
 refine Jz Tryz.func78 rfl 19 rfl rfl [(0,.slice qrs rs.length crs)] rfl hH ?_;have hw0:=hH.old;have hw1:=hH.le;clear hH;refine Je fun _ hK1 _=>(Jb (Jg (Jd rfl) rfl (Jf (Ja (hK1 (Je fun _ hK2 _=>(Jb (EK (EP u57 sz22) rfl fun qo5 co5=>(Jg (Jd rfl) rfl ?_)))))))));have hnil:=SlF.nil H;refine EA .z fun Ho5 hleo5 hAo5=>?_;replace hrs:=hrs.le hleo5;replace hnil:=hnil.le hleo5;have hxo5:=hnil.rows (Le.refl _) hAo5;have hco5:=own_le hAo5;refine Jf (Ja (hK2 (Je fun _ hK3 _=>(Je fun _ hK4 _=>(Jb (Jg (Jd rfl) rfl (Jf (Ja (hK4 (Jn (JE (σ:=HP × Option Addr × Nat × Nat) (fun ⟨Hk,q,c,k⟩=>[(4,.int .i64 (k:Int)),(3,.slice q (redS (rs.take k)).length c)]) (fun ⟨Hk,q,c,k⟩=>Hk) (fun ⟨Hk,q,c,k⟩=>L) (fun ⟨Hk,q,c,k⟩=>Le Ho5 Hk∧RowsR Hk q (redS (rs.take k))∧(redS (rs.take k)).length≤c∧k≤rs.length) (fun ⟨Hk,q,c,k⟩=>rs.length - k) (Ho5,qo5,co5,0) ⟨Le.refl _,hxo5,hco5,by omega⟩ ⟨rfl,⟨rfl,trivial⟩⟩ rfl rfl ?_)))))))))));rintro ⟨Hk,q,c,k⟩ ⟨hlk,hS,hSc,hk⟩ _ hAg0;replace hrs:=hrs.le hlk;replace hnil:=hnil.le hlk;replace hxo5:=hxo5.le hlk;have hRk:=(redS_ok (take_ok hW k)).1;refine Je fun _ hK5 _=>(Je fun _ hK6 _=>(Jb (Jg (Jc rfl) rfl (Jg (Jc rfl) rfl (Jg (Jm u57 rfl rfl) rfl (Jg (JR rfl rfl) rfl (Jf (Ja (hK6 (Jp rfl (fun h9=>?_) (fun h9=>?_)))))))))))
 ·
  have hk1:k<rs.length:=by omega
  have hrk:=hW _ (rw_mem hk1);refine Jo (Ja (hK5 (Je fun _ hK7 _=>(Jn (Jb (Jg (Jc rfl) rfl (Jg (Jc rfl) rfl (Jg (Jc rfl) rfl (Jg (JP u57 sz22 rfl rfl rfl hk1 hrs.sm) rfl ?_)))))))));obtain ⟨qe16,ce16,he16,le16,Fe16⟩:=hrs k hk1;refine Jg (JB rfl he16 pl22) rfl (Jw fn128 rfl rfl fun w hH=>(l03Put_c hS Fe16 hRk hrk (by omega) le16 hSc hH).mono ?_);rintro _ w ⟨Hf17,qf17,cf17,hlf17,hI17,hcc17,rfl,hH⟩;refine ⟨_,rfl,fun a hF=>JL hF hH ?_⟩;replace hrs:=hrs.le hlf17;replace hnil:=hnil.le hlf17;replace hxo5:=hxo5.le hlf17;replace hS:=hS.le hlf17;replace Fe16:=Fe16.le hlf17;refine Jg (Jd rfl) rfl (Jf (JF (Ja (hK7 (Jb (Jg (Jc rfl) rfl (Jg (JC rfl rfl (by first | exact nw _ (by omega) | rfl)) rfl (Jg (Jd rfl) rfl (Jf (Ja ?_))))))))));exact hAg0 (Hf17,qf17,cf17,k+1) ⟨(hlk.trans hlf17),by rw [redS_take hk1];exact hI17,by rw [redS_take hk1];exact hcc17,by omega⟩ (by show rs.length - (k+1)<rs.length - k;omega) 16 rfl rfl ⟨rfl,⟨(by rw [redS_take hk1];rfl),trivial⟩⟩ rfl rfl
 ·
  refine JH (Jl (Jl (JQ (Ja (hK3 (Je fun _ hK8 _=>(Jb (Jg (Jc rfl) rfl (Jg (Jd rfl) rfl (Jf (Ja (hK8 (Js (Jq rfl (Res.tmp rfl) fun w hH=>?_))))))))))))))
  obtain rfl:k=rs.length:=by omega
  rw [List.take_length] at hS hSc ⊢;exact ⟨_,_,_,(hleo5.trans hlk),hS,hSc,rfl,hH⟩
theorem l03Kernel_c {B:World} {H0 H:HP} {L:List SA} {w:World} {qrs:Option Addr} {crs:Nat} {rs:List (List Int)} {W:Nat} (hrs:RowsR H qrs rs) (hW : ∀r∈rs,RowOk W r) (hn:rs.length+W≤100000) (hH:Hp B H0 H L w):Calls Tryz.prog 170 [.slice qrs rs.length crs,.int .i64 (W:Int)].toArray w fun e w'=>∃H' q c,Le H H' ∧RowsR H' q (kerS rs W)∧(kerS rs W).length≤c∧e = .returned (.slice q (kerS rs W).length c)∧Hp B H0 H' L w':=by
 refine Jz Tryz.func170 rfl 65 rfl rfl [(0,.slice qrs rs.length crs),(1,.int .i64 (W:Int))] rfl hH ?_;have hw0:=hH.old;have hw1:=hH.le;clear hH;refine Je fun _ hK1 _=>(Jb (Jg (Jd rfl) rfl (Jf (Ja (hK1 (Je fun _ hK2 _=>(Jb (Jg (Jc rfl) rfl (Jg (Jm u57 rfl rfl) rfl (Jg (Jd rfl) rfl (Jf (Ja (hK2 (Je fun _ hK3 _=>(Jb (EK (EP u57 sz22) rfl fun qo13 co13=>?_))))))))))))))));refine Jg (Jd rfl) rfl (Jf (Ja (hK3 (Je fun _ hK4 _=>(Je fun _ hK5 _=>(Jb (Jg (Jd rfl) rfl (Jf (Ja (hK5 (Jn (JE (σ:=HP × Option Addr × Nat × List Value × Nat) (fun ⟨Hk,q,c,vals,k⟩=>[(7,.int .i64 (k:Int)),(6,.slice q k c)]) (fun ⟨Hk,q,c,vals,k⟩=>Hk) (fun ⟨Hk,q,c,vals,k⟩=>own 22 1 q k c vals::L) (fun ⟨Hk,q,c,vals,k⟩=>Le H Hk∧SlF Hk vals (wdK rs rs.length k)∧k≤rs.length) (fun ⟨Hk,q,c,vals,k⟩=>rs.length - k) (H,qo13,co13, [],0) ⟨Le.refl _,SlF.nil _,by omega⟩ ⟨rfl,⟨rfl,trivial⟩⟩ rfl rfl ?_))))))))))));rintro ⟨Hk,q,c,vals,k⟩ ⟨hlk,hS,hk⟩ _ hAg0;replace hrs:=hrs.le hlk;refine Je fun _ hK6 _=>(Je fun _ hK7 _=>(Jb (Jg (Jc rfl) rfl (Jg (Jc rfl) rfl (Jg (JR rfl rfl) rfl (Jf (Ja (hK7 (Jp rfl (fun h16=>?_) (fun h16=>?_))))))))))
 ·
  have hk1:k<rs.length:=by omega
  have hrk:=(hW _ (rw_mem hk1)).len;refine Jo (Ja (hK6 (Je fun _ hK8 _=>(Jn (Je fun _ hK9 _=>(Jb (EK (MK.lit0I u22 sz2) rfl fun qo19 co19=>(Jg (Jc rfl) rfl (Jg (Jc rfl) rfl (Jg (JP u57 sz22 rfl rfl rfl hk1 hrs.sm) rfl ?_))))))))));obtain ⟨qe23,ce23,he23,le23,Fe23⟩:=hrs k hk1;refine Jg (JB rfl he23 pl22) rfl (J.appendHI u22 ze2 sz2 by2 rfl rfl Fe23 (by simp only [List.length_nil];omega) At.z (fun _ _=>At.z) rfl fun qo24 co24=>(Jg (Jc rfl) rfl (J.appendZ (m:=rs.length) u22 u3 ze2 sz2 by2 rfl rfl rfl rfl (by omega) (by simp only [List.length_append,List.length_nil];omega) At.z (fun _ _=>At.z) rfl fun qo26 co26=>(Jg (Jd rfl) rfl (Jf (Ja (hK9 (Je fun _ hK10 _=>(Jb (Jg (Jc rfl) rfl (Jg (Jc rfl) rfl (Jg (Jc rfl) rfl (Jg (JC rfl rfl (by first | exact nw _ (by omega) | rfl)) rfl (Jg (Es (i':=W+k) u22 sz2 rfl rfl (by omega) (by simp;omega) At.z) rfl (J.storeWI rfl rfl sz2 (by simp;omega) At.z ?_)))))))))))))));rw [uni_eq hrk];refine EA .z fun Ho19 hleo19 hAo19=>?_;replace hrs:=hrs.le hleo19;replace hS:=hS.le hleo19;replace Fe23:=Fe23.le hleo19;have hxo19:=own_ints hAo19;have hco19:=own_le hAo19;refine Jf (Ja (hK10 (Jb (Jg (Jc rfl) rfl (Jg (EN (v':=.slice qo26 (rw_ rs k++uniR rs.length k).length co26) (by simp) (Jc rfl)) rfl (EK (EM u57 ze22 sz22 rfl rfl) rfl fun qo34 co34=>(EF u57 ze22 sz22 by22 rfl rfl rfl rfl (by omega) .z At.z (fun _ _=>At.z) rfl fun qo35 co35=>?_)))))));have hS2:=hS.snoc hxo19 rfl (by simpa using hco19);refine Jg (Jd rfl) rfl (Jf (JF (Ja (hK8 (Jb (Jg (Jc rfl) rfl (Jg (JC rfl rfl (by first | exact nw _ (by omega) | rfl)) rfl (Jg (Jd rfl) rfl (Jf (Ja (JK .z ?_)))))))))));exact hAg0 (Ho19,qo35,co35,_,k+1) ⟨(hlk.trans hleo19),by rw [wdK_succ];exact hS2,by omega⟩ (by show rs.length - (k+1)<rs.length - k;omega) 27 rfl rfl ⟨rfl,⟨rfl,trivial⟩⟩ rfl rfl
 ·
  refine JH (Jl (Jl (JQ (Ja (hK4 (Je fun _ hK11 _=>(Jb (Jg (EN (v':=.slice q (wdS rs rs.length).length c) (by rw [show (wdS rs rs.length).length=rs.length from wdK_len _ _ _,show k=rs.length by omega]) (Jc rfl)) rfl ?_))))))))
  obtain rfl:k=rs.length:=by omega
  refine EA .z fun Ho13 hleo13 hAo13=>?_;replace hrs:=hrs.le hleo13;replace hS:=hS.le hleo13;have hxo13:=hS.rows (Le.refl _) hAo13;have hco13:=own_le hAo13;rw [show wdK rs rs.length rs.length=wdS rs rs.length from rfl] at hxo13;refine Jw fn78 rfl rfl fun w hH=>(l03Reduce_c (W:=W+rs.length) hxo13 (wdS_ok hW) (by rw [show (wdS rs rs.length).length=rs.length from wdK_len _ _ _];omega) (by omega) hH).mono ?_;rintro _ w ⟨Hf37,qf37,cf37,hlf37,hI37,hcc37,rfl,hH⟩;refine ⟨_,rfl,fun a hF=>JL hF hH ?_⟩;replace hrs:=hrs.le hlf37;replace hS:=hS.le hlf37;replace hxo13:=hxo13.le hlf37;have hRR:=(redS_ok (wdS_ok (n:=rs.length) hW)).1;have hRc:=hRR.count;refine Jg (Jd rfl) rfl (Jf (Ja (hK11 (Je fun _ hK12 _=>(Jb (EK (EP u57 sz22) rfl fun qo38 co38=>(Jg (Jd rfl) rfl (Jf (Ja (hK12 (Je fun _ hK13 _=>(Je fun _ hK14 _=>(Jb (Jg (Jd rfl) rfl (Jf (Ja (hK14 ?_)))))))))))))))));refine Jn (JE (σ:=HP × Option Addr × Nat × List Value × Nat) (fun ⟨Hm,q2,c2,vals2,m⟩=>[(10,.int .i64 (m:Int)),(9,.slice q2 (fzK (redS (wdS rs rs.length)) W m).length c2)]) (fun ⟨Hm,q2,c2,vals2,m⟩=>Hm) (fun ⟨Hm,q2,c2,vals2,m⟩=>own 22 1 q2 (fzK (redS (wdS rs rs.length)) W m).length c2 vals2::L) (fun ⟨Hm,q2,c2,vals2,m⟩=>Le Hf37 Hm∧SlF Hm vals2 (fzK (redS (wdS rs rs.length)) W m)∧m≤(redS (wdS rs rs.length)).length) (fun ⟨Hm,q2,c2,vals2,m⟩=>(redS (wdS rs rs.length)).length - m) (Hf37,qo38,co38, [],0) ⟨Le.refl _,SlF.nil _,by omega⟩ ⟨rfl,⟨rfl,trivial⟩⟩ rfl rfl ?_);rintro ⟨Hm,q2,c2,vals2,m⟩ ⟨hlm,hT,hm⟩ _ hAg1;replace hrs:=hrs.le hlm;replace hS:=hS.le hlm;replace hxo13:=hxo13.le hlm;replace hI37:=hI37.le hlm;refine Je fun _ hK15 _=>(Je fun _ hK16 _=>(Jb (Jg (Jc rfl) rfl (Jg (Jc rfl) rfl (Jg (Jm u57 rfl rfl) rfl (Jg (JR rfl rfl) rfl (Jf (Ja (hK16 (Jp rfl (fun h42=>?_) (fun h42=>?_)))))))))))
  ·
   have hm1:m<(redS (wdS rs rs.length)).length:=by omega
   have hrm:=hRR.led _ (rw_mem hm1);have hrl:=hrm.1.len;have hfl:=fzK_len (redS (wdS rs rs.length)) W m;have hld:=idxOf_ld (r:=rw_ (redS (wdS rs rs.length)) m) (by omega);have hzt:=zR_take (W:=W) (r:=rw_ (redS (wdS rs rs.length)) m) (by omega) (by omega);refine Jo (Ja (hK15 (Je fun _ hK17 _=>(Jn (Je fun _ hK18 _=>(Jb (Jg (Jc rfl) rfl (Jg (Jc rfl) rfl (Jg (JP u57 sz22 rfl rfl rfl hm1 hI37.sm) rfl ?_)))))))));obtain ⟨qe48,ce48,he48,le48,Fe48⟩:=hI37 m hm1;refine Jg (JB rfl he48 pl22) rfl (Jw fn108 rfl rfl fun w hH=>(l03First_c Fe48 (by omega) hH).mono ?_);rintro _ w ⟨rfl,hH⟩;refine ⟨_,rfl,fun a hF=>JL hF hH ?_⟩;refine Jg (Jc rfl) rfl (Jg (PR.geq rfl rfl) rfl (Jf (Ja (hK18 (Jp rfl (fun h51=>?_) (fun h51=>?_))))))
   ·
    have hzy:zR ((rw_ (redS (wdS rs rs.length)) m).take W)=true:=by rw [hzt];exact decide_eq_true (by omega)
    refine Jb (Jg (Jc rfl) rfl (EK (MK.lit0I u22 sz2) rfl fun qo53 co53=>(Jg (Jc rfl) rfl (Jg (Jc rfl) rfl (Jg (JP u57 sz22 rfl rfl rfl hm1 hI37.sm) rfl ?_)))));obtain ⟨qe57,ce57,he57,le57,Fe57⟩:=hI37 m hm1;refine Jg (JB rfl he57 pl22) rfl (Jg (Jc rfl) rfl (Jg (EN (v':=.slice (qe57.map fun a=>a.add W) ((rw_ (redS (wdS rs rs.length)) m).drop W).length (ce57 - W)) (by rw [List.length_drop]) (PR.sliceLH (i':=W) u22 sz2 rfl (Fe57.sm (i:=0) (by omega)) rfl rfl (by omega) (by omega))) rfl (J.appendHI u22 ze2 sz2 by2 rfl rfl (ints_drop Fe57 W) (by simp;omega) At.z (fun _ _=>At.z) rfl fun qo60 co60=>(EA .z fun Ho53 hleo53 hAo53=>?_))));replace hrs:=hrs.le hleo53;replace hS:=hS.le hleo53;replace hxo13:=hxo13.le hleo53;replace hI37:=hI37.le hleo53;replace hT:=hT.le hleo53;replace Fe48:=Fe48.le hleo53;replace Fe57:=Fe57.le hleo53;have hxo53:=own_ints hAo53;have hco53:=own_le hAo53;refine EK (EM u57 ze22 sz22 rfl rfl) rfl fun qo61 co61=>(EF u57 ze22 sz22 by22 rfl rfl rfl rfl (by omega) .z At.z (fun _ _=>At.z) rfl fun qo62 co62=>?_);have hT3:=hT.snoc hxo53 rfl hco53;refine Jg (Jd rfl) rfl (Jf (JF (Ja (hK17 (Jb (Jg (Jc rfl) rfl (Jg (JC rfl rfl (by first | exact nw _ (by omega) | rfl)) rfl (Jg (Jd rfl) rfl (Jf (Ja (JK .z ?_)))))))))));exact hAg1 (Ho53,qo62,co62,_,m+1) ⟨(hlm.trans hleo53),by rw [fzK_yes hm1 hzy];exact hT3,by omega⟩ (by show (redS (wdS rs rs.length)).length - (m+1)<(redS (wdS rs rs.length)).length - m;omega) 28 rfl rfl ⟨rfl,⟨(by rw [fzK_ylen hm1 hzy];rfl),trivial⟩⟩ rfl (by dsimp only;rw [fzK_ylen hm1 hzy])
   ·
    have hzn:zR ((rw_ (redS (wdS rs rs.length)) m).take W)=false:=by rw [hzt];exact decide_eq_false (by omega)
    refine Jo (JF (Ja (hK17 (Jb (Jg (Jc rfl) rfl (Jg (JC rfl rfl (by first | exact nw _ (by omega) | rfl)) rfl (Jg (Jd rfl) rfl (Jf (Ja ?_)))))))));exact hAg1 (Hm,q2,c2,vals2,m+1) ⟨hlm,by rw [fzK_no hm1 hzn];exact hT,by omega⟩ (by show (redS (wdS rs rs.length)).length - (m+1)<(redS (wdS rs rs.length)).length - m;omega) 16 rfl rfl ⟨rfl,⟨(by rw [fzK_no hm1 hzn];rfl),trivial⟩⟩ rfl (by dsimp only;rw [fzK_no hm1 hzn])
  ·
   refine JH (Jl (Jl (JQ (Ja (hK13 (Je fun _ hK19 _=>(Jb (Jg (EN (v':=.slice q2 (fzS (redS (wdS rs rs.length)) W).length c2) (by rw [← fzK_end,show m=(redS (wdS rs rs.length)).length by omega]) (Jc rfl)) rfl ?_))))))))
   have hT4:SlF Hm vals2 (fzS (redS (wdS rs rs.length)) W):=by
    rw [show m=(redS (wdS rs rs.length)).length by omega,fzK_end] at hT;exact hT
   have hfn:=fzK_len (redS (wdS rs rs.length)) W (redS (wdS rs rs.length)).length;rw [fzK_end] at hfn;refine EA .z fun Ho38 hleo38 hAo38=>?_;replace hrs:=hrs.le hleo38;replace hS:=hS.le hleo38;replace hxo13:=hxo13.le hleo38;replace hI37:=hI37.le hleo38;replace hT:=hT.le hleo38;replace hT4:=hT4.le hleo38;have hxo38:=hT4.rows (Le.refl _) hAo38;have hco38:=own_le hAo38;refine Jw fn78 rfl rfl fun w hH=>(l03Reduce_c (W:=rs.length) hxo38 (fzS_ok hRR.row) (by omega) (by omega) hH).mono ?_;rintro _ w ⟨Hf64,qf64,cf64,hlf64,hI64,hcc64,rfl,hH⟩;refine ⟨_,rfl,fun a hF=>JL hF hH ?_⟩;replace hrs:=hrs.le hlf64;replace hS:=hS.le hlf64;replace hxo13:=hxo13.le hlf64;replace hI37:=hI37.le hlf64;replace hT:=hT.le hlf64;replace hT4:=hT4.le hlf64;replace hxo38:=hxo38.le hlf64;refine Jg (Jd rfl) rfl (Jf (Ja (hK19 (Js (Jq rfl (Res.tmp rfl) fun w hH=>?_)))));exact ⟨_,_,_,(((((hlk.trans hleo13).trans hlf37).trans hlm).trans hleo38).trans hlf64),hI64,hcc64,rfl,hH⟩
theorem eg150:Tryz.prog.eqGuardType Tryz.prog.depth 150=false:=by kernel_rfl
def vec:List Term→List Pw→List Int
 | _, []=>[]
 | [],_::ps=>0::vec [] ps
 | t::ts,p::ps=>if t.mono=p then t.fac::vec ts ps else 0::vec (t::ts) ps
theorem vec_nil : ∀ps:List Pw,vec [] ps=List.replicate ps.length 0
 | []=>rfl
 | p::ps=>by rw [vec,vec_nil ps];rfl
theorem vec_end (f:List Term):vec f []=[]:=by cases f <;> rfl
theorem tm_drop {f:List Term} {j:Nat} (hj:j<f.length):f.drop j=tm f j::f.drop (j+1):=by
 rw [List.drop_eq_getElem_cons hj]
 simp [tm,List.getD_eq_getElem?_getD,List.getElem?_eq_getElem hj]
theorem rw_drop1 {ps:List Pw} {k:Nat} (hk:k<ps.length):ps.drop k=rw_ ps k::ps.drop (k+1):=by
 rw [List.drop_eq_getElem_cons hk]
 simp [rw_,List.getD_eq_getElem?_getD,List.getElem?_eq_getElem hk]
theorem vec_yes {f:List Term} {ps:List Pw} {j k:Nat} (hj:j<f.length) (hk:k<ps.length) (h:(tm f j).mono=rw_ ps k):vec (f.drop j) (ps.drop k)=(tm f j).fac::vec (f.drop (j+1)) (ps.drop (k+1)):=by
 rw [tm_drop hj,rw_drop1 hk,vec,if_pos h]
theorem vec_no {f:List Term} {ps:List Pw} {j k:Nat} (hj:j<f.length) (hk:k<ps.length) (h : ¬(tm f j).mono=rw_ ps k):vec (f.drop j) (ps.drop k)=0::vec (f.drop j) (ps.drop (k+1)):=by
 rw [tm_drop hj,rw_drop1 hk,vec,if_neg h]
theorem vec_out1 {f:List Term} {ps:List Pw} {A:List Int} {j k:Nat} (h:A++vec (f.drop j) (ps.drop k)=vec f ps) (hk : ¬k<ps.length):A++List.replicate (ps.length - k) 0=vec f ps:=by
 rw [← h,List.drop_of_length_le (show ps.length≤k by omega),vec_end,show ps.length - k=0 by omega]
 rfl
theorem vec_out2 {f:List Term} {ps:List Pw} {A:List Int} {j k:Nat} (h:A++vec (f.drop j) (ps.drop k)=vec f ps) (hj : ¬j<f.length):A++List.replicate (ps.length - k) 0=vec f ps:=by
 rw [← h,List.drop_of_length_le (show f.length≤j by omega),vec_nil,List.length_drop]
theorem rep_set {A:List Int} {n k:Nat} {v:Int} (hA:A.length=k) (hk:k<n):(A++List.replicate (n - k) 0).set k v=(A++[v])++List.replicate (n - (k+1)) 0:=by
 subst hA;rw [List.set_append,if_neg (by omega),Nat.sub_self,show n - A.length=(n - (A.length+1))+1 by omega,List.replicate_succ]
 simp
theorem rep_one {A:List Int} {n k:Nat} (hk:k<n):A++List.replicate (n - k) 0=(A++[0])++List.replicate (n - (k+1)) 0:=by
 rw [show n - k=(n - (k+1))+1 by omega,List.replicate_succ]
 simp
theorem vec_len : ∀(f:List Term) (ps:List Pw),(vec f ps).length=ps.length
 | f, []=>by rw [vec_end];rfl
 | [],p::ps=>by rw [vec_nil];simp
 | t::ts,p::ps=>by
  rw [vec]
  split
  ·simp [vec_len ts ps]
  ·simp [vec_len (t::ts) ps]
theorem vec_cf : ∀{ps:List Pw} {f:List Term},(toS f).Pairwise (fun x y=>before x.1 y.1=true)→ps.Pairwise (fun p q=>before p q=true)→(∀x∈toS f,x.1∈ps)→vec f ps=ps.map (cf (toS f))
 | [],f,_,_,_=>by rw [vec_end];rfl
 | p::ps, [],_,_,_=>by
  rw [vec_nil]
  simp only [toS,List.map_nil,List.map_cons,List.length_cons,List.replicate_succ,cf]
  congr 1
  exact map_zero ps
 | p::ps,t::ts,hf,hp,hm=>by
  have hf':=List.pairwise_cons.1 (show ((t.mono,t.fac)::toS ts).Pairwise _ from hf)
  have hp':=List.pairwise_cons.1 hp
  rw [vec]
  by_cases e:t.mono=p
  ·rw [if_pos e,List.map_cons]
   have hts : ∀x∈toS ts,x.1∈ps:=fun x hx=>by
    rcases List.mem_cons.1 (hm x (by show x∈(t.mono,t.fac)::toS ts;exact List.mem_cons_of_mem _ hx)) with h | h
    ·have:=before_ne (hf'.1 x hx)
     exact absurd (e.trans h.symm) this
    ·exact h
   rw [vec_cf hf'.2 hp'.2 hts]
   congr 1
   ·show t.fac=cf ((t.mono,t.fac)::toS ts) p
    simp only [cf]
    rw [if_pos e]
   ·refine List.map_congr_left fun q hq=>?_
    show cf (toS ts) q=cf ((t.mono,t.fac)::toS ts) q
    simp only [cf]
    rw [if_neg (fun h=>before_ne (hp'.1 q hq) (e.symm.trans h))]
  ·rw [if_neg e,List.map_cons]
   have ht:t.mono∈ps:=by
    rcases List.mem_cons.1 (hm (t.mono,t.fac) (by show _∈(t.mono,t.fac)::toS ts;simp)) with h | h
    ·exact absurd h e
    ·exact h
   have hne : ∀x∈toS (t::ts),x.1≠p:=fun x hx hh=>by
    rcases List.mem_cons.1 (show x∈(t.mono,t.fac)::toS ts from hx) with rfl | hx
    ·exact e hh
    ·have h1:=hf'.1 x hx
     rw [hh] at h1
     have h2:=before_as (hp'.1 _ ht)
     rw [h1] at h2
     cases h2
   rw [cf_none hne,vec_cf hf hp'.2 fun x hx=>(List.mem_cons.1 (hm x hx)).resolve_left (hne x hx)]
def fmK (ps:List Pw) (row:List Int) (k:Nat):List Term:=((List.range k).filter fun i=>decide (row.getD i 0≠0)).map fun i=>⟨rw_ ps i,row.getD i 0⟩
def fmS (ps:List Pw) (row:List Int):List Term:=fmK ps row ps.length
theorem fmK_yes {ps:List Pw} {row:List Int} {k:Nat} (h:row.getD k 0≠0):fmK ps row (k+1)=fmK ps row k++[⟨rw_ ps k,row.getD k 0⟩]:=by
 unfold fmK;rw [List.range_succ,List.filter_append,List.map_append];simp only [List.filter_cons,decide_eq_true h,if_true,List.filter_nil,List.map_cons,List.map_nil]
theorem fmK_no {ps:List Pw} {row:List Int} {k:Nat} (h : ¬row.getD k 0≠0):fmK ps row (k+1)=fmK ps row k:=by
 unfold fmK;rw [List.range_succ,List.filter_append,List.map_append];simp only [List.filter_cons,decide_eq_false h,Bool.false_eq_true,if_false,List.filter_nil,List.map_nil,List.append_nil]
theorem fmK_len (ps:List Pw) (row:List Int) (k:Nat):(fmK ps row k).length≤k:=by
 unfold fmK;rw [List.length_map];exact Nat.le_trans (List.length_filter_le _ _) (by simp)
theorem fmK_wf {ps:List Pw} {row:List Int} (hp : ∀p∈ps,Mono p) (hr : ∀j,0≤row.getD j 0∧row.getD j 0≤10006) {k:Nat} (hk:k≤ps.length):Wfs (fmK ps row k):=fun t ht=>by
 obtain ⟨i,hi,rfl⟩:=List.mem_map.1 ht
 have hi':=List.mem_range.1 (List.mem_filter.1 hi).1
 have:=hr i
 exact Term.wf.of (hp _ (rw_mem (by omega))) (show _≤row.getD i 0∧row.getD i 0≤_ by omega)
theorem tot_filter : ∀(l:Sm) (p:Pw),tot_ (l.filter fun x=>decide (x.2≠0)) p=tot_ l p
 | [],_=>rfl
 | x::l,p=>by
  have ih:=tot_filter l p
  by_cases h:x.2≠0
  ·rw [List.filter_cons_of_pos (by simpa using h)]
   simp only [tot_]
   rw [ih]
  ·rw [List.filter_cons_of_neg (by simpa using h)]
   simp only [tot_]
   rw [ih]
   have h0:x.2=0:=Decidable.not_not.1 h
   rw [h0]
   split <;> omega
theorem acc_ord {M:Int} {l:Sm} (hs:l.Pairwise fun x y=>before x.1 y.1=true) (hk : ∀x∈l,Pok M x.1) (hv : ∀x∈l,0≤x.2∧x.2≤10006):acc [] l=l.filter fun x=>decide (x.2≠0):=by
 have h2:Sok M (l.filter fun x=>decide (x.2≠0)):=⟨hs.filter _,fun x hx=>hk x (List.mem_filter.1 hx).1,fun x hx=>by
  have h1:=List.mem_filter.1 hx;have h3:=hv x h1.1
  have h4:x.2≠0:=by simpa using h1.2
  omega⟩
 refine Sok.ext (Sok.nil.acc hk) h2 fun p=>?_;rw [cf_acc p Sok.nil hk,← acc_self h2,cf_acc p Sok.nil h2.key,tot_filter]
theorem rowK_srt {ps:List Pw} {row:List Int} (hp:ps.Pairwise fun p q=>before p q=true) {k:Nat} (hk:k≤ps.length):(rowK ps row k).Pairwise fun x y=>before x.1 y.1=true:=by
 unfold rowK;rw [List.pairwise_map];refine List.pairwise_lt_range.imp_of_mem fun {a b} ha hb hab=>?_;have ha':=List.mem_range.1 ha;have hb':=List.mem_range.1 hb;have h:=List.pairwise_iff_getElem.1 hp a b (by omega) (by omega) hab
 simpa [rw_,List.getD_eq_getElem?_getD,List.getElem?_eq_getElem (show a<ps.length by omega),List.getElem?_eq_getElem (show b<ps.length by omega)] using h
theorem fmS_sum {M:Int} {ps:List Pw} {row:List Int} (hp:ps.Pairwise fun p q=>before p q=true) (hk : ∀p∈ps,Pok M p) (hr : ∀j,0≤row.getD j 0∧row.getD j 0≤10006) (hl:row.length=ps.length):fmS ps row=ofS (sumR ps row):=by
 unfold sumR
 rw [acc_ord (rowK_srt hp (by omega)) (fun x hx=>by
  obtain ⟨i,hi,rfl⟩:=List.mem_map.1 hx
  exact hk _ (rw_mem (by have:=List.mem_range.1 hi;omega))) (fun x hx=>by
  obtain ⟨i,hi,rfl⟩:=List.mem_map.1 hx
  exact hr i)]
 unfold rowK fmS fmK ofS;rw [List.filter_map,List.map_map,hl]
 rfl
theorem l03Vector_c {B:World} {H0 H:HP} {L:List SA} {w:World} {qf:Option Addr} {cf:Nat} {f:List Term} {qps:Option Addr} {cps:Nat} {ps:List (List Int)} (hf:Terms H qf f) (hps:Monos H qps ps) (hn:ps.length≤1000000) (hfl:f.length≤1000000) (hpm : ∀p∈ps,Mono p) (hH:Hp B H0 H L w):Calls Tryz.prog 110 [.agg [.slice qf f.length cf].toArray,.slice qps ps.length cps].toArray w fun e w'=>∃q c,e = .returned (.slice q (vec f ps).length c)∧Hp B H0 H (own 2 1 q (vec f ps).length c (intsC (vec f ps))::L) w':=by
 refine Jz Tryz.func110 rfl 47 rfl rfl [(0,.agg [.slice qf f.length cf].toArray),(1,.slice qps ps.length cps)] rfl hH ?_;clear hH;refine Je fun _ hK1 _=>(Jb (Ee rfl rfl rfl fun g2=>(Jg (Jd rfl) rfl (Jf (Ja (hK1 (Je fun _ hK2 _=>(Jb (Jg (Jc rfl) rfl (Jg (Jm u88 rfl rfl) rfl (EK (MK.makeI (m:=ps.length) u22 ze2 sz2 by2 rfl rfl rfl rfl (by omega)) rfl fun qo10 co10=>(Jg (EN (v':=.slice qo10 ps.length co10) (by rw [List.length_replicate]) (Jd rfl)) rfl (Jg (Jd rfl) rfl (Jf (Ja (hK2 ?_))))))))))))))));refine Je fun _ hK3 _=>(Je fun _ hK4 _=>(Jb (Jg (Jd rfl) rfl (Jf (Ja (hK4 (Jn (JE (σ:=List Int × Nat × Nat) (fun ⟨A,k,j⟩=>[(7,.int .i64 (k:Int)),(6,.int .i64 (j:Int))]) (fun ⟨A,k,j⟩=>H) (fun ⟨A,k,j⟩=>own 2 1 qo10 ps.length co10 (intsC (A++List.replicate (ps.length - k) 0))::obj g2 (.cells [.slice qf f.length cf].toArray 39 (0,0))::L) (fun ⟨A,k,j⟩=>A.length=k∧k≤ps.length∧j≤f.length∧A++vec (f.drop j) (ps.drop k)=vec f ps) (fun ⟨A,k,j⟩=>ps.length - k) ([],0,0) ⟨rfl,by omega,by omega,rfl⟩ ⟨rfl,⟨rfl,trivial⟩⟩ rfl (by rw [List.length_replicate];rfl) ?_))))))));rintro ⟨A,k,j⟩ ⟨hA,hk,hj,hV⟩ _ hAg0;refine Je fun _ hK5 _=>(Je fun _ hK6 _=>(Jb (Jg (Jc rfl) rfl (Jg (Jc rfl) rfl (Jg (Jm u88 rfl rfl) rfl (Jg (JR rfl rfl) rfl (Jg (Jc rfl) rfl (Ei (jd:=15) rfl (fun hg15=>?_) (fun hg15=>?_)))))))))
 ·
  try have hg15p:=of_decide_eq_true hg15
  refine JX (Jc rfl) rfl rfl rfl hg15 (JX (Ju u39 rfl sz37 rfl) rfl rfl rfl hg15 (JX (Jy rfl (.s .z) rfl pl37) rfl rfl rfl hg15 (JX (Jm u37 rfl rfl) rfl rfl rfl hg15 (JX (JR rfl rfl) rfl rfl rfl hg15 (Jg (JZ rfl hg15 rfl) rfl (Jf (Ja (hK6 (Jp rfl (fun h21=>?_) (fun h21=>?_))))))))))
  ·
   have hk1:k<ps.length:=by omega
   have hj1:j<f.length:=by omega
   refine Jo (Ja (hK5 (Je fun _ hK7 _=>(Jn (Je fun _ hK8 _=>(Eu foll0 (by kernel_rfl) (JD (Ju u39 rfl sz37 rfl) rfl (JD (Jy rfl (.s .z) rfl pl37) rfl (JD (Jc rfl) rfl (JD (Ep u37 sz152 rfl rfl rfl hj1 hf.sm) rfl (JD (EB u152 rfl sz150 rfl (hf.sm (i:=j) hj1)) rfl (JD (JO rfl (hf.mono hj1) (hf.sm (i:=j) hj1) (by rw [bytesC_length,(hf.wf _ hj1).mono.len];exact ag150)) rfl (JD (Jc rfl) rfl (JD (Jc rfl) rfl (JD (Ep u88 sz150 rfl rfl rfl hk1 hps.sm) rfl ?_)))))))))))))));refine JD (JO rfl (hps.cell _ hk1) (hps.sm (i:=k) hk1) (by rw [bytesC_length,hps.len _ hk1];exact ag150)) rfl (JD (PR.eqlM u150 u5 sz5 eg150 rfl rfl (hf.wf j hj1).mono.len (rw_all hpm hk1).len) rfl (Ef (Ja (hK8 (Jp rfl (fun h34=>?_) (fun h34=>?_))))))
   ·
    refine Je fun _ hK9 _=>(Jb (Jg (Jc rfl) rfl (Jg (Jc rfl) rfl (Jg (Ju u39 rfl sz37 rfl) rfl (Jg (Jy rfl (.s .z) rfl pl37) rfl (Jg (Jc rfl) rfl (Jg (Ep u37 sz152 rfl rfl rfl hj1 hf.sm) rfl (Jg (EB u152 rfl sz2 rfl (hf.sm (i:=j) hj1)) rfl (Jg (JB rfl (hf.fac hj1) pl2) rfl (Jg (Es u22 sz2 rfl rfl rfl hk1 At.z) rfl (J.storeWI rfl rfl sz2 hk1 At.z (Jf (Ja (hK9 (Jb ?_)))))))))))))));refine Jg (Jc rfl) rfl (Jg (JC rfl rfl (by first | exact nw _ (by omega) | rfl)) rfl (Jg (Jd rfl) rfl (Jf (JF (Ja (hK7 (Jb (Jg (Jc rfl) rfl (Jg (JC rfl rfl (by first | exact nw _ (by omega) | rfl)) rfl (Jg (Jd rfl) rfl (Jf (Ja ?_))))))))))));exact hAg0 (A++[(tm f j).fac],k+1,j+1) ⟨by simp [hA],by omega,by omega,by rw [← hV,vec_yes hj1 hk1 h34];simp⟩ (by show ps.length - (k+1)<ps.length - k;omega) 39 rfl rfl ⟨rfl,⟨rfl,trivial⟩⟩ rfl (by dsimp only;rw [rep_set hA hk1])
   ·
    refine Jo (JF (Ja (hK7 (Jb (Jg (Jc rfl) rfl (Jg (JC rfl rfl (by first | exact nw _ (by omega) | rfl)) rfl (Jg (Jd rfl) rfl (Jf (Ja ?_)))))))));exact hAg0 (A++[0],k+1,j) ⟨by simp [hA],by omega,by omega,by rw [← hV,vec_no hj1 hk1 h34];simp⟩ (by show ps.length - (k+1)<ps.length - k;omega) 27 rfl rfl ⟨rfl,⟨rfl,trivial⟩⟩ rfl (by dsimp only;rw [rep_one hk1])
  ·
   refine JH (Jl (Jl (JQ (Ja (hK3 (Je fun _ hK10 _=>(Jb (Jg (Jc rfl) rfl (Jg (Jd rfl) rfl (Jf (Ja (hK10 (Js (Jq rfl (Res.tmp rfl) fun w hH=>?_))))))))))))));replace hH:=hH.sublist (.cons_cons _ (.cons _ (List.Sublist.refl _)));rw [vec_out2 hV (by omega)] at hH;exact ⟨_,_,by rw [vec_len],by rw [vec_len];exact hH⟩
 ·
  try have hg15p:=of_decide_eq_false hg15
  refine JU rfl rfl rfl hg15 (JU rfl rfl rfl hg15 (JU rfl rfl rfl hg15 (JU rfl rfl rfl hg15 (JU rfl rfl rfl hg15 (Jg (JW rfl hg15 rfl) rfl (Jf (Ja (hK6 (Et rfl (JH (Jl (Jl (JQ (Ja (hK3 (Je fun _ hK11 _=>?_))))))))))))))));refine Jb (Jg (Jc rfl) rfl (Jg (Jd rfl) rfl (Jf (Ja (hK11 (Js (Jq rfl (Res.tmp rfl) fun w hH=>?_)))))));replace hH:=hH.sublist (.cons_cons _ (.cons _ (List.Sublist.refl _)));rw [vec_out1 hV (by omega)] at hH;exact ⟨_,_,by rw [vec_len],by rw [vec_len];exact hH⟩
theorem l03Form_c {B:World} {H0 H:HP} {L:List SA} {w:World} {qrow:Option Addr} {crow:Nat} {row:List Int} {qps:Option Addr} {cps:Nat} {ps:List (List Int)} (hrow:Ints H qrow row) (hps:Monos H qps ps) (hl:row.length=ps.length) (hn:ps.length≤1000000) (hpm : ∀p∈ps,Mono p) (hr : ∀j,0≤row.getD j 0∧row.getD j 0≤10006) (hH:Hp B H0 H L w):Calls Tryz.prog 172 [.slice qrow row.length crow,.slice qps ps.length cps].toArray w fun e w'=>∃q c,e = .returned (.agg [.slice q (fmS ps row).length c].toArray)∧Hp B H0 H (own 152 9 q (fmS ps row).length c (tsC (fmS ps row))::L) w':=by
 refine Jz Tryz.func172 rfl 34 rfl rfl [(0,.slice qrow row.length crow),(1,.slice qps ps.length cps)] rfl hH ?_;clear hH;have hw9 : ∀k,k≤ps.length→Wfs (fmK ps row k):=fun k hk=>fmK_wf hpm hr hk;refine Je fun _ hK1 _=>(Jb (JV ze39 rfl fun g4=>(Jf (Ja (hK1 (Je fun _ hK2 _=>(Jb (J.own0 152 9 (Jg (Ew bz39) rfl (JV ze39 rfl fun g5=>(JJ rfl rfl (by first | exact bytesC_one _ | exact intsC_one _ | exact Term.c_one _ | simp [Value.oneCell']) (by simpa [*] using sz39) (by simp [*]) At.z (Jf (Ja (hK2 (Je fun _ hK3 _=>(Je fun _ hK4 _=>?_))))))))))))))));refine Jb (Jg (Jd rfl) rfl (Jf (Ja (hK4 (Jn (JE (σ:=Option Addr × Nat × Nat) (fun ⟨q,c,k⟩=>[(6,.int .i64 (k:Int))]) (fun ⟨q,c,k⟩=>H) (fun ⟨q,c,k⟩=>obj g5 (.cells [.slice q (fmK ps row k).length c].toArray 39 (0,0))::own 152 9 q (fmK ps row k).length c (tsC (fmK ps row k))::obj g4 (.cells [.slice none 0 0].toArray 39 (0,0))::L) (fun ⟨q,c,k⟩=>k≤ps.length) (fun ⟨q,c,k⟩=>ps.length - k) (none,0,0) (by show 0≤ps.length;omega) ⟨rfl,trivial⟩ rfl rfl ?_))))));rintro ⟨q,c,k⟩ hk _ hAg0;have wfO:=hw9 k hk;have hfl:=fmK_len ps row k;refine Je fun _ hK5 _=>(Je fun _ hK6 _=>(Jb (Jg (Jc rfl) rfl (Jg (Jc rfl) rfl (Jg (Jm u88 rfl rfl) rfl (Jg (JR rfl rfl) rfl (Jf (Ja (hK6 (Jp rfl (fun h11=>?_) (fun h11=>?_)))))))))))
 ·
  have hk1:k<ps.length:=by omega
  have hrk:=hr k;refine Jo (Ja (hK5 (Je fun _ hK7 _=>(Jn (Je fun _ hK8 _=>(Jb (Jg (Jc rfl) rfl (Jg (Jc rfl) rfl (Jg (JP u22 sz2 rfl rfl rfl (by omega) hrow.sm) rfl (Jg (JB rfl (hrow _ (by omega)) pl2) rfl (Jg (El rfl rfl) rfl (Jf (Ja (hK8 (Jp rfl (fun h18=>?_) (fun h18=>?_))))))))))))))))
  ·
   refine Eo [[], [0], [], [], [2,3], [4], [], [], [6,7], [8], [5,9], [10]] (by kernel_rfl) (JA (fun gh=>Ju u39 rfl sz37 rfl) (JA (fun gh=>Jy rfl At.z rfl pl37) (JA (fun gh=>Jc rfl) (JA (fun gh=>Jc rfl) (JA (fun gh=>Ep u88 sz150 rfl rfl rfl hk1 hps.sm) (JA (fun gh=>JO rfl (hps.cell _ hk1) (hps.sm (i:=k) hk1) (by rw [bytesC_length,hps.len _ hk1];exact ag150)) (JA (fun gh=>Jc rfl) (JA (fun gh=>Jc rfl) (JA (fun gh=>JP u22 sz2 rfl rfl rfl (by omega) hrow.sm) (JA (fun gh=>JB rfl (hrow _ (by omega)) pl2) (JA (fun gh=>EX rfl rfl (fun w=>bt152 _ _ (rw_all hpm hk1).len w)) (HJ.mk (fun gh=>MK.lit1T u37 ze152 sz152 (Term.wf.of (rw_all hpm hk1) (by omega)) rfl) (Eb 12 3 foll0 (by kernel_rfl) rfl rfl fun gh=>(En (us':=(19,_)::(20,_)::(21,_)::(22,_)::(23,_)::(24,_)::(25,_)::(26,_)::(27,_)::(28,_)::(29,_)::(30,_)::_) (L':=_::_) rfl rfl ?_))))))))))))));refine J.appendOT u37 ze152 sz152 by152 rfl rfl (by simp only [List.length_cons,List.length_nil];omega) .z (.s .z) (fun _ _=>(.s .z)) rfl fun qo31 co31=>(Jg (Ju u39 rfl sz37 rfl) rfl (Ez rfl rfl rfl rfl sz37 (by simp [*]) (.s .z) (Jf (Ec (Ef (JF (Ja (hK7 (Jb (Jg (Jc rfl) rfl (Jg (JC rfl rfl (by first | exact nw _ (by omega) | rfl)) rfl (Jg (Jd rfl) rfl (Jf (Ja (JK .z ?_)))))))))))))));exact hAg0 (qo31,co31,k+1) (by show k+1≤ps.length;omega) (by show ps.length - (k+1)<ps.length - k;omega) 27 rfl rfl ⟨rfl,trivial⟩ rfl (by dsimp only;rw [fmK_yes h18];rfl)
  ·
   refine Jo (JF (Ja (hK7 (Jb (Jg (Jc rfl) rfl (Jg (JC rfl rfl (by first | exact nw _ (by omega) | rfl)) rfl (Jg (Jd rfl) rfl (Jf (Ja ?_)))))))));exact hAg0 (q,c,k+1) (by show k+1≤ps.length;omega) (by show ps.length - (k+1)<ps.length - k;omega) 13 rfl rfl ⟨rfl,trivial⟩ rfl (by dsimp only;rw [fmK_no h18])
 ·
  refine JH (Jl (Jl (JQ (Ja (hK3 (Je fun _ hK9 _=>(Jb (Jg (Jx rfl At.z (by simpa [*] using ag39)) rfl (JJ rfl rfl (by first | exact bytesC_one _ | exact intsC_one _ | exact Term.c_one _ | simp [Value.oneCell']) (by simpa [*] using sz39) (by simp [*]) (.s (.s .z)) (Jf (Ja (hK9 (Js (Jq rfl (Res.agg rfl (.s (.s .z)) (by simpa [*] using ag39)) fun w hH=>?_))))))))))))));replace hH:=hH.sublist (.cons _ (.cons_cons _ (.cons _ (List.Sublist.refl _))))
  obtain rfl:k=ps.length:=by omega
  exact ⟨_,_,rfl,hH⟩
theorem fn110:Fn Tryz.prog 110:=⟨_,Tryz.func110,by kernel_rfl,rfl⟩
theorem mon_mn {ds:List Int} {n:Int} {m:Nat} (h8:ds.length≤8) : ∀p∈(monS ds n).take m,Mono p:=fun p hp=>(mon_pok h8 (List.mem_of_mem_take hp)).mn (by omega)
theorem monL_mn {ds:List Int} {n:Int} (h8:ds.length≤8) : ∀p∈monL ds n,Mono p:=mon_mn h8
theorem monT_8 {ds:List Int} {n:Int} (h8:ds.length≤8) : ∀p∈monT ds n,p.length=8:=mon_8 h8
theorem mon_srt (ds:List Int) (n:Int) (h8:ds.length≤8):(monS ds n).Pairwise fun p q=>before p q=true:=enumF_srt (by omega) rfl
theorem monL_srt (ds:List Int) (n:Int) (h8:ds.length≤8):(monL ds n).Pairwise fun p q=>before p q=true:=(mon_srt ds n h8).sublist (List.take_sublist _ _)
theorem monT_L {ds:List Int} {n:Int} (h:fitB ds n=true):monT ds n=monL ds n:=by rw [monT_eq h,monL_fit h]
theorem mon_one {p:Pw}:toS (ofS (addS [] p 1))=[(p,1)]:=by rw [toS_ofS,addS_one]
theorem dS_one {ds:List Int} {fs:List (List Term)} (hA:AlgOk ds fs) (h8:ds.length≤8) (hd : ∀j,j<ds.length→1≤ds.getD j 0∧ds.getD j 0≤12) {n:Int} {p:Pw} (hp:p∈monS ds n):Sok 60 (dS ds fs [(p,1)]):=
 dS_sok (ds:=ds) (Sok.one (k:=1) (mon_pok h8 hp) (by omega)) hA.fok (mon_occ h8 hp hd hA.hl)
theorem dS_one_len {ds:List Int} {fs:List (List Term)} (hA:AlgOk ds fs) (h8:ds.length≤8) (hd : ∀j,j<ds.length→1≤ds.getD j 0∧ds.getD j 0≤12) {n:Int} {p:Pw} (hp:p∈monS ds n):(dS ds fs [(p,1)]).length≤80000:=by
 have h1:=dAll_len (ds:=ds) hA.len (mon_occ h8 hp hd hA.hl);have h2:=acc_len (dAll ds fs [(p,1)]) [];simp only [List.length_cons,List.length_nil] at h1 h2;unfold dS
 omega
theorem dS_vec {ds:List Int} {fs:List (List Term)} {n:Int} (hA:AlgOk ds fs) (h8:ds.length≤8) (hd : ∀j,j<ds.length→1≤ds.getD j 0∧ds.getD j 0≤12) (hom:Hom1 ds fs n) {k:Nat} (hk:k<(monL ds n).length):vec (ofS (dS ds fs [(rw_ (monL ds n) k,1)])) (monL ds (n+1))=(monL ds (n+1)).map (cf (dS ds fs [(rw_ (monL ds n) k,1)])):=by
 have h:=vec_cf (ps:=monL ds (n+1)) (f:=ofS (dS ds fs [(rw_ (monL ds n) k,1)])) (by rw [toS_ofS];exact (dS_one hA h8 hd (monL_mem hk)).srt) (monL_srt ds (n+1) h8) (by rw [toS_ofS];exact hom _ (rw_mem hk))
 rwa [toS_ofS] at h
theorem l03Matrix_c {B:World} {H0 H:HP} {L:List SA} {w:World} {qad qaf:Option Addr} {cad caf:Nat} {ad:List Int} {af:List (List Term)} {n:Int} (had:Ints H qad ad) (haf:Forms H qaf af) (hd : ∀j,j<ad.length→1≤ad.getD j 0∧ad.getD j 0≤12) (h8:ad.length≤8) (hn : -1≤n∧n≤100000) (hA:AlgOk ad af) (hfit:fit2 ad n) (hom:Hom1 ad af n) (hH:Hp B H0 H L w):Calls Tryz.prog 120 [.agg [.slice qad ad.length cad,.slice qaf af.length caf].toArray,.int .i64 n].toArray w fun e w'=>∃H' q c,Le H H' ∧RowsR H' q (matS ad af n)∧(matS ad af n).length≤c∧e = .returned (.slice q (matS ad af n).length c)∧Hp B H0 H' L w':=by
 refine Jz Tryz.func120 rfl 38 rfl rfl [(0,.agg [.slice qad ad.length cad,.slice qaf af.length caf].toArray),(1,.int .i64 n)] rfl hH ?_;have hw0:=hH.old;have hw1:=hH.le;have hmT0:=monT_L hfit.1;have hmT1:=monT_L hfit.2;have hml:=monL_len ad n;have hml1:=monL_len ad (n+1);clear hH;refine Je fun _ hK1 _=>(Jb (Ee rfl rfl rfl fun g2=>(Jg (Jd rfl) rfl (Jf (Ja (hK1 (Je fun _ hK2 _=>(Ej (Rs:=[_]) 13 [[], [0], [], [0,1,2], [], [4], [], [6], [0,1,2,3,4,5,6,7], [], [0,1,2,3,4,5,6,7,8], [0,1,2,3,4,5,6,7,8,10], [0,1,2,3,4,5,6,7,8,9,10,11]] [[], [13], [], [], [], [13], [], [], [], [], [], [], []] [[], [], [], [], [], [], [], [], [], [], [], [], []] rfl rfl (by kernel_rfl) ?_))))))));apply Jj 1 rfl
 iterate 3 focus (intros;(conv=>lhs;simp only [Jh,Jt,JN,Jv,JI,eq_self,reduceEqDiff,reduceIte,reduceSub,reduceAdd,JxA,JxB]);all_goals rfl)
 ·
  intro gh X K zq zc zq2 zc2 zb zv hK;refine Jg (Ju u35 rfl sz22 rfl) rfl (Ji ?_);exact hK zq zc zq2 zc2 zb zv
 ·
  intro gh gh' h
  rfl
 apply Jj 2 rfl
 iterate 3 focus (intros;(conv=>lhs;simp only [Jh,Jt,JN,Jv,JI,eq_self,reduceEqDiff,reduceIte,reduceSub,reduceAdd,JxA,JxB]);all_goals rfl)
 ·
  intro gh X K zq zc zq2 zc2 zb zv hK;refine Jg (Jy rfl At.z rfl pl22) rfl (Ji ?_);exact hK zq zc zq2 zc2 zb zv
 ·
  intro gh gh' h
  rfl
 apply Jj 3 rfl
 iterate 3 focus (intros;(conv=>lhs;simp only [Jh,Jt,JN,Jv,JI,eq_self,reduceEqDiff,reduceIte,reduceSub,reduceAdd,JxA,JxB]);all_goals rfl)
 ·
  intro gh X K zq zc zq2 zc2 zb zv hK;refine Jg (Jc rfl) rfl (Ji ?_);exact hK zq zc zq2 zc2 zb zv
 ·
  intro gh gh' h
  rfl
 apply Ea 4 rfl
 iterate 3 focus (intros;(conv=>lhs;simp only [Jh,Jt,JN,Jv,JI,eq_self,reduceEqDiff,reduceIte,reduceSub,reduceAdd,JxA,JxB]);all_goals rfl)
 ·
  intro gh X K zq zc zq2 zc2 zb zv hK;refine Jw fn66 rfl rfl fun w hH=>(l01Monomials_c had hd h8 (by omega) hH).mono ?_;rintro _ w ⟨qo12,co12,rfl,hH⟩;refine ⟨_,rfl,fun a hF=>JL hF hH ?_⟩;refine Ji ?_;exact hK qo12 co12 zq2 zc2 zb zv
 ·
  intro gh gh' h;refine ⟨?_,?_⟩ <;> rfl
 apply Jj 5 rfl
 iterate 3 focus (intros;(conv=>lhs;simp only [Jh,Jt,JN,Jv,JI,eq_self,reduceEqDiff,reduceIte,reduceSub,reduceAdd,JxA,JxB]);all_goals rfl)
 ·
  intro gh X K zq zc zq2 zc2 zb zv hK;refine Jg (Ju u35 rfl sz22 rfl) rfl (Ji ?_);exact hK zq zc zq2 zc2 zb zv
 ·
  intro gh gh' h
  rfl
 apply Jj 6 rfl
 iterate 3 focus (intros;(conv=>lhs;simp only [Jh,Jt,JN,Jv,JI,eq_self,reduceEqDiff,reduceIte,reduceSub,reduceAdd,JxA,JxB]);all_goals rfl)
 ·
  intro gh X K zq zc zq2 zc2 zb zv hK;refine Jg (Jy rfl At.z rfl pl22) rfl (Ji ?_);exact hK zq zc zq2 zc2 zb zv
 ·
  intro gh gh' h
  rfl
 apply Jj 7 rfl
 iterate 3 focus (intros;(conv=>lhs;simp only [Jh,Jt,JN,Jv,JI,eq_self,reduceEqDiff,reduceIte,reduceSub,reduceAdd,JxA,JxB]);all_goals rfl)
 ·
  intro gh X K zq zc zq2 zc2 zb zv hK;refine Jg (Jc rfl) rfl (Ji ?_);exact hK zq zc zq2 zc2 zb zv
 ·
  intro gh gh' h
  rfl
 apply Jj 8 rfl
 iterate 3 focus (intros;(conv=>lhs;simp only [Jh,Jt,JN,Jv,JI,eq_self,reduceEqDiff,reduceIte,reduceSub,reduceAdd,JxA,JxB]);all_goals rfl)
 ·
  intro gh X K zq zc zq2 zc2 zb zv hK;refine Jg (JC rfl rfl (by first | exact nw _ (by omega) | rfl)) rfl (Ji ?_);exact hK zq zc zq2 zc2 zb zv
 ·
  intro gh gh' h
  rfl
 apply Ea 9 rfl
 iterate 3 focus (intros;(conv=>lhs;simp only [Jh,Jt,JN,Jv,JI,eq_self,reduceEqDiff,reduceIte,reduceSub,reduceAdd,JxA,JxB]);all_goals rfl)
 ·
  intro gh X K zq zc zq2 zc2 zb zv hK;refine Jw fn66 rfl rfl fun w hH=>(l01Monomials_c had hd h8 (by omega) hH).mono ?_;rintro _ w ⟨qo17,co17,rfl,hH⟩;refine ⟨_,rfl,fun a hF=>JL hF hH ?_⟩;refine Ji ?_;exact hK qo17 co17 zq2 zc2 zb zv
 ·
  intro gh gh' h;refine ⟨?_,?_⟩ <;> (first | simp only [h 3 rfl] | rfl)
 apply Ea 10 rfl
 iterate 3 focus (intros;(conv=>lhs;simp only [Jh,Jt,JN,Jv,JI,eq_self,reduceEqDiff,reduceIte,reduceSub,reduceAdd,JxA,JxB]);all_goals rfl)
 ·
  intro gh X K zq zc zq2 zc2 zb zv hK;refine EK (EP u57 sz22) rfl fun qo18 co18=>(Ji ?_);exact hK qo18 co18 zq2 zc2 zb zv
 ·
  intro gh gh' h;refine ⟨?_,?_⟩ <;> rfl
 apply Jj 11 rfl
 iterate 3 focus (intros;(conv=>lhs;simp only [Jh,Jt,JN,Jv,JI,eq_self,reduceEqDiff,reduceIte,reduceSub,reduceAdd,JxA,JxB]);all_goals rfl)
 ·
  intro gh X K zq zc zq2 zc2 zb zv hK;refine Jg (Jd rfl) rfl (Ji ?_);exact hK zq zc zq2 zc2 zb zv
 ·
  intro gh gh' h
  first | simp only [h 3 rfl,h 8 rfl] | rfl
 apply Jj 12 rfl
 iterate 3 focus (intros;(conv=>lhs;simp only [Jh,Jt,JN,Jv,JI,eq_self,reduceEqDiff,reduceIte,reduceSub,reduceAdd,JxA,JxB]);all_goals rfl)
 ·
  intro gh X K zq zc zq2 zc2 zb zv hK;refine Jg (Jd rfl) rfl (Ji ?_);exact hK zq zc zq2 zc2 zb zv
 ·
  intro gh gh' h
  first | simp only [h 3 rfl,h 8 rfl] | rfl
 apply Jj 13 rfl
 iterate 3 focus (intros;(conv=>lhs;simp only [Jh,Jt,JN,Jv,JI,eq_self,reduceEqDiff,reduceIte,reduceSub,reduceAdd,JxA,JxB]);all_goals rfl)
 ·
  intro gh X K zq zc zq2 zc2 zb zv hK;refine Jg (Jd rfl) rfl (Ji ?_);exact hK zq zc zq2 zc2 zb zv
 ·
  intro gh gh' h
  first | simp only [h 3 rfl,h 8 rfl,h 9 rfl] | rfl
 apply Ek [0,1,2,3,4,5,6,7,8,9,10,11,12] [0,1,2,3,4,5,6,7,8,9,10,11,12,13] foll0 rfl rfl rfl (by rfl)
 iterate 2 focus (intros;(conv=>lhs;simp only [Jh,Jt,JN,Jv,JI,eq_self,reduceEqDiff,reduceIte,reduceSub,reduceAdd,JxA,JxB]);all_goals rfl)
 intro gh;generalize (gh 3).c=co12;generalize (gh 3).q=qo12;generalize (gh 8).c=co17;generalize (gh 8).q=qo17;generalize (gh 9).c=co18;generalize (gh 9).q=qo18;clear gh;refine EV .z fun Ho12 hleo12 hAo12=>?_;replace had:=had.le hleo12;replace haf:=haf.le hleo12;have hxo12:=own_monos (monT_8 h8) hAo12;have hco12:=own_le hAo12;refine EV .z fun Ho17 hleo17 hAo17=>?_;replace had:=had.le hleo17;replace haf:=haf.le hleo17;replace hxo12:=hxo12.le hleo17;have hxo17:=own_monos (monT_8 h8) hAo17;have hco17:=own_le hAo17;rw [hmT0] at hxo12;rw [hmT1] at hxo17;rw [hmT0,hmT1];have hmm:=monL_mn (n:=n) h8;have hmm1:=monL_mn (n:=n+1) h8;refine Ja (hK2 (Je fun _ hK3 _=>(Je fun _ hK4 _=>(Jb (Jg (Jd rfl) rfl (Jf (Ja (hK4 (Jn (JE (σ:=HP × Option Addr × Nat × List Value × Nat) (fun ⟨Hk,q,c,vals,k⟩=>[(8,.int .i64 (k:Int)),(7,.slice q k c)]) (fun ⟨Hk,q,c,vals,k⟩=>Hk) (fun ⟨Hk,q,c,vals,k⟩=>own 22 1 q k c vals::obj g2 (.cells [.slice qad ad.length cad,.slice qaf af.length caf].toArray 35 (0,0))::L) (fun ⟨Hk,q,c,vals,k⟩=>Le Ho17 Hk∧SlF Hk vals (matK ad af n k)∧k≤(monL ad n).length) (fun ⟨Hk,q,c,vals,k⟩=>(monL ad n).length - k) (Ho17,qo18,co18, [],0) ⟨Le.refl _,SlF.nil _,by omega⟩ ⟨rfl,⟨rfl,trivial⟩⟩ rfl rfl ?_))))))))));rintro ⟨Hk,q,c,vals,k⟩ ⟨hlk,hS,hk⟩ _ hAg0;replace had:=had.le hlk;replace haf:=haf.le hlk;replace hxo12:=hxo12.le hlk;replace hxo17:=hxo17.le hlk;refine Je fun _ hK5 _=>(Je fun _ hK6 _=>(Jb (Jg (Jc rfl) rfl (Jg (Jc rfl) rfl (Jg (Jm u88 rfl rfl) rfl (Jg (JR rfl rfl) rfl (Jf (Ja (hK6 (Jp rfl (fun h22=>?_) (fun h22=>?_)))))))))))
 ·
  have hk1:k<(monL ad n).length:=by omega
  have hpm:=monL_mem hk1;have hpk:=mon_pok h8 hpm;have hdl:=dS_one_len hA h8 hd hpm;have hds:=dS_one hA h8 hd hpm;refine Jo (Ja (hK5 (Je fun _ hK7 _=>(Jn (Ej (Rs:=[_,_]) 13 [[], [], [], [], [2,3], [2,3,4], [2,3,4,5], [1,2,3,4,5,6], [], [1,2,3,4,5,6,7,8], [1,2,3,4,5,6,7,8,9], [0,1,2,3,4,5,6,7,8,9,10], [0,1,2,3,4,5,6,7,8,9,10,11]] [[], [14], [], [], [], [], [], [6], [], [7], [], [10], []] [[], [], [], [], [], [], [], [], [], [], [], [13], []] rfl rfl (by kernel_rfl) ?_)))));apply Jj 1 rfl
  iterate 3 focus (intros;(conv=>lhs;simp only [Jh,Jt,JN,Jv,JI,eq_self,reduceEqDiff,reduceIte,reduceSub,reduceAdd,JxA,JxB]);all_goals rfl)
  ·
   intro gh X K zq zc zq2 zc2 zb zv hK;refine Jg (Jc rfl) rfl (Ji ?_);exact hK zq zc zq2 zc2 zb zv
  ·
   intro gh gh' h
   rfl
  apply Jj 2 rfl
  iterate 3 focus (intros;(conv=>lhs;simp only [Jh,Jt,JN,Jv,JI,eq_self,reduceEqDiff,reduceIte,reduceSub,reduceAdd,JxA,JxB]);all_goals rfl)
  ·
   intro gh X K zq zc zq2 zc2 zb zv hK;refine Jg (Jx rfl At.z (by simpa [*] using ag35)) rfl (Ji ?_);exact hK zq zc zq2 zc2 zb zv
  ·
   intro gh gh' h
   rfl
  apply Jj 3 rfl
  iterate 3 focus (intros;(conv=>lhs;simp only [Jh,Jt,JN,Jv,JI,eq_self,reduceEqDiff,reduceIte,reduceSub,reduceAdd,JxA,JxB]);all_goals rfl)
  ·
   intro gh X K zq zc zq2 zc2 zb zv hK;refine Jg (Jc rfl) rfl (Ji ?_);exact hK zq zc zq2 zc2 zb zv
  ·
   intro gh gh' h
   rfl
  apply Jj 4 rfl
  iterate 3 focus (intros;(conv=>lhs;simp only [Jh,Jt,JN,Jv,JI,eq_self,reduceEqDiff,reduceIte,reduceSub,reduceAdd,JxA,JxB]);all_goals rfl)
  ·
   intro gh X K zq zc zq2 zc2 zb zv hK;refine Jg (Jc rfl) rfl (Ji ?_);exact hK zq zc zq2 zc2 zb zv
  ·
   intro gh gh' h
   rfl
  apply Jj 5 rfl
  iterate 3 focus (intros;(conv=>lhs;simp only [Jh,Jt,JN,Jv,JI,eq_self,reduceEqDiff,reduceIte,reduceSub,reduceAdd,JxA,JxB]);all_goals rfl)
  ·
   intro gh X K zq zc zq2 zc2 zb zv hK;refine Jg (Ep u88 sz150 rfl rfl rfl hk1 hxo12.sm) rfl (Ji ?_);exact hK zq zc zq2 zc2 zb zv
  ·
   intro gh gh' h
   rfl
  apply Jj 6 rfl
  iterate 3 focus (intros;(conv=>lhs;simp only [Jh,Jt,JN,Jv,JI,eq_self,reduceEqDiff,reduceIte,reduceSub,reduceAdd,JxA,JxB]);all_goals rfl)
  ·
   intro gh X K zq zc zq2 zc2 zb zv hK;refine Jg (JO rfl (hxo12.cell _ hk1) (hxo12.sm (i:=k) hk1) (by rw [bytesC_length,hxo12.len _ hk1];exact ag150)) rfl (Ji ?_);exact hK zq zc zq2 zc2 zb zv
  ·
   intro gh gh' h
   rfl
  apply Ea 7 rfl
  iterate 3 focus (intros;(conv=>lhs;simp only [Jh,Jt,JN,Jv,JI,eq_self,reduceEqDiff,reduceIte,reduceSub,reduceAdd,JxA,JxB]);all_goals rfl)
  ·
   intro gh X K zq zc zq2 zc2 zb zv hK;refine Jw fn159 rfl rfl fun w hH=>(l01Single_c (rw_all hmm hk1) (by omega) hH).mono ?_;rintro _ w ⟨qo31,co31,rfl,hH⟩;refine ⟨_,rfl,fun a hF=>JL hF hH ?_⟩;refine Ji ?_;exact hK qo31 co31 zq2 zc2 zb zv
  ·
   intro gh gh' h;refine ⟨?_,?_⟩ <;> rfl
  apply Ea 8 rfl
  iterate 3 focus (intros;(conv=>lhs;simp only [Jh,Jt,JN,Jv,JI,eq_self,reduceEqDiff,reduceIte,reduceSub,reduceAdd,JxA,JxB]);all_goals rfl)
  ·
   intro gh X K zq zc zq2 zc2 zb zv hK;refine Jw fn107 rfl rfl fun w hH=>hH.lend .z fun Hl1 hle1 hA1 hB1 hH=>(l02D_c (Mi:=20) (Ms:=20) (had.le hle1) (haf.le hle1) (own_terms (one_wf (rw_all hmm hk1)) hA1) hA.hn hA.hd hA.fok hA.hl hA.kex (by rw [mon_one];exact Sok.one hpk (by omega)) (one_kex (mon_ex h8 hpm hd)) (by omega) hA.len (by rw [one_len];omega) hH).mono ?_;rintro _ w ⟨qo32,co32,rfl,hH⟩;replace hH:=hB1 _ _ hH;refine ⟨_,rfl,fun a hF=>JL hF hH ?_⟩;refine Jr .z (Jr (.s .z) (Ji ?_));exact hK qo32 co32 zq2 zc2 zb zv
  ·
   intro gh gh' h;refine ⟨?_,?_⟩ <;> (first | simp only [h 6 rfl] | rfl)
  apply Jj 9 rfl
  iterate 3 focus (intros;(conv=>lhs;simp only [Jh,Jt,JN,Jv,JI,eq_self,reduceEqDiff,reduceIte,reduceSub,reduceAdd,JxA,JxB]);all_goals rfl)
  ·
   intro gh X K zq zc zq2 zc2 zb zv hK;refine Jg (Jc rfl) rfl (Ji ?_);exact hK zq zc zq2 zc2 zb zv
  ·
   intro gh gh' h
   rfl
  apply Ea 10 rfl
  iterate 3 focus (intros;(conv=>lhs;simp only [Jh,Jt,JN,Jv,JI,eq_self,reduceEqDiff,reduceIte,reduceSub,reduceAdd,JxA,JxB]);all_goals rfl)
  ·
   intro gh X K zq zc zq2 zc2 zb zv hK;refine Jw fn110 rfl rfl fun w hH=>hH.lend .z fun Hl1 hle1 hA1 hB1 hH=>(l03Vector_c (own_terms (by rw [mon_one];exact hds.wf (by omega)) hA1) (hxo17.le hle1) (by omega) (by rw [mon_one,ofS_len];omega) hmm1 hH).mono ?_;rintro _ w ⟨qo34,co34,rfl,hH⟩;replace hH:=hB1 _ _ hH;refine ⟨_,rfl,fun a hF=>JL hF hH ?_⟩;refine Jr .z (Jr (.s .z) (Ji ?_));exact hK qo34 co34 zq2 zc2 zb zv
  ·
   intro gh gh' h;refine ⟨?_,?_⟩ <;> (first | simp only [h 6 rfl,h 7 rfl] | rfl)
  apply Ea 11 rfl
  iterate 3 focus (intros;(conv=>lhs;simp only [Jh,Jt,JN,Jv,JI,eq_self,reduceEqDiff,reduceIte,reduceSub,reduceAdd,JxA,JxB]);all_goals rfl)
  ·
   intro gh X K zq zc zq2 zc2 zb zv hK;refine EK (EM u57 ze22 sz22 rfl rfl) rfl fun qo35 co35=>(Ji ?_);exact hK qo35 co35 zq2 zc2 zb zv
  ·
   intro gh gh' h;refine ⟨?_,?_⟩ <;> (first | simp only [h 6 rfl,h 7 rfl,h 9 rfl] | rfl)
  apply Ea 12 rfl
  iterate 3 focus (intros;(conv=>lhs;simp only [Jh,Jt,JN,Jv,JI,eq_self,reduceEqDiff,reduceIte,reduceSub,reduceAdd,JxA,JxB]);all_goals rfl)
  ·
   intro gh X K zq zc zq2 zc2 zb zv hK;refine EF u57 ze22 sz22 by22 rfl rfl rfl rfl (by omega) (.s .z) At.z (fun _ _=>At.z) rfl fun qo36 co36=>(Jr .z (Jr (.s .z) (Ji ?_)));exact hK qo36 co36 zq2 zc2 zb zv
  ·
   intro gh gh' h;refine ⟨?_,?_⟩ <;> (first | simp only [h 6 rfl,h 7 rfl,h 9 rfl,h 10 rfl] | rfl)
  apply Jj 13 rfl
  iterate 3 focus (intros;(conv=>lhs;simp only [Jh,Jt,JN,Jv,JI,eq_self,reduceEqDiff,reduceIte,reduceSub,reduceAdd,JxA,JxB]);all_goals rfl)
  ·
   intro gh X K zq zc zq2 zc2 zb zv hK;refine Jg (Jd rfl) rfl (Ji ?_);exact hK zq zc zq2 zc2 zb zv
  ·
   intro gh gh' h
   first | simp only [h 6 rfl,h 7 rfl,h 9 rfl,h 10 rfl,h 11 rfl] | rfl
  apply Ek [0,1,2,3,4,5,6,7,8,9,10,11,12] [0,1,2,3,4,5,6,7,8,9,10,11,12,14] foll0 rfl rfl rfl (by rfl)
  iterate 2 focus (intros;(conv=>lhs;simp only [Jh,Jt,JN,Jv,JI,eq_self,reduceEqDiff,reduceIte,reduceSub,reduceAdd,JxA,JxB]);all_goals rfl)
  intro gh;generalize (gh 6).c=co31;generalize (gh 6).q=qo31;generalize (gh 7).c=co32;generalize (gh 7).q=qo32;generalize (gh 9).c=co34;generalize (gh 9).q=qo34;generalize (gh 10).c=co35;generalize (gh 10).q=qo35;generalize (gh 11).c=co36;generalize (gh 11).q=qo36;clear gh;refine EV (.s (.s .z)) fun Ho34 hleo34 hAo34=>?_;replace had:=had.le hleo34;replace haf:=haf.le hleo34;replace hxo12:=hxo12.le hleo34;replace hxo17:=hxo17.le hleo34;replace hS:=hS.le hleo34;have hxo34:=own_ints hAo34;have hco34:=own_le hAo34;have hve:=dS_vec hA h8 hd hom hk1;rw [← mon_one] at hve;have hS2:=hS.snoc (hve ▸ hxo34) (by rw [hve]) hco34;rw [mon_one] at hS2;refine JF (Ja (hK7 (Jb (Jg (Jc rfl) rfl (Jg (JC rfl rfl (by first | exact nw _ (by omega) | rfl)) rfl (Jg (Jd rfl) rfl (Jf (Ja (JK .z (JK .z (JK .z ?_)))))))))));exact hAg0 (Ho34,qo36,co36,_,k+1) ⟨(hlk.trans hleo34),by rw [matK_succ hk1];exact hS2,by omega⟩ (by show (monL ad n).length - (k+1)<(monL ad n).length - k;omega) 22 rfl rfl ⟨rfl,⟨rfl,trivial⟩⟩ rfl rfl
 ·
  refine JH (Jl (Jl (JQ (Ja (hK3 (Je fun _ hK8 _=>(Jb (Jg (Jc rfl) rfl (EA .z fun Ho18 hleo18 hAo18=>?_)))))))));replace had:=had.le hleo18;replace haf:=haf.le hleo18;replace hxo12:=hxo12.le hleo18;replace hxo17:=hxo17.le hleo18;replace hS:=hS.le hleo18;have hxo18:=hS.rows (Le.refl _) hAo18;have hco18:=own_le hAo18;refine Jg (Jd rfl) rfl (Jf (Ja (hK8 (Js (Jq rfl (Res.tmp rfl) fun w hH=>?_)))));replace hH:=hH.tail
  have hke:k=(monL ad n).length:=by omega
  rw [matK_end hke] at hxo18;exact ⟨_,q,c,(((hleo12.trans hleo17).trans hlk).trans hleo18),hxo18,by rw [matS_len,← hke];exact hco18,by rw [matS_len,hke],hH⟩
theorem leftP_get {p:Pw} {i j:Nat} (hi:i<8) (hj:j<8):(leftP p i).getD j 0=if j=i then p.getD i 0 - 1 else if j<i then p.getD j 0 else 0:=by
 unfold leftP;rw [getD_set8,show (aheadP p i).length=8 by simp,aheadP_get hj]
 by_cases e:i=j
 ·subst e;rw [if_pos ⟨rfl,hi⟩,if_pos rfl]
 ·rw [if_neg (fun h=>e h.1),if_neg (fun h:j=i=>e h.symm)]
theorem wsum_lb {ds p:Pw} {i:Nat} (hi:i<8) : ∀n:Nat,n≤8→wsum ds (leftP p i) n+wsum ds (behP p (i+1)) n=wsum ds p n - (if i<n then ds.getD i 0 else 0)
 | 0,_=>by simp [wsum]
 | n+1,h=>by
  have ih:=wsum_lb (ds:=ds) (p:=p) hi n (by omega)
  simp only [wsum]
  rw [leftP_get hi (by omega),behP_get (by omega)]
  rcases Nat.lt_trichotomy n i with h1 | h1 | h1
  ·rw [if_neg (by omega),if_pos h1,if_pos (by omega),if_neg (by omega)]
   rw [if_neg (by omega)] at ih
   rw [Int.mul_zero]
   omega
  ·subst h1
   rw [if_pos rfl,if_pos (by omega),if_pos (by omega)]
   rw [if_neg (by omega)] at ih
   rw [Int.mul_zero,Int.mul_sub,Int.mul_one]
   omega
  ·rw [if_neg (by omega),if_neg (by omega),if_neg (by omega),if_pos (by omega)]
   rw [if_pos h1] at ih
   rw [Int.mul_zero]
   omega
theorem wsF_cons (d:Int) (ds p:List Int) (i:Nat):wsF (d::ds) p i=d * p.getD i 0+wsF ds p (i+1):=rfl
theorem wsF_sum {p:List Int} : ∀(pre ds:List Int),wsF ds p pre.length+wsum (pre++ds) p pre.length=wsum (pre++ds) p (pre++ds).length
 | pre, []=>by simp [wsF]
 | pre,d::ds=>by
  have ih:=wsF_sum (p:=p) (pre++[d]) ds
  rw [List.length_append,List.append_assoc] at ih
  simp only [List.length_cons,List.length_nil,JxA,JxB,wsum,Nat.zero_add] at ih
  rw [wsF_cons]
  have e:(pre++d::ds).getD pre.length 0=d:=by simp [List.getD_eq_getElem?_getD]
  rw [e] at ih
  omega
theorem wsF_0 (ds p:List Int):wsF ds p 0=wsum ds p ds.length:=by
 have h:=wsF_sum (p:=p) [] ds
 simpa [wsum] using h
theorem mon_wt {ds:List Int} {n:Int} (h8:ds.length≤8) {p:Pw} (hp:p∈monS ds n):wsum ds p ds.length=n:=by
 rw [← wsF_0];exact (enumF_mem (by omega) rfl hp).2.2.2
theorem wsum_ge {ds p:Pw} (hd : ∀j,0≤ds.getD j 0) (hp : ∀j,0≤p.getD j 0) {j:Nat} : ∀n:Nat,j<n→ds.getD j 0 * p.getD j 0≤wsum ds p n
 | 0,h=>by omega
 | n+1,h=>by
  have h0:=wsum_nn0 hd hp n
  have h1:0≤ds.getD n 0 * p.getD n 0:=Int.mul_nonneg (hd n) (hp n)
  simp only [wsum]
  rcases Nat.lt_or_ge j n with hj | hj
  ·have:=wsum_ge hd hp (j:=j) n hj
   omega
  ·obtain rfl:j=n:=by omega
   omega
theorem mon_in {ds:List Int} (h8:ds.length≤8) (hd : ∀j,j<ds.length→1≤ds.getD j 0∧ds.getD j 0≤12) {n:Int} (hn:n≤41) {M:Int} {p:Pw} (hp:Pok M p) (hx:Ex ds p) (hw:wsum ds p ds.length=n):p∈monS ds n:=by
 have hd0 : ∀j,0≤ds.getD j 0:=fun j=>by
  by_cases hj:j<ds.length
  ·have:=hd j hj;omega
  ·rw [getD_ge (by omega)];omega
 have hp0 : ∀j,0≤p.getD j 0:=fun j=>(hp.bd j).1;refine enumF_in (by omega) rfl hp.len (fun t ht=>(hd t ht).1) (fun j hj=>?_) hp0 (fun t ht=>?_) (by rw [wsF_0];exact hw)
 ·rw [hx.out j (by omega),show zP=List.replicate 8 0 from rfl,rep_get]
 ·rw [Nat.zero_add];have hdt:=hd t ht;have htm:=tmod_two (d:=ds.getD t 0) (by omega);have hge:=wsum_ge hd0 hp0 (j:=t) ds.length ht;rw [hw] at hge;refine ⟨?_,fun h=>hx.odd t ht (by omega)⟩
  by_cases ho:(ds.getD t 0).tmod 2=1
  ·have:=hx.odd t ht (by omega)
   omega
  ·have h2:2≤ds.getD t 0:=by
    rcases (show ds.getD t 0=1∨2≤ds.getD t 0 by omega) with h | h
    ·rw [h] at ho;exact absurd (by decide) ho
    ·exact h
   have h3:2 * p.getD t 0≤ds.getD t 0 * p.getD t 0:=Int.mul_le_mul_of_nonneg_right h2 (hp0 t)
   omega
theorem dS_wt {ds:List Int} {fs:List (List Term)} (hG:isAlg ds fs=true) (hw:Wfss fs) {M:Int} {p:Pw} (hp:Pok M p) (hx:Ex ds p) {x:Pw × Int} (h:x∈dS ds fs [(p,1)]):Ex ds x.1∧wsum ds x.1 ds.length=wsum ds p ds.length+1:=by
 have hA:=isAlg_ok hG hw;have hn:=hA.hn
 rcases acc_mem h with h | ⟨z,hz,e⟩
 ·simp at h
 rw [e];unfold dAll at hz;simp only [List.flatMap_cons,List.flatMap_nil,List.append_nil] at hz;unfold dLk at hz;obtain ⟨i,hi,hz⟩:=List.mem_flatMap.1 hz;have hi8:=List.mem_range.1 hi;unfold dP at hz
 split at hz
 ·rename_i hpos
  have hid:i<ds.length:=by
   rcases Nat.lt_or_ge i ds.length with h | h
   ·exact h
   ·have h1:=hx.out i h;simp only at hpos
    omega
  obtain ⟨y,hy,ey⟩:=scl_key hz;rw [ey]
  have hif:i<fs.length:=by rw [hA.hl];exact hid
  have him:=(hA.fok i hif).1;have hlp:=leftP_pok hp hpos;have hbp:=behP_pok hp (i+1);have g1:Gok M [(leftP p i,1)]:=(Sok.one hlp (k:=1) (by omega)).g;have g3:Gok M [(behP p (i+1),1)]:=(Sok.one hbp (k:=1) (by omega)).g
  have k1:KEx ds [(leftP p i,1)]:=fun x hx'=>by rw [List.mem_singleton.1 hx'];exact leftP_ex hp hx hpos
  have k3:KEx ds [(behP p (i+1),1)]:=fun x hx'=>by rw [List.mem_singleton.1 hx'];exact behP_ex hp hx (i+1)
  have k2:=hA.kex i hif;have k12:=times_kex g1 him.g k1 k2;have g12:=gtimes (ds:=ds) g1 him.g;refine ⟨times_kex g12.g g3 k12 k3 y hy,?_⟩
  rcases acc_mem hy with h | ⟨a,ha,ea⟩
  ·simp at h
  obtain ⟨u,hu,v,hv,_,e2⟩:=mulL_mem ha;rw [List.mem_singleton.1 hv] at e2
  rcases acc_mem hu with h | ⟨b,hb,eb⟩
  ·simp at h
  obtain ⟨c,hc,d,hd',_,e3⟩:=mulL_mem hb;rw [List.mem_singleton.1 hc] at e3;have hdl:=(him.key d hd').len;have h1:=imsOk_at (isAlg_im hG) hif;unfold imOk at h1;have h2:=(Bool.and_eq_true_iff.1 h1).2;have hwd:=degOk_wt hn hA.hd (hw.fm i) h2 d hd';have hlb:=wsum_lb (ds:=ds) (p:=p) hi8 ds.length hn;rw [if_pos hid] at hlb;rw [ea,e2,wsum_add (by rw [eb,e3];simp [addp]) hbp.len,eb,e3,wsum_add hlp.len hdl,hwd]
  omega
 ·simp at hz
theorem hom_of {ds:List Int} {fs:List (List Term)} (hG:isAlg ds fs=true) (hw:Wfss fs) (h8:ds.length≤8) (hd : ∀j,j<ds.length→1≤ds.getD j 0∧ds.getD j 0≤12) {n:Int} (hn:n≤40) (hf:fit2 ds n):Hom1 ds fs n:=fun p hp x hx=>by
 have hp':=List.mem_of_mem_take hp
 have h1:=dS_wt hG hw (mon_pok h8 hp') (mon_ex h8 hp' hd) hx
 have hA:=isAlg_ok hG hw
 have h2:=dS_one hA h8 hd hp'
 rw [monL_fit hf.2]
 exact mon_in h8 hd (by omega) (h2.key x hx) h1.1 (by rw [h1.2,mon_wt h8 hp'])
theorem fn120:Fn Tryz.prog 120:=⟨_,Tryz.func120,by kernel_rfl,rfl⟩
theorem fn170:Fn Tryz.prog 170:=⟨_,Tryz.func170,by kernel_rfl,rfl⟩
theorem fn74:Fn Tryz.prog 74:=⟨_,Tryz.func74,by kernel_rfl,rfl⟩
theorem alg_112 {ds:List Int} {fs:List (List Term)} (h:isAlg ds fs=true) : ∀j,j<ds.length→1≤ds.getD j 0∧ds.getD j 0≤12:=fun j hj=>by
 have h1:=isDeg_bd (isAlg_deg h) j
 have h2:=isDeg_pos1 (isAlg_deg h) j hj
 omega
def askB (m:Int):Bool:=decide (0≤m) && decide (m≤20)
theorem askB_y {m:Int} (h:askB m=true):0≤m∧m≤20:=by unfold askB at h;simpa using h
def allC (ds:List Int) (fs:List (List Term)) (m:Int):Int:=if isAlg ds fs then if askB m then if wiB ds 0 (m+1) then 0 else 3 else 2 else 1
def cdC (ds:List Int) (fs:List (List Term)) (n:Int):Int:=if isAlg ds fs then if askB n then if wiB ds (n - 1) (n+1) then 0 else 3 else 2 else 1
theorem wi_fit {ds:List Int} {a b k:Int} (h:wiB ds a b=true) (h1:max a 0≤k) (h2:k≤b):fitB ds k=true:=by
 have:=List.all_eq_true.1 h (k - max a 0).toNat (List.mem_range.2 (by omega))
 rwa [show max a 0+(((k - max a 0).toNat:Nat):Int)=k by omega] at this
theorem fit_neg {ds:List Int} {fs:List (List Term)} (hG:isAlg ds fs=true) {n:Int} (h:n<0):fitB ds n=true:=by
 unfold fitB;rw [monS_neg (alg_112 hG) (isDeg_len (isAlg_deg hG)) h]
 rfl
theorem wi_fit' {ds:List Int} {fs:List (List Term)} (hG:isAlg ds fs=true) {a b k:Int} (h:wiB ds a b=true) (h1:a≤k) (h2:k≤b):fitB ds k=true:=by
 by_cases hk:k<0
 ·exact fit_neg hG hk
 ·exact wi_fit h (by omega) h2
def rkS (ds:List Int) (fs:List (List Term)) (n:Int):Int:=if n<0 then 0 else ((redS (matS ds fs n)).length:Int)
def clV (ds:List Int) (fs:List (List Term)) (n:Int) (v:List Int):List Int:=(csS ds fs n).map fun r=>(byS v (bdS ds fs n)).getD (ldR r) 0
theorem clS_len {ds:List Int} {fs:List (List Term)} {n:Int} (hA:AlgOk ds fs) (h8:ds.length≤8) (hd : ∀j,j<ds.length→1≤ds.getD j 0∧ds.getD j 0≤12):(clS ds fs n).length≤121:=Nat.le_trans (clS_red hA h8 hd).count (monL_len ds n)
theorem bdS_len {ds:List Int} {fs:List (List Term)} {n:Int} (hA:AlgOk ds fs) (h8:ds.length≤8) (hd : ∀j,j<ds.length→1≤ds.getD j 0∧ds.getD j 0≤12):(bdS ds fs n).length≤121:=Nat.le_trans (bdS_red hA h8 hd).count (monL_len ds n)
theorem csS_len {ds:List Int} {fs:List (List Term)} {n:Int} (hA:AlgOk ds fs) (h8:ds.length≤8) (hd : ∀j,j<ds.length→1≤ds.getD j 0∧ds.getD j 0≤12):(csS ds fs n).length≤121:=Nat.le_trans (csS_red hA h8 hd).count (monL_len ds n)
theorem Hp.kerM {B:World} {H0 H:HP} {L:List SA} {w:World} {q:Option Addr} {c:Nat} {rs:List (List Int)} {vs:Vs} {W:Nat} (hW : ∀r∈rs,RowOk W r) (hn:rs.length+W≤100000) (hH:Hp B H0 H (mlt (RwK q c rs) H vs::L) w) :
 Calls Tryz.prog 170 [.slice q rs.length c,.int .i64 (W:Int)].toArray w fun e w'=>∃q c vs,e = .returned (.slice q (kerS rs W).length c)∧Hp B H0 H (mlt (RwK q c (kerS rs W)) H vs::L) w':=
 hH.lend .z fun H1 hle hA _ hH1=>(l03Kernel_c (crs:=c) (mlt_rows hle hA).1 hW hn hH1).mono fun e w' h=>by
  obtain ⟨H',q',c',hle',hI,hc,he,hH'⟩:=h
  obtain ⟨vs',h2⟩:=hH.melt (K:=RwK q' c' (kerS rs W)) hH' (hle.trans hle') ⟨hI,hc⟩
  exact ⟨q',c',vs',he,h2⟩
theorem l03Matrix_m {B:World} {H0 H:HP} {L:List SA} {w:World} {qad qaf:Option Addr} {cad caf:Nat} {ad:List Int} {af:List (List Term)} {n:Int} (had:Ints H qad ad) (haf:Forms H qaf af) (hd : ∀j,j<ad.length→1≤ad.getD j 0∧ad.getD j 0≤12) (h8:ad.length≤8) (hn : -1≤n∧n≤100000) (hA:AlgOk ad af) (hfit:fit2 ad n) (hom:Hom1 ad af n) (hH:Hp B H0 H L w) :
 Calls Tryz.prog 120 [.agg [.slice qad ad.length cad,.slice qaf af.length caf].toArray,.int .i64 n].toArray w fun e w'=>∃q c vs,e = .returned (.slice q (matS ad af n).length c)∧Hp B H0 H (mlt (RwK q c (matS ad af n)) H vs::L) w':=(l03Matrix_c had haf hd h8 hn hA hfit hom hH).mono fun e w' h=>by
 obtain ⟨H',q,c,hle,hI,hc,he,hH'⟩:=h
 obtain ⟨vs,h2⟩:=hH.melt (K:=RwK q c (matS ad af n)) hH' hle ⟨hI,hc⟩
 exact ⟨q,c,vs,he,h2⟩
theorem l03Rank_c {B:World} {H0 H:HP} {L:List SA} {w:World} {qad qaf:Option Addr} {cad caf:Nat} {ad:List Int} {af:List (List Term)} {n:Int} (had:Ints H qad ad) (haf:Forms H qaf af) (hG:isAlg ad af=true) (hn : -1000000≤n∧n≤40) (hfit:0≤n→fit2 ad n) (hH:Hp B H0 H L w):Calls Tryz.prog 65 [.agg [.slice qad ad.length cad,.slice qaf af.length caf].toArray,.int .i64 n].toArray w fun e w'=>e = .returned (.int .i64 (rkS ad af n))∧Hp B H0 H L w':=by
 refine Jz Tryz.func65 rfl 12 rfl rfl [(0,.agg [.slice qad ad.length cad,.slice qaf af.length caf].toArray),(1,.int .i64 n)] rfl hH ?_;have hw0:=hH.old;have hw1:=hH.le;clear hH;have hwf:=haf.wfss;have hA:=isAlg_ok hG hwf;have h8:=hA.hn;have hd:=alg_112 hG;have hml:=monL_len ad n;have hml1:=monL_len ad (n+1);refine Je fun _ hK1 _=>(Jb (Ee rfl rfl rfl fun g2=>(Jg (Jd rfl) rfl (Jf (Ja (hK1 (Je fun _ hK2 _=>(Je fun _ hK3 _=>(Jb (Jg (Jc rfl) rfl (Jg (JR rfl rfl) rfl (Jf (Ja (hK3 (Jp rfl (fun h6=>?_) (fun h6=>?_))))))))))))))))
 ·
  refine Je fun _ hK4 _=>(Jb (Jg (Jd rfl) rfl (Jf (Ja (hK4 (Js (Jk (Jq rfl (Res.tmp rfl) fun w hH=>?_))))))));replace hH:=hH.tail;exact ⟨ri (by rw [rkS,if_pos h6]),hH⟩
 ·
  refine Jo (Ja (hK2 (Je fun _ hK5 _=>(Jb (Jg (Jx rfl At.z (by simpa [*] using ag35)) rfl (Jg (Jc rfl) rfl (Jw fn120 rfl rfl fun w hH=>(l03Matrix_c had haf hd h8 (by omega) hA (hfit (by omega)) (hom_of hG hwf h8 hd (by omega) (hfit (by omega))) hH).mono ?_)))))));rintro _ w ⟨Hf9,qf9,cf9,hlf9,hI9,hcc9,rfl,hH⟩;refine ⟨_,rfl,fun a hF=>JL hF hH ?_⟩;replace had:=had.le hlf9;replace haf:=haf.le hlf9;refine Jw fn78 rfl rfl fun w hH=>(l03Reduce_c hI9 (matS_ok hA h8 hd) (by rw [matS_len];omega) (by omega) hH).mono ?_;rintro _ w ⟨Hf10,qf10,cf10,hlf10,hI10,hcc10,rfl,hH⟩;refine ⟨_,rfl,fun a hF=>JL hF hH ?_⟩;replace had:=had.le hlf10;replace haf:=haf.le hlf10;replace hI9:=hI9.le hlf10;refine Jg (Jm u57 rfl rfl) rfl (Jg (Jd rfl) rfl (Jf (Ja (hK5 (Js (Jq rfl (Res.tmp rfl) fun w hH=>?_))))));replace hH:=hH.tail;exact ⟨ri (by rw [rkS,if_neg h6]),hH.weaken (hlf9.trans hlf10) hw0 hw1⟩
theorem l03All_c {B:World} {H0 H:HP} {L:List SA} {w:World} {qad qaf:Option Addr} {cad caf:Nat} {ad:List Int} {af:List (List Term)} {n:Int} (had:Ints H qad ad) (haf:Forms H qaf af) (hn8:ad.length≤1048576) (hn9:af.length≤1048576) (hl9 : ∀i,i<af.length→(fm af i).length≤1048576) (hH:Hp B H0 H L w):Calls Tryz.prog 64 [.agg [.slice qad ad.length cad,.slice qaf af.length caf].toArray,.int .i64 n].toArray w fun e w'=>e = .returned (.int .i64 (allC ad af n))∧Hp B H0 H L w':=by
 refine Jz Tryz.func64 rfl 19 rfl rfl [(0,.agg [.slice qad ad.length cad,.slice qaf af.length caf].toArray),(1,.int .i64 n)] rfl hH ?_;clear hH;refine Je fun _ hK1 _=>(Jb (Ee rfl rfl rfl fun g2=>(Jg (Jd rfl) rfl (Jf (Ja (hK1 (Je fun _ hK2 _=>(Jn (Je fun _ hK3 _=>(Jb (Jg (Jx rfl At.z (by simpa [*] using ag35)) rfl (Jw fn72 rfl rfl fun w hH=>(l02Is_c had haf (by omega) (by omega) hl9 hH).mono ?_))))))))))));rintro _ w ⟨rfl,hH⟩;refine ⟨_,rfl,fun a hF=>JL hF hH ?_⟩;refine Jg (Em rfl) rfl (Jg (Jd rfl) rfl (Jf (Ja (hK3 (Eg rfl (fun h5=>?_) (fun h5=>?_))))))
 ·
  refine Je fun _ hK4 _=>(Jb (Jg (Jd rfl) rfl (Jf (Ja (hK4 (Js (JT (Jk (Jq rfl (Res.tmp rfl) fun w hH=>?_)))))))));replace hH:=hH.tail;exact ⟨ri (by rw [allC,if_neg (by rw [not_f h5];decide)]),hH⟩
 ·
  have hG:isAlg ad af=true:=not_t h5;have hwf:=haf.wfss;have hA:=isAlg_ok hG hwf;have h8:=hA.hn;have hd:=alg_112 hG;refine Je fun _ hK5 _=>(Jb (Jg (Jc rfl) rfl (Jw fn73 rfl rfl fun w hH=>(l01In_c hH).mono ?_)));rintro _ w ⟨rfl,hH⟩;refine ⟨_,rfl,fun a hF=>JL hF hH ?_⟩;refine Jg (Em rfl) rfl (Jg (Jd rfl) rfl (Jf (Ja (hK5 (Eg rfl (fun h9=>?_) (fun h9=>?_))))))
  ·
   refine Je fun _ hK6 _=>(Jb (Jg (Jd rfl) rfl (Jf (Ja (hK6 (Js (JT (Jk (Jq rfl (Res.tmp rfl) fun w hH=>?_)))))))));replace hH:=hH.tail;exact ⟨ri (by rw [allC,if_pos hG,if_neg (by rw [show askB n=false from not_f h9];decide)]),hH⟩
  ·
   have hk:=askB_y (not_t h9);refine Je fun _ hK7 _=>(Jb (Jg (Jx rfl At.z (by simpa [*] using ag35)) rfl (Jg (Jc rfl) rfl (Jg (JC rfl rfl (by first | exact nw _ (by omega) | rfl)) rfl (Jw fn74 rfl rfl fun w hH=>(l03Within_c had haf hd h8 (by omega) (by omega) hH).mono ?_)))));rintro _ w ⟨rfl,hH⟩;refine ⟨_,rfl,fun a hF=>JL hF hH ?_⟩;refine Jg (Em rfl) rfl (Jg (Jd rfl) rfl (Jf (Ja (hK7 (Eg rfl (fun h13=>?_) (fun h13=>?_))))))
   ·
    refine Je fun _ hK8 _=>(Jb (Jg (Jd rfl) rfl (Jf (Ja (hK8 (Js (JT (Jk (Jq rfl (Res.tmp rfl) fun w hH=>?_)))))))));replace hH:=hH.tail;exact ⟨ri (by rw [allC,if_pos hG,if_pos (show askB n=true from not_t h9),if_neg (by rw [not_f h13];decide)]),hH⟩
   ·
    refine Jo (JF (Ja (hK2 (Je fun _ hK9 _=>(Jb (Jg (Jd rfl) rfl (Jf (Ja (hK9 (Js (Jq rfl (Res.tmp rfl) fun w hH=>?_)))))))))));replace hH:=hH.tail;exact ⟨ri (by rw [allC,if_pos hG,if_pos (show askB n=true from not_t h9),if_pos (not_t h13)]),hH⟩
theorem l03Code_c {B:World} {H0 H:HP} {L:List SA} {w:World} {qad qaf:Option Addr} {cad caf:Nat} {ad:List Int} {af:List (List Term)} {n:Int} (had:Ints H qad ad) (haf:Forms H qaf af) (hn8:ad.length≤1048576) (hn9:af.length≤1048576) (hl9 : ∀i,i<af.length→(fm af i).length≤1048576) (hH:Hp B H0 H L w):Calls Tryz.prog 182 [.agg [.slice qad ad.length cad,.slice qaf af.length caf].toArray,.int .i64 n].toArray w fun e w'=>e = .returned (.int .i64 (cdC ad af n))∧Hp B H0 H L w':=by
 refine Jz Tryz.func182 rfl 21 rfl rfl [(0,.agg [.slice qad ad.length cad,.slice qaf af.length caf].toArray),(1,.int .i64 n)] rfl hH ?_;clear hH;refine Je fun _ hK1 _=>(Jb (Ee rfl rfl rfl fun g2=>(Jg (Jd rfl) rfl (Jf (Ja (hK1 (Je fun _ hK2 _=>(Jn (Je fun _ hK3 _=>(Jb (Jg (Jx rfl At.z (by simpa [*] using ag35)) rfl (Jw fn72 rfl rfl fun w hH=>(l02Is_c had haf (by omega) (by omega) hl9 hH).mono ?_))))))))))));rintro _ w ⟨rfl,hH⟩;refine ⟨_,rfl,fun a hF=>JL hF hH ?_⟩;refine Jg (Em rfl) rfl (Jg (Jd rfl) rfl (Jf (Ja (hK3 (Eg rfl (fun h5=>?_) (fun h5=>?_))))))
 ·
  refine Je fun _ hK4 _=>(Jb (Jg (Jd rfl) rfl (Jf (Ja (hK4 (Js (JT (Jk (Jq rfl (Res.tmp rfl) fun w hH=>?_)))))))));replace hH:=hH.tail;exact ⟨ri (by rw [cdC,if_neg (by rw [not_f h5];decide)]),hH⟩
 ·
  have hG:isAlg ad af=true:=not_t h5;have hwf:=haf.wfss;have hA:=isAlg_ok hG hwf;have h8:=hA.hn;have hd:=alg_112 hG;refine Je fun _ hK5 _=>(Jb (Jg (Jc rfl) rfl (Jw fn73 rfl rfl fun w hH=>(l01In_c hH).mono ?_)));rintro _ w ⟨rfl,hH⟩;refine ⟨_,rfl,fun a hF=>JL hF hH ?_⟩;refine Jg (Em rfl) rfl (Jg (Jd rfl) rfl (Jf (Ja (hK5 (Eg rfl (fun h9=>?_) (fun h9=>?_))))))
  ·
   refine Je fun _ hK6 _=>(Jb (Jg (Jd rfl) rfl (Jf (Ja (hK6 (Js (JT (Jk (Jq rfl (Res.tmp rfl) fun w hH=>?_)))))))));replace hH:=hH.tail;exact ⟨ri (by rw [cdC,if_pos hG,if_neg (by rw [show askB n=false from not_f h9];decide)]),hH⟩
  ·
   have hk:=askB_y (not_t h9);refine Je fun _ hK7 _=>(Jb (Jg (Jx rfl At.z (by simpa [*] using ag35)) rfl (Jg (Jc rfl) rfl (Jg (EL rfl rfl (by first | exact nw _ (by omega) | rfl)) rfl (Jg (Jc rfl) rfl (Jg (JC rfl rfl (by first | exact nw _ (by omega) | rfl)) rfl (Jw fn74 rfl rfl fun w hH=>(l03Within_c had haf hd h8 (by omega) (by omega) hH).mono ?_)))))));rintro _ w ⟨rfl,hH⟩;refine ⟨_,rfl,fun a hF=>JL hF hH ?_⟩;refine Jg (Em rfl) rfl (Jg (Jd rfl) rfl (Jf (Ja (hK7 (Eg rfl (fun h13=>?_) (fun h13=>?_))))))
   ·
    refine Je fun _ hK8 _=>(Jb (Jg (Jd rfl) rfl (Jf (Ja (hK8 (Js (JT (Jk (Jq rfl (Res.tmp rfl) fun w hH=>?_)))))))));replace hH:=hH.tail;exact ⟨ri (by rw [cdC,if_pos hG,if_pos (show askB n=true from not_t h9),if_neg (by rw [not_f h13];decide)]),hH⟩
   ·
    refine Jo (JF (Ja (hK2 (Je fun _ hK9 _=>(Jb (Jg (Jd rfl) rfl (Jf (Ja (hK9 (Js (Jq rfl (Res.tmp rfl) fun w hH=>?_)))))))))));replace hH:=hH.tail;exact ⟨ri (by rw [cdC,if_pos hG,if_pos (show askB n=true from not_t h9),if_pos (not_t h13)]),hH⟩
theorem l03Bounds_c {B:World} {H0 H:HP} {L:List SA} {w:World} {qad qaf:Option Addr} {cad caf:Nat} {ad:List Int} {af:List (List Term)} {n:Int} (had:Ints H qad ad) (haf:Forms H qaf af) (hG:isAlg ad af=true) (hn:0≤n∧n≤40) (hfit:0<n→fit2 ad (n - 1)) (hH:Hp B H0 H L w):Calls Tryz.prog 111 [.agg [.slice qad ad.length cad,.slice qaf af.length caf].toArray,.int .i64 n].toArray w fun e w'=>∃H' q c,Le H H' ∧RowsR H' q (bdS ad af n)∧(bdS ad af n).length≤c∧e = .returned (.slice q (bdS ad af n).length c)∧Hp B H0 H' L w':=by
 refine Jz Tryz.func111 rfl 13 rfl rfl [(0,.agg [.slice qad ad.length cad,.slice qaf af.length caf].toArray),(1,.int .i64 n)] rfl hH ?_;have hw0:=hH.old;have hw1:=hH.le;clear hH;have hwf:=haf.wfss;have hA:=isAlg_ok hG hwf;have h8:=hA.hn;have hd:=alg_112 hG;have hml:=monL_len ad n;have hml1:=monL_len ad (n+1);have hml0:=monL_len ad (n - 1);have hml2:=monL_len ad (n - 1+1);refine Je fun _ hK1 _=>(Jb (Ee rfl rfl rfl fun g2=>(Jg (Jd rfl) rfl (Jf (Ja (hK1 (Je fun _ hK2 _=>(Je fun _ hK3 _=>(Jb (Jg (Jc rfl) rfl (Jg (EG rfl rfl) rfl (Jf (Ja (hK3 (Jp rfl (fun h6=>?_) (fun h6=>?_))))))))))))))))
 ·
  refine Je fun _ hK4 _=>(Jb (EK (EP u57 sz22) rfl fun qo7 co7=>?_));have hnil:=SlF.nil H;refine EA .z fun Ho7 hleo7 hAo7=>?_;replace had:=had.le hleo7;replace haf:=haf.le hleo7;replace hnil:=hnil.le hleo7;have hxo7:=hnil.rows (Le.refl _) hAo7;have hco7:=own_le hAo7;refine Jg (Jd rfl) rfl (Jf (Ja (hK4 (Js (Jk (Jq rfl (Res.tmp rfl) fun w hH=>?_))))));replace hH:=hH.tail;rw [show bdS ad af n=[] from if_neg (by omega)];exact ⟨_,_,_,hleo7,hxo7,hco7,rfl,hH⟩
 ·
  refine Jo (Ja (hK2 (Je fun _ hK5 _=>(Jb (Jg (Jx rfl At.z (by simpa [*] using ag35)) rfl (Jg (Jc rfl) rfl (Jg (EL rfl rfl (by first | exact nw _ (by omega) | rfl)) rfl (Jw fn120 rfl rfl fun w hH=>(l03Matrix_c had haf hd h8 (by omega) hA (hfit (by omega)) (hom_of hG hwf h8 hd (by omega) (hfit (by omega))) hH).mono ?_))))))));rintro _ w ⟨Hf11,qf11,cf11,hlf11,hI11,hcc11,rfl,hH⟩;refine ⟨_,rfl,fun a hF=>JL hF hH ?_⟩;replace had:=had.le hlf11;replace haf:=haf.le hlf11;refine Jw fn78 rfl rfl fun w hH=>(l03Reduce_c (W:=(monL ad (n - 1+1)).length) hI11 (matS_ok hA h8 hd) (by rw [matS_len];omega) (by omega) hH).mono ?_;rintro _ w ⟨Hf12,qf12,cf12,hlf12,hI12,hcc12,rfl,hH⟩;refine ⟨_,rfl,fun a hF=>JL hF hH ?_⟩;replace had:=had.le hlf12;replace haf:=haf.le hlf12;replace hI11:=hI11.le hlf12;refine Jg (Jd rfl) rfl (Jf (Ja (hK5 (Js (Jq rfl (Res.tmp rfl) fun w hH=>?_)))));replace hH:=hH.tail;rw [show bdS ad af n=redS (matS ad af (n - 1)) from if_pos (by omega)];exact ⟨_,_,_,(hlf11.trans hlf12),hI12,hcc12,rfl,hH⟩
theorem l03Bounds_m {B:World} {H0 H:HP} {L:List SA} {w:World} {qad qaf:Option Addr} {cad caf:Nat} {ad:List Int} {af:List (List Term)} {n:Int} (had:Ints H qad ad) (haf:Forms H qaf af) (hG:isAlg ad af=true) (hn:0≤n∧n≤40) (hfit:0<n→fit2 ad (n - 1)) (hH:Hp B H0 H L w) :
 Calls Tryz.prog 111 [.agg [.slice qad ad.length cad,.slice qaf af.length caf].toArray,.int .i64 n].toArray w fun e w'=>∃q c vs,e = .returned (.slice q (bdS ad af n).length c)∧Hp B H0 H (mlt (RwK q c (bdS ad af n)) H vs::L) w':=(l03Bounds_c had haf hG hn hfit hH).mono fun e w' h=>by
 obtain ⟨H',q,c,hle,hI,hc,he,hH'⟩:=h
 obtain ⟨vs,h2⟩:=hH.melt (K:=RwK q c (bdS ad af n)) hH' hle ⟨hI,hc⟩
 exact ⟨q,c,vs,he,h2⟩
theorem l03Closed_c {B:World} {H0 H:HP} {L:List SA} {w:World} {qad qaf:Option Addr} {cad caf:Nat} {ad:List Int} {af:List (List Term)} {n:Int} (had:Ints H qad ad) (haf:Forms H qaf af) (hG:isAlg ad af=true) (hn:0≤n∧n≤40) (hfit:fit2 ad n) (hH:Hp B H0 H L w):Calls Tryz.prog 127 [.agg [.slice qad ad.length cad,.slice qaf af.length caf].toArray,.int .i64 n].toArray w fun e w'=>∃H' q c,Le H H' ∧RowsR H' q (clS ad af n)∧(clS ad af n).length≤c∧e = .returned (.slice q (clS ad af n).length c)∧Hp B H0 H' L w':=by
 refine Jz Tryz.func127 rfl 15 rfl rfl [(0,.agg [.slice qad ad.length cad,.slice qaf af.length caf].toArray),(1,.int .i64 n)] rfl hH ?_;have hw0:=hH.old;have hw1:=hH.le;clear hH;have hwf:=haf.wfss;have hA:=isAlg_ok hG hwf;have h8:=hA.hn;have hd:=alg_112 hG;have hml:=monL_len ad n;have hml1:=monL_len ad (n+1);have hmT1:=monT_L hfit.2;have hmlen:=matS_len ad af n;refine Je fun _ hK1 _=>(Jb (Ee rfl rfl rfl fun g2=>(Jg (Jd rfl) rfl (Jf (Ja (hK1 (Je fun _ hK2 _=>(Ej (Rs:=[_]) 11 [[], [], [0,1], [], [3], [], [5], [0,1,2,3,4,5,6], [0,1,2,3,4,5,6,7], [0,1,2,3,4,5,6,7,8], [0,1,2,3,4,5,6,7,8,9]] [[11], [], [], [], [11], [], [], [], [], [], []] [[], [], [], [], [], [], [], [], [], [2], []] rfl rfl (by kernel_rfl) ?_))))))));apply Jj 1 rfl
 iterate 3 focus (intros;(conv=>lhs;simp only [Jh,Jt,JN,Jv,JI,eq_self,reduceEqDiff,reduceIte,reduceSub,reduceAdd,JxA,JxB]);all_goals rfl)
 ·
  intro gh X K zq zc zq2 zc2 zb zv hK;refine Jg (Jx rfl At.z (by simpa [*] using ag35)) rfl (Ji ?_);exact hK zq zc zq2 zc2 zb zv
 ·
  intro gh gh' h
  rfl
 apply Jj 2 rfl
 iterate 3 focus (intros;(conv=>lhs;simp only [Jh,Jt,JN,Jv,JI,eq_self,reduceEqDiff,reduceIte,reduceSub,reduceAdd,JxA,JxB]);all_goals rfl)
 ·
  intro gh X K zq zc zq2 zc2 zb zv hK;refine Jg (Jc rfl) rfl (Ji ?_);exact hK zq zc zq2 zc2 zb zv
 ·
  intro gh gh' h
  rfl
 apply Ea 3 rfl
 iterate 3 focus (intros;(conv=>lhs;simp only [Jh,Jt,JN,Jv,JI,eq_self,reduceEqDiff,reduceIte,reduceSub,reduceAdd,JxA,JxB]);all_goals rfl)
 ·
  intro gh X K zq zc zq2 zc2 zb zv hK;refine Jw fn120 rfl rfl fun w hH=>(l03Matrix_m had haf hd h8 (by omega) hA hfit (hom_of hG hwf h8 hd (by omega) hfit) hH).mono ?_;rintro _ w ⟨qo7,co7,vso7,rfl,hH⟩;refine ⟨_,rfl,fun a hF=>JL hF hH ?_⟩;refine Ji ?_;exact hK qo7 co7 zq2 zc2 zb vso7
 ·
  intro gh gh' h;refine ⟨?_,?_⟩ <;> rfl
 apply Jj 4 rfl
 iterate 3 focus (intros;(conv=>lhs;simp only [Jh,Jt,JN,Jv,JI,eq_self,reduceEqDiff,reduceIte,reduceSub,reduceAdd,JxA,JxB]);all_goals rfl)
 ·
  intro gh X K zq zc zq2 zc2 zb zv hK;refine Jg (Ju u35 rfl sz22 rfl) rfl (Ji ?_);exact hK zq zc zq2 zc2 zb zv
 ·
  intro gh gh' h
  rfl
 apply Jj 5 rfl
 iterate 3 focus (intros;(conv=>lhs;simp only [Jh,Jt,JN,Jv,JI,eq_self,reduceEqDiff,reduceIte,reduceSub,reduceAdd,JxA,JxB]);all_goals rfl)
 ·
  intro gh X K zq zc zq2 zc2 zb zv hK;refine Jg (Jy rfl At.z rfl pl22) rfl (Ji ?_);exact hK zq zc zq2 zc2 zb zv
 ·
  intro gh gh' h
  rfl
 apply Jj 6 rfl
 iterate 3 focus (intros;(conv=>lhs;simp only [Jh,Jt,JN,Jv,JI,eq_self,reduceEqDiff,reduceIte,reduceSub,reduceAdd,JxA,JxB]);all_goals rfl)
 ·
  intro gh X K zq zc zq2 zc2 zb zv hK;refine Jg (Jc rfl) rfl (Ji ?_);exact hK zq zc zq2 zc2 zb zv
 ·
  intro gh gh' h
  rfl
 apply Jj 7 rfl
 iterate 3 focus (intros;(conv=>lhs;simp only [Jh,Jt,JN,Jv,JI,eq_self,reduceEqDiff,reduceIte,reduceSub,reduceAdd,JxA,JxB]);all_goals rfl)
 ·
  intro gh X K zq zc zq2 zc2 zb zv hK;refine Jg (JC rfl rfl (by first | exact nw _ (by omega) | rfl)) rfl (Ji ?_);exact hK zq zc zq2 zc2 zb zv
 ·
  intro gh gh' h
  rfl
 apply Ea 8 rfl
 iterate 3 focus (intros;(conv=>lhs;simp only [Jh,Jt,JN,Jv,JI,eq_self,reduceEqDiff,reduceIte,reduceSub,reduceAdd,JxA,JxB]);all_goals rfl)
 ·
  intro gh X K zq zc zq2 zc2 zb zv hK;refine Jw fn66 rfl rfl fun w hH=>(l01Monomials_c had hd h8 (by omega) hH).mono ?_;rintro _ w ⟨qo12,co12,rfl,hH⟩;refine ⟨_,rfl,fun a hF=>JL hF hH ?_⟩;refine Ji ?_;exact hK qo12 co12 zq2 zc2 zb zv
 ·
  intro gh gh' h;refine ⟨?_,?_⟩ <;> (first | simp only [h 2 rfl] | rfl)
 apply Jj 9 rfl
 iterate 3 focus (intros;(conv=>lhs;simp only [Jh,Jt,JN,Jv,JI,eq_self,reduceEqDiff,reduceIte,reduceSub,reduceAdd,JxA,JxB]);all_goals rfl)
 ·
  intro gh X K zq zc zq2 zc2 zb zv hK;refine Jg (EN (v':=.int .i64 (((monL ad (n+1)).length:Nat):Int)) (by rw [hmT1]) (Jm u88 rfl rfl)) rfl (Ji ?_);exact hK zq zc zq2 zc2 zb zv
 ·
  intro gh gh' h
  first | simp only [h 2 rfl,h 7 rfl] | rfl
 apply Ea 10 rfl
 iterate 3 focus (intros;(conv=>lhs;simp only [Jh,Jt,JN,Jv,JI,eq_self,reduceEqDiff,reduceIte,reduceSub,reduceAdd,JxA,JxB]);all_goals rfl)
 ·
  intro gh X K zq zc zq2 zc2 zb zv hK;refine Jw fn170 rfl rfl fun w hH=>(Hp.kerM (matS_ok hA h8 hd) (by omega) (hH.front .z)).mono ?_;rintro _ w ⟨qo14,co14,vso14,rfl,hH⟩;refine ⟨_,rfl,fun a hF=>JL hF hH ?_⟩;refine Ji ?_;exact hK qo14 co14 zq2 zc2 zb vso14
 ·
  intro gh gh' h;refine ⟨?_,?_⟩ <;> (first | simp only [h 2 rfl,h 7 rfl] | rfl)
 apply Jj 11 rfl
 iterate 3 focus (intros;(conv=>lhs;simp only [Jh,Jt,JN,Jv,JI,eq_self,reduceEqDiff,reduceIte,reduceSub,reduceAdd,JxA,JxB]);all_goals rfl)
 ·
  intro gh X K zq zc zq2 zc2 zb zv hK;refine Jg (Jd rfl) rfl (Ji ?_);exact hK zq zc zq2 zc2 zb zv
 ·
  intro gh gh' h
  first | simp only [h 2 rfl,h 7 rfl,h 9 rfl] | rfl
 apply Ek [0,1,2,3,4,5,6,7,8,9,10] [0,1,3,4,5,6,7,8,9,10,11] foll0 rfl rfl rfl (by rfl)
 iterate 2 focus (intros;(conv=>lhs;simp only [Jh,Jt,JN,Jv,JI,eq_self,reduceEqDiff,reduceIte,reduceSub,reduceAdd,JxA,JxB]);all_goals rfl)
 intro gh;generalize (gh 2).c=co7;generalize (gh 2).q=qo7;generalize (gh 2).vs=vso7;generalize (gh 7).c=co12;generalize (gh 7).q=qo12;generalize (gh 9).c=co14;generalize (gh 9).q=qo14;generalize (gh 9).vs=vso14;clear gh;refine EV (.s .z) fun Ho14 hleo14 hAo14=>?_;replace had:=had.le hleo14;replace haf:=haf.le hleo14;obtain ⟨hxo14,hco14⟩:=mlt_rows hleo14 hAo14;refine Ja (hK2 (Js (Jq rfl (Res.tmp rfl) fun w hH=>?_)));replace hH:=hH.tail;replace hH:=hH.tail;exact ⟨_,_,_,hleo14,hxo14,hco14,rfl,hH⟩
theorem l03Closed_m {B:World} {H0 H:HP} {L:List SA} {w:World} {qad qaf:Option Addr} {cad caf:Nat} {ad:List Int} {af:List (List Term)} {n:Int} (had:Ints H qad ad) (haf:Forms H qaf af) (hG:isAlg ad af=true) (hn:0≤n∧n≤40) (hfit:fit2 ad n) (hH:Hp B H0 H L w) :
 Calls Tryz.prog 127 [.agg [.slice qad ad.length cad,.slice qaf af.length caf].toArray,.int .i64 n].toArray w fun e w'=>∃q c vs,e = .returned (.slice q (clS ad af n).length c)∧Hp B H0 H (mlt (RwK q c (clS ad af n)) H vs::L) w':=(l03Closed_c had haf hG hn hfit hH).mono fun e w' h=>by
 obtain ⟨H',q,c,hle,hI,hc,he,hH'⟩:=h
 obtain ⟨vs,h2⟩:=hH.melt (K:=RwK q c (clS ad af n)) hH' hle ⟨hI,hc⟩
 exact ⟨q,c,vs,he,h2⟩
end Go.Proofs.YthenedanhcnccaaGreat.G
