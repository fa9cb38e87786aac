/- The row: the law answers true whatever the input, and the input reads as it did. No condition. -/
import Derived.Test.YthenedanhcnccaaGreatRows
import Derived.Test.YthenedanhcnccaaGreatProg
import Derived.WalkKit
import Derived.KernelRfl
import Derived.JoinedOf
import Derived.Maps.AppendAt
import Derived.Still
import Derived.ProofKit
import Derived.OpenShut
import Derived.StillTail
import Derived.Deep.Upon
import Derived.WalkSpells
import Derived.Maps.Range
import Derived.DeepKeys4
import Derived.Maps.Keyed
import Derived.ChangeOld
import Derived.Below
import Derived.SizedLaws
import Derived.Test.YthenedanhcnccaaGreatPHdug
set_option linter.unusedVariables false
set_option linter.unusedSimpArgs false
set_option maxRecDepth 10000
set_option maxHeartbeats 8000000
namespace Go.Proofs.YthenedanhcnccaaGreat.G
open Go Go.RowKit
def duF (ds:List Int) (fs:List (List Term)) (m n:Int) (r s:List Int):Int:=(clV ds fs m ((monL ds m).map (cf (timesS ds (sumR (monL ds n) r) (sumR (monL ds (m - n)) s))))).getD 0 0
def duR (ds:List Int) (fs:List (List Term)) (m n:Int) (r:List Int):List Int:=(csS ds fs (m - n)).map (duF ds fs m n r)
def duL (ds:List Int) (fs:List (List Term)) (m n:Int) (r:List Int) (j:Nat):List Int:=((csS ds fs (m - n)).take j).map (duF ds fs m n r)
def duM (ds:List Int) (fs:List (List Term)) (m n:Int):List (List Int):=(csS ds fs n).map (duR ds fs m n)
def duK (ds:List Int) (fs:List (List Term)) (m n:Int) (i:Nat):List (List Int):=((csS ds fs n).take i).map (duR ds fs m n)
def duB (ds:List Int) (fs:List (List Term)) (m n:Int):Bool:=decide ((csS ds fs n).length=(csS ds fs (m - n)).length) && decide ((redS (duM ds fs m n)).length=(csS ds fs n).length)
def duD (ds:List Int) (fs:List (List Term)) (m:Int):Bool:=decide ((csS ds fs m).length=1) && (List.range (m+1).toNat).all fun k:Nat=>duB ds fs m (k:Int)
def duC (ds:List Int) (fs:List (List Term)) (m:Int):Int:=if isAlg ds fs then if decide (0≤m) && decide (m≤14) then if wiB ds 0 (m+1) then 0 else 3 else 2 else 1
def duV (ds:List Int) (fs:List (List Term)) (m:Int):Bool:=decide (duC ds fs m=0) && duD ds fs m
section
variable {ds : List Int} {fs : List (List Term)} {m n : Int} {r : List Int} {i j : Nat}
theorem duL_succ (hj:j<(csS ds fs (m - n)).length):duL ds fs m n r (j+1)=duL ds fs m n r j++[duF ds fs m n r (rw_ (csS ds fs (m - n)) j)]:=by
 unfold duL;rw [rw_take hj,List.map_append]
 rfl
theorem duL_zero:duL ds fs m n r 0=[]:=by simp [duL]
theorem duL_len (hj:j≤(csS ds fs (m - n)).length):(duL ds fs m n r j).length=j:=by unfold duL;rw [List.length_map,List.length_take_of_le hj]
theorem duL_end (hj:j=(csS ds fs (m - n)).length):duL ds fs m n r j=duR ds fs m n r:=by unfold duL duR;rw [hj,List.take_length]
theorem duK_succ (hi:i<(csS ds fs n).length):duK ds fs m n (i+1)=duK ds fs m n i++[duR ds fs m n (rw_ (csS ds fs n) i)]:=by
 unfold duK;rw [rw_take hi,List.map_append]
 rfl
theorem duK_zero:duK ds fs m n 0=[]:=by simp [duK]
theorem duK_len (hi:i≤(csS ds fs n).length):(duK ds fs m n i).length=i:=by unfold duK;rw [List.length_map,List.length_take_of_le hi]
theorem duK_end (hi:i=(csS ds fs n).length):duK ds fs m n i=duM ds fs m n:=by unfold duK duM;rw [hi,List.take_length]
theorem du_mon {q:Int} {s t:Sm} (he:n+q=m) (h8:ds.length≤8) (hd : ∀j,j<ds.length→1≤ds.getD j 0∧ds.getD j 0≤12) (hs:Sok 20 s) (ht:Sok 20 t) (h1 : ∀x∈s,x.1∈monL ds n) (h2 : ∀x∈t,x.1∈monL ds q) (hf:fitB ds m=true) (h40:m≤41) : ∀x∈timesS ds s t,x.1∈monL ds m:=by
 subst he;exact times_mon h8 hd hs ht h1 h2 hf h40
theorem duF_ok (hA:AlgOk ds fs) (h8:ds.length≤8) (hd : ∀j,j<ds.length→1≤ds.getD j 0∧ds.getD j 0≤12) {s:List Int} (hr:r∈csS ds fs n) (hs:s∈csS ds fs (m - n)):0≤duF ds fs m n r s∧duF ds fs m n r s≤10006:=by
 have h1:=((csS_red (n:=n) hA h8 hd).row _ hr).len;have h2:=((csS_red (n:=m - n) hA h8 hd).row _ hs).len;have s1:=sumR_mon (ds:=ds) (n:=n) (row:=r) h8 (by omega);have s2:=sumR_mon (ds:=ds) (n:=m - n) (row:=s) h8 (by omega);unfold duF clV;rw [List.getD_eq_getElem?_getD,List.getElem?_map]
 cases (csS ds fs m)[0]? with
 | none=>exact ⟨by simp,by simp⟩
 | some t=>exact (byS_ok (cfR_ok (s1.times s2)) (bdS_red (n:=m) hA h8 hd).row).val _
theorem duM_ok (hA:AlgOk ds fs) (h8:ds.length≤8) (hd : ∀j,j<ds.length→1≤ds.getD j 0∧ds.getD j 0≤12) : ∀x∈duM ds fs m n,RowOk (csS ds fs (m - n)).length x:=fun x hx=>by
 obtain ⟨r,hr,rfl⟩:=List.mem_map.1 hx
 refine ⟨by simp [duR],fun k=>?_⟩
 unfold duR
 rw [List.getD_eq_getElem?_getD,List.getElem?_map]
 cases hk:(csS ds fs (m - n))[k]? with
 | none=>exact ⟨by simp,by simp⟩
 | some s=>exact duF_ok hA h8 hd hr (List.mem_of_getElem? hk)
theorem duC_1 (h:isAlg ds fs=false):duC ds fs m=1:=by unfold duC;rw [h];rfl
theorem duC_2 (h:isAlg ds fs=true) (h2:(decide (0≤m) && decide (m≤14))=false):duC ds fs m=2:=by unfold duC;rw [h,h2];rfl
theorem duC_3 (h:isAlg ds fs=true) (h2:(decide (0≤m) && decide (m≤14))=true) (h3:wiB ds 0 (m+1)=false):duC ds fs m=3:=by unfold duC;rw [h,h2,h3];rfl
theorem duC_0 (h:isAlg ds fs=true) (h2:(decide (0≤m) && decide (m≤14))=true) (h3:wiB ds 0 (m+1)=true):duC ds fs m=0:=by unfold duC;rw [h,h2,h3];rfl
theorem duV_n (h:duC ds fs m≠0):duV ds fs m=false:=by unfold duV;rw [decide_eq_false h];rfl
theorem duV_1 (h:(csS ds fs m).length≠1):duV ds fs m=false:=by unfold duV duD;rw [decide_eq_false h];simp
theorem duV_b {k:Nat} (hk:(k:Int)≤m) (h:duB ds fs m (k:Int)=false):duV ds fs m=false:=by
 unfold duV duD;rw [show ((List.range (m+1).toNat).all fun k:Nat=>duB ds fs m (k:Int))=false from List.all_eq_false.2 ⟨k,List.mem_range.2 (by omega),by simp [h]⟩]
 simp
theorem duV_y (h:duC ds fs m=0) (h1:(csS ds fs m).length=1) (h2 : ∀k:Nat,(k:Int)<m+1→duB ds fs m (k:Int)=true):duV ds fs m=true:=by
 unfold duV duD;rw [decide_eq_true h,decide_eq_true h1,show ((List.range (m+1).toNat).all fun k:Nat=>duB ds fs m (k:Int))=true from List.all_eq_true.2 fun k hk=>h2 k (by have:=List.mem_range.1 hk;omega)]
 rfl
theorem duB_1 (h:(csS ds fs n).length≠(csS ds fs (m - n)).length):duB ds fs m n=false:=by unfold duB;rw [decide_eq_false h];rfl
theorem duB_2 (h:(redS (duM ds fs m n)).length≠(csS ds fs n).length):duB ds fs m n=false:=by unfold duB;rw [decide_eq_false h];simp
theorem duB_y (h:(csS ds fs n).length=(csS ds fs (m - n)).length) (h2:(redS (duM ds fs m n)).length=(csS ds fs n).length):duB ds fs m n=true:=by unfold duB;rw [decide_eq_true h,decide_eq_true h2];rfl
end
theorem sHasDuality_c {B:World} {H0 H:HP} {L:List SA} {w:World} {qad qaf:Option Addr} {cad caf:Nat} {ad:List Int} {af:List (List Term)} {m:Int} (had:Ints H qad ad) (haf:Forms H qaf af) (hn8:ad.length≤1048576) (hn9:af.length≤1048576) (hl9 : ∀i,i<af.length→(fm af i).length≤1048576) (hH:Hp B H0 H L w):Calls Tryz.prog 31 [.agg [.slice qad ad.length cad,.slice qaf af.length caf].toArray,.int .i64 m].toArray w fun e w'=>e = .returned (.tuple #[.bool (duV ad af m),.int .i64 (duC ad af m)])∧Hp B H0 H L w':=by
 refine Jy Tryz.func31 rfl 95 rfl rfl [(0,.agg [.slice qad ad.length cad,.slice qaf af.length caf].toArray),(1,.int .i64 m)] rfl hH ?_;have hw0:=hH.old;have hw1:=hH.le;clear hH;refine Je fun _ hK1 _=>(Jb (Ef rfl rfl rfl fun g2=>(Jg (Jd rfl) rfl (Jg (Jd rfl) rfl (Jf (Ja (hK1 (Je fun _ hK2 _=>(Jl (Je fun _ hK3 _=>(Jb (Jg (Jz rfl At.z (by simpa [*] using ag35)) rfl (Jx fn72 rfl rfl fun w hH=>(l02Is_c had haf (by omega) (by omega) hl9 hH).mono ?_)))))))))))));rintro _ w ⟨rfl,hH⟩;refine ⟨_,rfl,fun a hF=>JQ hF hH ?_⟩;refine Jg (Es rfl) rfl (Jg (Jd rfl) rfl (Jf (Ja (hK3 (Eh rfl (fun h13=>?_) (fun h13=>?_))))))
 ·
  refine Je fun _ hK4 _=>(Jb (Jg (Jd rfl) rfl (Jg (Jd rfl) rfl (Jf (Ja (hK4 (Jv (JR (Jp (Ep rfl (Res.tmp rfl) (Res.tmp rfl) fun w hH=>?_))))))))));replace hH:=hH.tail;exact ⟨tup_bi (duV_n (by rw [duC_1 (not_f h13)];decide)).symm (duC_1 (not_f h13)).symm,hH⟩
 ·
  have hG:isAlg ad af=true:=not_t h13;have hwf:=haf.wfss;have hA:=isAlg_ok hG hwf;have h8:=hA.hn;have hd:=alg_112 hG;refine Je fun _ hK5 _=>(Jb (Jg (Jc rfl) rfl (Jx fn73 rfl rfl fun w hH=>(l01In_c hH).mono ?_)));rintro _ w ⟨rfl,hH⟩;refine ⟨_,rfl,fun a hF=>JQ hF hH ?_⟩;refine Jg (Es rfl) rfl (Jg (Jd rfl) rfl (Jf (Ja (hK5 (Eh rfl (fun h17=>?_) (fun h17=>?_))))))
  ·
   refine Je fun _ hK6 _=>(Jb (Jg (Jd rfl) rfl (Jg (Jd rfl) rfl (Jf (Ja (hK6 (Jv (JR (Jp (Ep rfl (Res.tmp rfl) (Res.tmp rfl) fun w hH=>?_))))))))));replace hH:=hH.tail;exact ⟨tup_bi (duV_n (by rw [duC_2 hG (not_f h17)];decide)).symm (duC_2 hG (not_f h17)).symm,hH⟩
  ·
   have hpA:=not_t h17
   have hpq:0≤m∧m≤14:=by have:=hpA;simpa using this
   refine Je fun _ hK7 _=>(Jb (Jg (Jz rfl At.z (by simpa [*] using ag35)) rfl (Jg (Jc rfl) rfl (Jg (JA rfl rfl (nw _ (by omega))) rfl (Jx fn74 rfl rfl fun w hH=>(l03Within_c had haf hd h8 (by omega) (by omega) hH).mono ?_)))));rintro _ w ⟨rfl,hH⟩;refine ⟨_,rfl,fun a hF=>JQ hF hH ?_⟩;refine Jg (Es rfl) rfl (Jg (Jd rfl) rfl (Jf (Ja (hK7 (Eh rfl (fun h21=>?_) (fun h21=>?_))))))
   ·
    refine Je fun _ hK8 _=>(Jb (Jg (Jd rfl) rfl (Jg (Jd rfl) rfl (Jf (Ja (hK8 (Jv (JR (Jp (Ep rfl (Res.tmp rfl) (Res.tmp rfl) fun w hH=>?_))))))))));replace hH:=hH.tail;exact ⟨tup_bi (duV_n (by rw [duC_3 hG hpA (not_f h21)];decide)).symm (duC_3 hG hpA (not_f h21)).symm,hH⟩
   ·
    have hwi:wiB ad 0 (m+1)=true:=not_t h21;have hC0:=duC_0 (fs:=af) hG hpA hwi;have hfm:fit3 ad m:=wi_f3 hwi (by omega) (by omega);refine Jn (JF (Ja (hK2 (Je fun _ hK9 _=>(Je fun _ hK10 _=>(Jb (Jg (Jz rfl At.z (by simpa [*] using ag35)) rfl (Jg (Jc rfl) rfl (Jx fn75 rfl rfl fun w hH=>(l03Classes_c had haf hG (by omega) hfm hH).mono ?_)))))))));rintro _ w ⟨Hf29,qf29,cf29,hlf29,hI29,hcc29,rfl,hH⟩;refine ⟨_,rfl,fun a hF=>JQ hF hH ?_⟩;replace had:=had.le hlf29;replace haf:=haf.le hlf29;refine Jg (Jm u57 rfl rfl) rfl (Jg (Ek rfl rfl) rfl (Jf (Ja (hK10 (Jo rfl (fun h31=>?_) (fun h31=>?_))))))
    ·
     refine Je fun _ hK11 _=>(Jb (Jg (Jd rfl) rfl (Jg (Jd rfl) rfl (Jf (Ja (hK11 (Jv (Jp (Ep rfl (Res.tmp rfl) (Res.tmp rfl) fun w hH=>?_)))))))));replace hH:=hH.tail;exact ⟨tup_bi (duV_1 (by omega)).symm hC0.symm,hH.weaken hlf29 hw0 hw1⟩
    ·
     have hcs1:(csS ad af m).length=1:=by omega
     refine Jn (Ja (hK9 (Je fun _ hK12 _=>(Je fun _ hK13 _=>(Jb (Jg (Jd rfl) rfl (Jf (Ja (hK13 (Jl (JD (σ:=HP × Nat) (fun ⟨Hk,k⟩=>[(6,.int .i64 (k:Int))]) (fun ⟨Hk,k⟩=>Hk) (fun ⟨Hk,k⟩=>obj g2 (.cells [.slice qad ad.length cad,.slice qaf af.length caf].toArray 35 (0,0))::L) (fun ⟨Hk,k⟩=>Le Hf29 Hk∧(k:Int)≤m+1∧∀j:Nat,j<k→duB ad af m (j:Int)=true) (fun ⟨Hk,k⟩=>(m+1 - (k:Int)).toNat) (_,0) ⟨Le.refl _,by omega,fun j hj=>by omega⟩ ⟨rfl,trivial⟩ rfl rfl ?_)))))))))));rintro ⟨Hk,k⟩ ⟨hlk,hk,hI⟩ _ hAg0;replace had:=had.le hlk;replace haf:=haf.le hlk;replace hI29:=hI29.le hlk;refine Je fun _ hK14 _=>(Je fun _ hK15 _=>(Jb (Jg (Jc rfl) rfl (Jg (Jc rfl) rfl (Jg (PR.leq rfl rfl) rfl (Jf (Ja (hK15 (Jo rfl (fun h34=>?_) (fun h34=>?_))))))))))
     ·
      have hfn:fit3 ad (k:Int):=wi_f3 hwi (by omega) (by omega);have hfk:fit3 ad (m - (k:Int)):=wi_f3 hwi (by omega) (by omega);have hcn:=csS_red (n:=(k:Int)) hA h8 hd;have hcm:=csS_red (n:=m - (k:Int)) hA h8 hd;have hcnl:=csS_len (n:=(k:Int)) hA h8 hd;have hcml:=csS_len (n:=m - (k:Int)) hA h8 hd;have hfrl:=fmR_len (monL ad (k:Int)) (csS ad af (k:Int));have hfrl2:=fmR_len (monL ad (m - (k:Int))) (csS ad af (m - (k:Int)));refine Jn (Ja (hK14 (Je fun _ hK16 _=>(Jl (Je fun _ hK17 _=>(Ei (Rs:=[_]) 12 [[], [], [0,1], [], [], [], [4,5], [0,1,2,3,4,5,6], [], [0,1,2,3,4,5,6,7], [0,1,2,3,4,5,6,7,9], [0,1,2,3,4,5,6,7,8,9,10]] [[12], [], [], [12], [], [], [], [], [], [], [], []] [[], [], [], [], [], [], [], [], [], [], [], []] rfl rfl (by kernel_rfl) ?_))))));apply Jk 1 rfl
      iterate 3 focus (intros;(conv=>lhs;simp only [Jh,Jr,JJ,Ju,JI,eq_self,Nat.reduceEqDiff,reduceIte,Nat.reduceSub,Nat.reduceAdd,List.cons_append,List.nil_append]);all_goals rfl)
      ·
       intro gh X K zq zc zq2 zc2 zb zv hK;refine Jg (Jz rfl At.z (by simpa [*] using ag35)) rfl (Ji ?_);exact hK zq zc zq2 zc2 zb zv
      ·
       intro gh gh' h
       rfl
      apply Jk 2 rfl
      iterate 3 focus (intros;(conv=>lhs;simp only [Jh,Jr,JJ,Ju,JI,eq_self,Nat.reduceEqDiff,reduceIte,Nat.reduceSub,Nat.reduceAdd,List.cons_append,List.nil_append]);all_goals rfl)
      ·
       intro gh X K zq zc zq2 zc2 zb zv hK;refine Jg (Jc rfl) rfl (Ji ?_);exact hK zq zc zq2 zc2 zb zv
      ·
       intro gh gh' h
       rfl
      apply JX 3 rfl
      iterate 3 focus (intros;(conv=>lhs;simp only [Jh,Jr,JJ,Ju,JI,eq_self,Nat.reduceEqDiff,reduceIte,Nat.reduceSub,Nat.reduceAdd,List.cons_append,List.nil_append]);all_goals rfl)
      ·
       intro gh X K zq zc zq2 zc2 zb zv hK;refine Jx fn76 rfl rfl fun w hH=>(l03ClassForms_c had haf hG (by omega) hfn hH).mono ?_;rintro _ w ⟨qo39,co39,vso39,rfl,hH⟩;refine ⟨_,rfl,fun a hF=>JQ hF hH ?_⟩;refine Ji ?_;exact hK qo39 co39 zq2 zc2 zb vso39
      ·
       intro gh gh' h;refine ⟨?_,?_⟩ <;> rfl
      apply Jk 4 rfl
      iterate 3 focus (intros;(conv=>lhs;simp only [Jh,Jr,JJ,Ju,JI,eq_self,Nat.reduceEqDiff,reduceIte,Nat.reduceSub,Nat.reduceAdd,List.cons_append,List.nil_append]);all_goals rfl)
      ·
       intro gh X K zq zc zq2 zc2 zb zv hK;refine Jg (Jz rfl At.z (by simpa [*] using ag35)) rfl (Ji ?_);exact hK zq zc zq2 zc2 zb zv
      ·
       intro gh gh' h
       rfl
      apply Jk 5 rfl
      iterate 3 focus (intros;(conv=>lhs;simp only [Jh,Jr,JJ,Ju,JI,eq_self,Nat.reduceEqDiff,reduceIte,Nat.reduceSub,Nat.reduceAdd,List.cons_append,List.nil_append]);all_goals rfl)
      ·
       intro gh X K zq zc zq2 zc2 zb zv hK;refine Jg (Jc rfl) rfl (Ji ?_);exact hK zq zc zq2 zc2 zb zv
      ·
       intro gh gh' h
       rfl
      apply Jk 6 rfl
      iterate 3 focus (intros;(conv=>lhs;simp only [Jh,Jr,JJ,Ju,JI,eq_self,Nat.reduceEqDiff,reduceIte,Nat.reduceSub,Nat.reduceAdd,List.cons_append,List.nil_append]);all_goals rfl)
      ·
       intro gh X K zq zc zq2 zc2 zb zv hK;refine Jg (Jc rfl) rfl (Ji ?_);exact hK zq zc zq2 zc2 zb zv
      ·
       intro gh gh' h
       rfl
      apply Jk 7 rfl
      iterate 3 focus (intros;(conv=>lhs;simp only [Jh,Jr,JJ,Ju,JI,eq_self,Nat.reduceEqDiff,reduceIte,Nat.reduceSub,Nat.reduceAdd,List.cons_append,List.nil_append]);all_goals rfl)
      ·
       intro gh X K zq zc zq2 zc2 zb zv hK;refine Jg (EN rfl rfl (nw _ (by omega))) rfl (Ji ?_);exact hK zq zc zq2 zc2 zb zv
      ·
       intro gh gh' h
       rfl
      apply JX 8 rfl
      iterate 3 focus (intros;(conv=>lhs;simp only [Jh,Jr,JJ,Ju,JI,eq_self,Nat.reduceEqDiff,reduceIte,Nat.reduceSub,Nat.reduceAdd,List.cons_append,List.nil_append]);all_goals rfl)
      ·
       intro gh X K zq zc zq2 zc2 zb zv hK;refine Jx fn76 rfl rfl fun w hH=>(l03ClassForms_c had haf hG (by omega) hfk hH).mono ?_;rintro _ w ⟨qo44,co44,vso44,rfl,hH⟩;refine ⟨_,rfl,fun a hF=>JQ hF hH ?_⟩;refine Ji ?_;exact hK qo44 co44 zq2 zc2 zb vso44
      ·
       intro gh gh' h;refine ⟨?_,?_⟩ <;> (first | simp only [h 2 rfl] | rfl)
      apply JX 9 rfl
      iterate 3 focus (intros;(conv=>lhs;simp only [Jh,Jr,JJ,Ju,JI,eq_self,Nat.reduceEqDiff,reduceIte,Nat.reduceSub,Nat.reduceAdd,List.cons_append,List.nil_append]);all_goals rfl)
      ·
       intro gh X K zq zc zq2 zc2 zb zv hK;refine EF (EM u57 sz22) rfl fun qo45 co45=>(Ji ?_);exact hK qo45 co45 zq2 zc2 zb zv
      ·
       intro gh gh' h;refine ⟨?_,?_⟩ <;> rfl
      apply Jk 10 rfl
      iterate 3 focus (intros;(conv=>lhs;simp only [Jh,Jr,JJ,Ju,JI,eq_self,Nat.reduceEqDiff,reduceIte,Nat.reduceSub,Nat.reduceAdd,List.cons_append,List.nil_append]);all_goals rfl)
      ·
       intro gh X K zq zc zq2 zc2 zb zv hK;refine Jg (Jd rfl) rfl (Ji ?_);exact hK zq zc zq2 zc2 zb zv
      ·
       intro gh gh' h
       first | simp only [h 2 rfl,h 7 rfl] | rfl
      apply Jk 11 rfl
      iterate 3 focus (intros;(conv=>lhs;simp only [Jh,Jr,JJ,Ju,JI,eq_self,Nat.reduceEqDiff,reduceIte,Nat.reduceSub,Nat.reduceAdd,List.cons_append,List.nil_append]);all_goals rfl)
      ·
       intro gh X K zq zc zq2 zc2 zb zv hK;refine Jg (Jd rfl) rfl (Ji ?_);exact hK zq zc zq2 zc2 zb zv
      ·
       intro gh gh' h
       first | simp only [h 2 rfl,h 7 rfl] | rfl
      apply Jk 12 rfl
      iterate 3 focus (intros;(conv=>lhs;simp only [Jh,Jr,JJ,Ju,JI,eq_self,Nat.reduceEqDiff,reduceIte,Nat.reduceSub,Nat.reduceAdd,List.cons_append,List.nil_append]);all_goals rfl)
      ·
       intro gh X K zq zc zq2 zc2 zb zv hK;refine Jg (Jd rfl) rfl (Ji ?_);exact hK zq zc zq2 zc2 zb zv
      ·
       intro gh gh' h
       first | simp only [h 2 rfl,h 7 rfl,h 8 rfl] | rfl
      apply Ej [0,1,2,3,4,5,6,7,8,9,10,11] [0,1,2,3,4,5,6,7,8,9,10,11,12] foll0 rfl rfl rfl (by rfl)
      iterate 2 focus (intros;(conv=>lhs;simp only [Jh,Jr,JJ,Ju,JI,eq_self,Nat.reduceEqDiff,reduceIte,Nat.reduceSub,Nat.reduceAdd,List.cons_append,List.nil_append]);all_goals rfl)
      intro gh;generalize (gh 2).c=co39;generalize (gh 2).q=qo39;generalize (gh 2).vs=vso39;generalize (gh 7).c=co44;generalize (gh 7).q=qo44;generalize (gh 7).vs=vso44;generalize (gh 8).c=co45;generalize (gh 8).q=qo45;clear gh;refine EO .z fun Ho39 hleo39 hAo39=>?_;replace had:=had.le hleo39;replace haf:=haf.le hleo39;replace hI29:=hI29.le hleo39;have hxo39:=(own_forms (fmR_wf (monL_mn h8) hcn.row) hAo39);have hco39:=own_le hAo39.1;refine EO .z fun Ho44 hleo44 hAo44=>?_;replace had:=had.le hleo44;replace haf:=haf.le hleo44;replace hI29:=hI29.le hleo44;replace hxo39:=hxo39.le hleo44;have hxo44:=(own_forms (fmR_wf (monL_mn h8) hcm.row) hAo44);have hco44:=own_le hAo44.1;refine EJ.is0 2 (Ja (hK17 (Je fun _ hK18 _=>(Je fun _ hK19 _=>(Jb (Jg (Jd rfl) rfl (Jf (Ja (hK19 (Jl (JD (σ:=Option Addr × Nat × Vs × Nat) (fun ⟨q,c,vs,i⟩=>[(10,.int .i64 (i:Int)),(9,.slice q (duK ad af m (k:Int) i).length c)]) (fun ⟨q,c,vs,i⟩=>Ho44) (fun ⟨q,c,vs,i⟩=>ownIs 2 vs (duK ad af m (k:Int) i)::own 22 1 q (duK ad af m (k:Int) i).length c (slicesI vs (duK ad af m (k:Int) i))::obj g2 (.cells [.slice qad ad.length cad,.slice qaf af.length caf].toArray 35 (0,0))::L) (fun ⟨q,c,vs,i⟩=>i≤(csS ad af (k:Int)).length) (fun ⟨q,c,vs,i⟩=>(csS ad af (k:Int)).length - i) (qo45,co45,nilVs,0) (by show 0≤_;omega) ⟨rfl,⟨(by rw [duK_zero];rfl),trivial⟩⟩ rfl (by dsimp only;rw [duK_zero];rfl) ?_)))))))))));rintro ⟨q,c,vs,i⟩ hi _ hAg1;refine Je fun _ hK20 _=>(Je fun _ hK21 _=>(Jb (Jg (Jc rfl) rfl (Jg (Jc rfl) rfl (Jg (Jm u33 rfl rfl) rfl (Jg (JK rfl rfl) rfl (Jf (Ja (hK21 (Jo rfl (fun h49=>?_) (fun h49=>?_)))))))))))
      ·
       have hi1:i<(csS ad af (k:Int)).length:=by omega
       have hi2:i<(fmR (monL ad (k:Int)) (csS ad af (k:Int))).length:=by omega
       have hkl9:(duK ad af m (k:Int) i).length=i:=duK_len hi;refine Jn (Ja (hK20 (Je fun _ hK22 _=>(Jl (Je fun _ hK23 _=>(Jb (EF (MK.lit0I u22 sz2) rfl fun qo52 co52=>(Jg (Jd rfl) rfl (Jf (Ja (hK23 (Je fun _ hK24 _=>(Je fun _ hK25 _=>(Jb (Jg (Jd rfl) rfl (Jf ?_))))))))))))))));refine Ja (hK25 (Jl (JD (σ:=Option Addr × Nat × Nat) (fun ⟨q2,c2,j⟩=>[(12,.int .i64 (j:Int)),(11,.slice q2 (duL ad af m (k:Int) (rw_ (csS ad af (k:Int)) i) j).length c2)]) (fun ⟨q2,c2,j⟩=>Ho44) (fun ⟨q2,c2,j⟩=>own 2 1 q2 (duL ad af m (k:Int) (rw_ (csS ad af (k:Int)) i) j).length c2 (intsC (duL ad af m (k:Int) (rw_ (csS ad af (k:Int)) i) j))::ownIs 2 vs (duK ad af m (k:Int) i)::own 22 1 q (duK ad af m (k:Int) i).length c (slicesI vs (duK ad af m (k:Int) i))::obj g2 (.cells [.slice qad ad.length cad,.slice qaf af.length caf].toArray 35 (0,0))::L) (fun ⟨q2,c2,j⟩=>j≤(csS ad af (m - (k:Int))).length) (fun ⟨q2,c2,j⟩=>(csS ad af (m - (k:Int))).length - j) (qo52,co52,0) (by show 0≤_;omega) ⟨rfl,⟨(by rw [duL_zero];rfl),trivial⟩⟩ rfl (by dsimp only;rw [duL_zero]) ?_)));rintro ⟨q2,c2,j⟩ hj _ hAg2;refine Je fun _ hK26 _=>(Je fun _ hK27 _=>(Jb (Jg (Jc rfl) rfl (Jg (Jc rfl) rfl (Jg (Jm u33 rfl rfl) rfl (Jg (JK rfl rfl) rfl (Jf (Ja (hK27 (Jo rfl (fun h56=>?_) (fun h56=>?_)))))))))))
       ·
        have hj1:j<(csS ad af (m - (k:Int))).length:=by omega
        have hj2:j<(fmR (monL ad (m - (k:Int))) (csS ad af (m - (k:Int)))).length:=by omega
        have hfa:=cf_fm (n:=(k:Int)) (i:=(i:Int)) hA h8 hd (by omega);have hfb:=cf_fm (n:=m - (k:Int)) (i:=(j:Int)) hA h8 hd (by omega);have hla:=cf_len (ds:=ad) (fs:=af) (n:=(k:Int)) (i:=(i:Int)) (by omega);have hlb:=cf_len (ds:=ad) (fs:=af) (n:=m - (k:Int)) (i:=(j:Int)) (by omega);obtain ⟨hs1,hk1m⟩:=cfM_ok (n:=(k:Int)) (i:=(i:Int)) hA h8 hd (by omega);obtain ⟨hs2,hk2m⟩:=cfM_ok (n:=m - (k:Int)) (i:=(j:Int)) hA h8 hd (by omega);unfold cfM at hs1 hs2 hk1m hk2m hfa hfb;simp only [Int.toNat_natCast] at hfa hfb hla hlb hs1 hs2 hk1m hk2m;have hmul:(fm (fmR (monL ad (k:Int)) (csS ad af (k:Int))) i).length * (fm (fmR (monL ad (m - (k:Int))) (csS ad af (m - (k:Int)))) j).length≤121 * 121:=Nat.mul_le_mul hla hlb;have htl:=times_len ad (toS (fm (fmR (monL ad (k:Int)) (csS ad af (k:Int))) i)) (toS (fm (fmR (monL ad (m - (k:Int))) (csS ad af (m - (k:Int)))) j));rw [toS_len,toS_len] at htl;have hdl:=duL_len (r:=rw_ (csS ad af (k:Int)) i) (Nat.le_of_lt hj1)
        have hv9:(clV ad af m ((monL ad m).map (cf (toS (ofS (timesS ad (toS (fm (fmR (monL ad (k:Int)) (csS ad af (k:Int))) i)) (toS (fm (fmR (monL ad (m - (k:Int))) (csS ad af (m - (k:Int)))) j)))))))).getD 0 0=duF ad af m (k:Int) (rw_ (csS ad af (k:Int)) i) (rw_ (csS ad af (m - (k:Int))) j):=by rw [toS_ofS,hfa,hfb];rfl
        refine Jn (Ja (hK26 (Je fun _ hK28 _=>(Jl (Ei (Rs:=[_,_,_,_]) 20 [[], [], [], [], [3], [], [], [5,6], [5,6,7], [], [], [9,10], [9,10,11], [3,4,5,6,7,8,9,10,11,12], [1,2,3,4,5,6,7,8,9,10,11,12,13], [1,2,3,4,5,6,7,8,9,10,11,12,13,14], [1,2,3,4,5,6,7,8,9,10,11,12,13,14,15], [1,2,3,4,5,6,7,8,9,10,11,12,13,14,15,16], [0,1,2,3,4,5,6,7,8,9,10,11,12,13,14,15,16,17], [0,1,2,3,4,5,6,7,8,9,10,11,12,13,14,15,16,17,18]] [[], [23], [], [], [23], [], [], [], [], [], [], [], [], [], [13], [14], [14], [], [17], []] [[], [], [], [], [], [], [], [], [], [], [], [], [], [], [], [], [], [], [20], []] rfl rfl (by kernel_rfl) ?_)))));apply Jk 1 rfl
        iterate 3 focus (intros;(conv=>lhs;simp only [Jh,Jr,JJ,Ju,JI,eq_self,Nat.reduceEqDiff,reduceIte,Nat.reduceSub,Nat.reduceAdd,List.cons_append,List.nil_append]);all_goals rfl)
        ·
         intro gh X K zq zc zq2 zc2 zb zv hK;refine Jg (Jc rfl) rfl (Ji ?_);exact hK zq zc zq2 zc2 zb zv
        ·
         intro gh gh' h
         rfl
        apply Jk 2 rfl
        iterate 3 focus (intros;(conv=>lhs;simp only [Jh,Jr,JJ,Ju,JI,eq_self,Nat.reduceEqDiff,reduceIte,Nat.reduceSub,Nat.reduceAdd,List.cons_append,List.nil_append]);all_goals rfl)
        ·
         intro gh X K zq zc zq2 zc2 zb zv hK;refine Jg (Jz rfl At.z (by simpa [*] using ag35)) rfl (Ji ?_);exact hK zq zc zq2 zc2 zb zv
        ·
         intro gh gh' h
         rfl
        apply Jk 3 rfl
        iterate 3 focus (intros;(conv=>lhs;simp only [Jh,Jr,JJ,Ju,JI,eq_self,Nat.reduceEqDiff,reduceIte,Nat.reduceSub,Nat.reduceAdd,List.cons_append,List.nil_append]);all_goals rfl)
        ·
         intro gh X K zq zc zq2 zc2 zb zv hK;refine Jg (Jc rfl) rfl (Ji ?_);exact hK zq zc zq2 zc2 zb zv
        ·
         intro gh gh' h
         rfl
        apply Jk 4 rfl
        iterate 3 focus (intros;(conv=>lhs;simp only [Jh,Jr,JJ,Ju,JI,eq_self,Nat.reduceEqDiff,reduceIte,Nat.reduceSub,Nat.reduceAdd,List.cons_append,List.nil_append]);all_goals rfl)
        ·
         intro gh X K zq zc zq2 zc2 zb zv hK;refine Jg (Jt u35 rfl sz22 rfl) rfl (Ji ?_);exact hK zq zc zq2 zc2 zb zv
        ·
         intro gh gh' h
         rfl
        apply Jk 5 rfl
        iterate 3 focus (intros;(conv=>lhs;simp only [Jh,Jr,JJ,Ju,JI,eq_self,Nat.reduceEqDiff,reduceIte,Nat.reduceSub,Nat.reduceAdd,List.cons_append,List.nil_append]);all_goals rfl)
        ·
         intro gh X K zq zc zq2 zc2 zb zv hK;refine Jg (Jw rfl At.z rfl pl22) rfl (Ji ?_);exact hK zq zc zq2 zc2 zb zv
        ·
         intro gh gh' h
         rfl
        apply Jk 6 rfl
        iterate 3 focus (intros;(conv=>lhs;simp only [Jh,Jr,JJ,Ju,JI,eq_self,Nat.reduceEqDiff,reduceIte,Nat.reduceSub,Nat.reduceAdd,List.cons_append,List.nil_append]);all_goals rfl)
        ·
         intro gh X K zq zc zq2 zc2 zb zv hK;refine Jg (Jc rfl) rfl (Ji ?_);exact hK zq zc zq2 zc2 zb zv
        ·
         intro gh gh' h
         rfl
        apply Jk 7 rfl
        iterate 3 focus (intros;(conv=>lhs;simp only [Jh,Jr,JJ,Ju,JI,eq_self,Nat.reduceEqDiff,reduceIte,Nat.reduceSub,Nat.reduceAdd,List.cons_append,List.nil_append]);all_goals rfl)
        ·
         intro gh X K zq zc zq2 zc2 zb zv hK;refine Jg (Jc rfl) rfl (Ji ?_);exact hK zq zc zq2 zc2 zb zv
        ·
         intro gh gh' h
         rfl
        apply Jk 8 rfl
        iterate 3 focus (intros;(conv=>lhs;simp only [Jh,Jr,JJ,Ju,JI,eq_self,Nat.reduceEqDiff,reduceIte,Nat.reduceSub,Nat.reduceAdd,List.cons_append,List.nil_append]);all_goals rfl)
        ·
         intro gh X K zq zc zq2 zc2 zb zv hK;refine Jg (JP u33 sz39 rfl rfl rfl hi2 hxo39.sm) rfl (Ji ?_);exact hK zq zc zq2 zc2 zb zv
        ·
         intro gh gh' h
         rfl
        obtain ⟨qe67,ce67,he67,le67,Fe67⟩:=hxo39 i hi2;apply Jk 9 rfl
        iterate 3 focus (intros;(conv=>lhs;simp only [Jh,Jr,JJ,Ju,JI,eq_self,Nat.reduceEqDiff,reduceIte,Nat.reduceSub,Nat.reduceAdd,List.cons_append,List.nil_append]);all_goals rfl)
        ·
         intro gh X K zq zc zq2 zc2 zb zv hK;refine Jg (JO (cs:=[_]) rfl (one_cell he67) (hxo39.sm (i:=i) hi2) ag39) rfl (Ji ?_);exact hK zq zc zq2 zc2 zb zv
        ·
         intro gh gh' h
         rfl
        apply Jk 10 rfl
        iterate 3 focus (intros;(conv=>lhs;simp only [Jh,Jr,JJ,Ju,JI,eq_self,Nat.reduceEqDiff,reduceIte,Nat.reduceSub,Nat.reduceAdd,List.cons_append,List.nil_append]);all_goals rfl)
        ·
         intro gh X K zq zc zq2 zc2 zb zv hK;refine Jg (Jc rfl) rfl (Ji ?_);exact hK zq zc zq2 zc2 zb zv
        ·
         intro gh gh' h
         rfl
        apply Jk 11 rfl
        iterate 3 focus (intros;(conv=>lhs;simp only [Jh,Jr,JJ,Ju,JI,eq_self,Nat.reduceEqDiff,reduceIte,Nat.reduceSub,Nat.reduceAdd,List.cons_append,List.nil_append]);all_goals rfl)
        ·
         intro gh X K zq zc zq2 zc2 zb zv hK;refine Jg (Jc rfl) rfl (Ji ?_);exact hK zq zc zq2 zc2 zb zv
        ·
         intro gh gh' h
         rfl
        apply Jk 12 rfl
        iterate 3 focus (intros;(conv=>lhs;simp only [Jh,Jr,JJ,Ju,JI,eq_self,Nat.reduceEqDiff,reduceIte,Nat.reduceSub,Nat.reduceAdd,List.cons_append,List.nil_append]);all_goals rfl)
        ·
         intro gh X K zq zc zq2 zc2 zb zv hK;refine Jg (JP u33 sz39 rfl rfl rfl hj2 hxo44.sm) rfl (Ji ?_);exact hK zq zc zq2 zc2 zb zv
        ·
         intro gh gh' h
         rfl
        obtain ⟨qe71,ce71,he71,le71,Fe71⟩:=hxo44 j hj2;apply Jk 13 rfl
        iterate 3 focus (intros;(conv=>lhs;simp only [Jh,Jr,JJ,Ju,JI,eq_self,Nat.reduceEqDiff,reduceIte,Nat.reduceSub,Nat.reduceAdd,List.cons_append,List.nil_append]);all_goals rfl)
        ·
         intro gh X K zq zc zq2 zc2 zb zv hK;refine Jg (JO (cs:=[_]) rfl (one_cell he71) (hxo44.sm (i:=j) hj2) ag39) rfl (Ji ?_);exact hK zq zc zq2 zc2 zb zv
        ·
         intro gh gh' h
         rfl
        apply JX 14 rfl
        iterate 3 focus (intros;(conv=>lhs;simp only [Jh,Jr,JJ,Ju,JI,eq_self,Nat.reduceEqDiff,reduceIte,Nat.reduceSub,Nat.reduceAdd,List.cons_append,List.nil_append]);all_goals rfl)
        ·
         intro gh X K zq zc zq2 zc2 zb zv hK;refine Jx fn77 rfl rfl fun w hH=>(l01Times_c (M:=20) (N:=20) had Fe67 Fe71 hA.hn hA.hd (by rw [hfa];exact sumR_kex h8 hd (Nat.le_of_eq (hcn.row _ (rw_mem hi1)).len)) (by rw [hfb];exact sumR_kex h8 hd (Nat.le_of_eq (hcm.row _ (rw_mem hj1)).len)) (by rw [hfa];exact hs1.g) (by rw [hfb];exact hs2.g) (by omega) (by omega) (by omega) hH).mono ?_;rintro _ w ⟨qo72,co72,rfl,hH⟩;refine ⟨_,rfl,fun a hF=>JQ hF hH ?_⟩;refine Ji ?_;exact hK qo72 co72 zq2 zc2 zb zv
        ·
         intro gh gh' h;refine ⟨?_,?_⟩ <;> rfl
        apply JX 15 rfl
        iterate 3 focus (intros;(conv=>lhs;simp only [Jh,Jr,JJ,Ju,JI,eq_self,Nat.reduceEqDiff,reduceIte,Nat.reduceSub,Nat.reduceAdd,List.cons_append,List.nil_append]);all_goals rfl)
        ·
         intro gh X K zq zc zq2 zc2 zb zv hK;refine Jx fn69 rfl rfl fun w hH=>hH.lend .z fun Hl1 hle1 hA1 hB1 hH=>(l03Class_c (M:=40) (had.le hle1) (haf.le hle1) (own_terms (by rw [hfa,hfb];exact (hs1.times hs2).wf (by omega)) hA1) hG (by omega) hfm (by rw [ofS_len];omega) (by rw [toS_ofS,hfa,hfb];exact hs1.times hs2) (by rw [toS_ofS,hfa,hfb];exact du_mon (by omega) h8 hd hs1 hs2 hk1m hk2m hfm.1.1 (by omega)) hH).mono ?_;rintro _ w ⟨qo73,co73,rfl,hH⟩;replace hH:=hB1 _ _ hH;refine ⟨_,rfl,fun a hF=>JQ hF hH ?_⟩;refine Js .z (Js (.s .z) (Ji ?_));exact hK qo73 co73 zq2 zc2 zb zv
        ·
         intro gh gh' h;refine ⟨?_,?_⟩ <;> (first | simp only [h 13 rfl] | rfl)
        apply Jk 16 rfl
        iterate 3 focus (intros;(conv=>lhs;simp only [Jh,Jr,JJ,Ju,JI,eq_self,Nat.reduceEqDiff,reduceIte,Nat.reduceSub,Nat.reduceAdd,List.cons_append,List.nil_append]);all_goals rfl)
        ·
         intro gh X K zq zc zq2 zc2 zb zv hK;refine Jg (Er (i':=0) u22 sz2 rfl rfl rfl (by rw [clV_len];omega) At.z) rfl (Ji ?_);exact hK zq zc zq2 zc2 zb zv
        ·
         intro gh gh' h
         first | simp only [h 13 rfl,h 14 rfl] | rfl
        apply Jk 17 rfl
        iterate 3 focus (intros;(conv=>lhs;simp only [Jh,Jr,JJ,Ju,JI,eq_self,Nat.reduceEqDiff,reduceIte,Nat.reduceSub,Nat.reduceAdd,List.cons_append,List.nil_append]);all_goals rfl)
        ·
         intro gh X K zq zc zq2 zc2 zb zv hK;refine Jg (ED rfl At.z (intsC_get (by rw [clV_len];omega)) pl2) rfl (Ji ?_);exact hK zq zc zq2 zc2 zb zv
        ·
         intro gh gh' h
         first | simp only [h 13 rfl,h 14 rfl] | rfl
        apply JX 18 rfl
        iterate 3 focus (intros;(conv=>lhs;simp only [Jh,Jr,JJ,Ju,JI,eq_self,Nat.reduceEqDiff,reduceIte,Nat.reduceSub,Nat.reduceAdd,List.cons_append,List.nil_append]);all_goals rfl)
        ·
         intro gh X K zq zc zq2 zc2 zb zv hK;refine EF (MK.lit1I u22 ze2 sz2 rfl) rfl fun qo76 co76=>(Ji ?_);exact hK qo76 co76 zq2 zc2 zb zv
        ·
         intro gh gh' h;refine ⟨?_,?_⟩ <;> (first | simp only [h 13 rfl,h 14 rfl] | rfl)
        apply JX 19 rfl
        iterate 3 focus (intros;(conv=>lhs;simp only [Jh,Jr,JJ,Ju,JI,eq_self,Nat.reduceEqDiff,reduceIte,Nat.reduceSub,Nat.reduceAdd,List.cons_append,List.nil_append]);all_goals rfl)
        ·
         intro gh X K zq zc zq2 zc2 zb zv hK;refine J.appendOI u22 ze2 sz2 by2 rfl rfl (by simp only [List.length_singleton];omega) (.s .z) At.z (fun _ _=>At.z) rfl fun qo77 co77=>(Js .z (Js (.s .z) (Ji ?_)));exact hK qo77 co77 zq2 zc2 zb zv
        ·
         intro gh gh' h;refine ⟨?_,?_⟩ <;> (first | simp only [h 13 rfl,h 14 rfl,h 17 rfl] | rfl)
        apply Jk 20 rfl
        iterate 3 focus (intros;(conv=>lhs;simp only [Jh,Jr,JJ,Ju,JI,eq_self,Nat.reduceEqDiff,reduceIte,Nat.reduceSub,Nat.reduceAdd,List.cons_append,List.nil_append]);all_goals rfl)
        ·
         intro gh X K zq zc zq2 zc2 zb zv hK;refine Jg (Jd rfl) rfl (Ji ?_);exact hK zq zc zq2 zc2 zb zv
        ·
         intro gh gh' h
         first | simp only [h 13 rfl,h 14 rfl,h 17 rfl,h 18 rfl] | rfl
        apply Ej [0,1,2,3,4,5,6,7,8,9,10,11,12,13,14,15,16,17,18,19] [0,1,2,3,4,5,6,7,8,9,10,11,12,13,14,15,16,17,18,19,21,22,23] foll0 rfl rfl rfl (by rfl)
        iterate 2 focus (intros;(conv=>lhs;simp only [Jh,Jr,JJ,Ju,JI,eq_self,Nat.reduceEqDiff,reduceIte,Nat.reduceSub,Nat.reduceAdd,List.cons_append,List.nil_append]);all_goals rfl)
        intro gh;generalize (gh 13).c=co72;generalize (gh 13).q=qo72;generalize (gh 14).c=co73;generalize (gh 14).q=qo73;generalize (gh 17).c=co76;generalize (gh 17).q=qo76;generalize (gh 18).c=co77;generalize (gh 18).q=qo77;clear gh;refine JF (Ja (hK28 (Jb (Jg (Jc rfl) rfl (Jg (JA rfl rfl (by first | exact nw _ (by omega) | rfl)) rfl (Jg (Jd rfl) rfl (Jf (Ja (JN .z (JN .z (JN .z ?_)))))))))));exact hAg2 (qo77,co77,j+1) (by show j+1≤_;omega) (by show (csS ad af (m - (k:Int))).length - (j+1)<(csS ad af (m - (k:Int))).length - j;omega) 29 rfl rfl ⟨rfl,⟨(by rw [duL_succ hj1,← hv9];rfl),trivial⟩⟩ rfl (by dsimp only;rw [duL_succ hj1,← hv9])
       ·
        have hje:j=(csS ad af (m - (k:Int))).length:=by omega
        refine JH (Jj (Jj (JM (Ja (hK24 (Jb (Jg (Jc rfl) rfl (Jg (Jc rfl) rfl (EF (EG u57 ze22 sz22 rfl rfl) rfl fun qo80 co80=>(Ey u57 ze22 sz22 by22 rfl rfl rfl rfl (by omega) .z (.s (.s .z)) (fun _ _=>(.s (.s .z))) rfl fun qo81 co81=>(Jg (Jd rfl) rfl (Jf (JF (Ja (hK22 (Jb ?_))))))))))))))));refine Jg (Jc rfl) rfl (Jg (JA rfl rfl (by first | exact nw _ (by omega) | rfl)) rfl (Jg (Jd rfl) rfl (Jf (Ja (Js (.s (.s (.s (.s .z)))) (Js (.s (.s (.s (.s .z)))) (Js (.s (.s .z)) (Js (.s (.s (.s (.s .z)))) (Js (.s (.s (.s (.s .z)))) (EJ.isSnoc (rs:=(duK ad af m (k:Int) i)) rfl rfl (JN (.s .z) ?_)))))))))));exact hAg1 (qo81,co81,setV vs (duK ad af m (k:Int) i).length (q2,c2),i+1) (by show i+1≤_;omega) (by show (csS ad af (k:Int)).length - (i+1)<(csS ad af (k:Int)).length - i;omega) 23 rfl rfl ⟨rfl,⟨(by rw [duK_succ hi1,List.length_append];rfl),trivial⟩⟩ rfl (by dsimp only;rw [duK_succ hi1,slicesI_set rfl,List.length_append,duL_end hje];rfl)
      ·
       have hie:i=(csS ad af (k:Int)).length:=by omega
       refine CJ.reL (L':=ownRs 22 2 q c vs (duK ad af m (k:Int) i)::_) (fun w hH=>((hH.front .z).front (.s .z)).star) ?_
       have hmok : ∀r∈duK ad af m (k:Int) i,RowOk (csS ad af (m - (k:Int))).length r:=by rw [duK_end hie];exact duM_ok hA h8 hd
       have hmll:(duK ad af m (k:Int) i).length=i:=duK_len hi;have hde:duK ad af m (k:Int) i=duM ad af m (k:Int):=duK_end hie;refine JH (Jj (Jj (JM (Ja (hK18 (Je fun _ hK29 _=>(Jb (Jg (Jc rfl) rfl (Jg (Jm u33 rfl rfl) rfl (Jg (Jc rfl) rfl (Jg (Jm u33 rfl rfl) rfl (Jg (Ek rfl rfl) rfl (Jg (Jc rfl) rfl (El (jd:=87) rfl (fun h87=>?_) (fun h87=>?_)))))))))))))))
       ·
        try have h87p:=of_decide_eq_true h87
        refine JV rfl rfl rfl h87 (JV rfl rfl rfl h87 (JV rfl rfl rfl h87 (JV rfl rfl rfl h87 (JV rfl rfl rfl h87 (JV rfl rfl rfl h87 (Jg (Ea rfl h87 rfl) rfl (Jf (Ja (hK29 (EE rfl (Je fun _ hK30 _=>(Jb (Jg (Jd rfl) rfl (Jg (Jd rfl) rfl (Jf ?_)))))))))))))));refine Ja (hK30 (Jv (JR (Jp (Jp (JR (Jp (Ep rfl (Res.tmp rfl) (Res.tmp rfl) fun w hH=>?_))))))));replace hH:=hH.tail;replace hH:=hH.tail;exact ⟨tup_bi (duV_b (k:=k) (by omega) (duB_1 (by omega))).symm hC0.symm,hH.weaken (((hlf29.trans hlk).trans hleo39).trans hleo44) hw0 hw1⟩
       ·
        try have h87p:=of_decide_eq_false h87
        refine JY (Jc rfl) rfl rfl rfl h87 (EC .z fun Hro hlero hAro=>?_);replace had:=had.le hlero;replace haf:=haf.le hlero;replace hI29:=hI29.le hlero;replace hxo39:=hxo39.le hlero;replace hxo44:=hxo44.le hlero;have hxro:=own_rows hAro;have hcro:=own_le hAro.1;refine J.gcall fn78 rfl rfl h87 rfl rfl fun w hH=>(l03Reduce_c (W:=(csS ad af (m - (k:Int))).length) hxro hmok (by omega) (by omega) hH).mono ?_;rintro _ w ⟨Hf89,qf89,cf89,hlf89,hI89,hcc89,rfl,hH⟩;refine ⟨_,rfl,fun a hF=>JQ hF hH ?_⟩;replace had:=had.le hlf89;replace haf:=haf.le hlf89;replace hI29:=hI29.le hlf89;replace hxo39:=hxo39.le hlf89;replace hxo44:=hxo44.le hlf89;replace hxro:=hxro.le hlf89;refine JY (Jm u57 rfl rfl) rfl rfl rfl h87 (JY (Jc rfl) rfl rfl rfl h87 (JY (Jm u33 rfl rfl) rfl rfl rfl h87 (JY (Ek rfl rfl) rfl rfl rfl h87 (Jg (JZ rfl h87 rfl) rfl (Jf (Ja (hK29 (Jo rfl (fun h94=>?_) (fun h94=>?_)))))))))
        ·
         try rw [hde] at h94
         refine Je fun _ hK31 _=>(Jb (Jg (Jd rfl) rfl (Jg (Jd rfl) rfl (Jf (Ja (hK31 (Jv (JR (Jp (Jp (JR (Jp (Ep rfl (Res.tmp rfl) (Res.tmp rfl) fun w hH=>?_)))))))))))));replace hH:=hH.tail;exact ⟨tup_bi (duV_b (k:=k) (by omega) (duB_2 (by omega))).symm hC0.symm,hH.weaken (((((hlf29.trans hlk).trans hleo39).trans hleo44).trans hlero).trans hlf89) hw0 hw1⟩
        ·
         try rw [hde] at h94
         refine Jn (JF (Ja (hK16 (Jb (Jg (Jc rfl) rfl (Jg (JA rfl rfl (by first | exact nw _ (by omega) | rfl)) rfl (Jg (Jd rfl) rfl (Jf (Ja ?_)))))))));exact hAg0 (Hf89,k+1) ⟨((((hlk.trans hleo39).trans hleo44).trans hlero).trans hlf89),by omega,upto hI (duB_y (by omega) (by omega))⟩ (by show (m+1 - ((k+1:Nat):Int)).toNat<(m+1 - (k:Int)).toNat;omega) 39 rfl rfl ⟨rfl,trivial⟩ rfl rfl
     ·
      refine JH (Jj (Jj (JM (Ja (hK12 (Je fun _ hK32 _=>(Jb (Jg (Jd rfl) rfl (Jg (Jd rfl) rfl (Jf (Ja (hK32 (Jv (Ep rfl (Res.tmp rfl) (Res.tmp rfl) fun w hH=>?_))))))))))))));replace hH:=hH.tail;exact ⟨tup_bi (duV_y hC0 hcs1 fun j hj=>hI j (by omega)).symm hC0.symm,hH.weaken (hlf29.trans hlk) hw0 hw1⟩
theorem flat_at {α β:Type} {N:Nat} {f:α→List β} (hf : ∀a,(f a).length=N) : ∀{A:List α} {i j:Nat} (hi:i<A.length),j<N→(A.flatMap f)[i * N+j]? = (f A[i])[j]?
 | [],i,j,hi,_=>by simp at hi
 | a::A,0,j,_,hj=>by
  rw [List.flatMap_cons,Nat.zero_mul,Nat.zero_add,List.getElem?_append_left (by rw [hf];exact hj)]
  rfl
 | a::A,i+1,j,hi,hj=>by
  have ih:=flat_at hf (A:=A) (i:=i) (j:=j) (by simpa using hi) hj
  rw [List.flatMap_cons,List.getElem?_append_right (by rw [hf,Nat.succ_mul];omega),hf,show (i+1) * N+j - N=i * N+j by rw [Nat.succ_mul];omega,ih]
  rfl
section
variable {ds : List Int} {fs : List (List Term)} {m n p q : Int} {i j : Nat}
theorem ptS_at (hi:i<(csS ds fs p).length) (hj:j<(csS ds fs q).length):rw_ (ptS ds fs p q) (i * (csS ds fs q).length+j)=ptR ds fs p q (rw_ (csS ds fs p) i) (rw_ (csS ds fs q) j):=by
 have h:=flat_at (f:=fun r=>(csS ds fs q).map (ptR ds fs p q r)) (N:=(csS ds fs q).length) (fun a=>by simp) hi hj;unfold ptS rw_;rw [List.getD_eq_getElem?_getD,h,List.getElem?_map,List.getElem?_eq_getElem hj,List.getD_eq_getElem?_getD,List.getElem?_eq_getElem hi,List.getD_eq_getElem?_getD,List.getElem?_eq_getElem hj]
 rfl
theorem ptR_du {r s:List Int}:(ptR ds fs n (m - n) r s).getD 0 0=duF ds fs m n r s:=by
 unfold ptR duF;rw [show n+(m - n)=m by omega]
theorem idx_lt {C D:Nat} (hi:i<C) (hj:j<D) (h:C=D):i * C+j<C * D:=by
 subst h;have h1:(i+1) * C≤C * C:=Nat.mul_le_mul_right _ hi;rw [Nat.succ_mul] at h1
 omega
theorem idx_bd {C D:Nat} (hi:i<C) (h:C≤121):i * C≤14641:=by
 have:i * C≤121 * 121:=Nat.mul_le_mul (by omega) h
 omega
def du1 (ds:List Int) (fs:List (List Term)) (m:Int):Int:=if isAlg ds fs then if decide (0≤m) && decide (m≤14) then 0 else 2 else 1
theorem du_eq:firstOf [codeA ds fs [],if (!(decide (0≤m) && decide (m≤14)))=true then 2 else 0]=du1 ds fs m:=by
 rw [pc_f];unfold du1
 cases (decide (0≤m) && decide (m≤14)) <;> rfl
theorem du1_y (h : ¬du1 ds fs m≠0):isAlg ds fs=true∧(decide (0≤m) && decide (m≤14))=true:=by
 unfold du1 at h
 cases h1:isAlg ds fs with
 | false=>rw [h1] at h;simp at h
 | true=>
  rw [h1] at h
  cases h2:(decide (0≤m) && decide (m≤14)) with
  | true=>exact ⟨rfl,rfl⟩
  | false=>rw [h2] at h;simp at h
theorem duC_p (h:du1 ds fs m≠0):duC ds fs m=du1 ds fs m:=by
 unfold du1 at h ⊢;unfold duC
 cases h1:isAlg ds fs with
 | false=>rfl
 | true=>
  cases h2:(decide (0≤m) && decide (m≤14)) with
  | false=>rfl
  | true=>rw [h1,h2] at h;exact absurd rfl h
end
theorem HasDuality_c {B:World} {H0 H:HP} {L:List SA} {w:World} {qad qaf:Option Addr} {cad caf:Nat} {ad:List Int} {af:List (List Term)} {m:Int} (had:Ints H qad ad) (haf:Forms H qaf af) (hn8:ad.length≤1048576) (hn9:af.length≤1048576) (hl9 : ∀i,i<af.length→(fm af i).length≤1048576) (hH:Hp B H0 H L w):Calls Tryz.prog 32 [.agg [.slice qad ad.length cad,.slice qaf af.length caf].toArray,.int .i64 m].toArray w fun e w'=>e = .returned (.tuple #[.bool (duV ad af m),.int .i64 (duC ad af m)])∧Hp B H0 H L w':=by
 refine Jy Tryz.func32 rfl 104 rfl rfl [(0,.agg [.slice qad ad.length cad,.slice qaf af.length caf].toArray),(1,.int .i64 m)] rfl hH ?_;have hw0:=hH.old;have hw1:=hH.le;clear hH;refine Je fun _ hK1 _=>(Jb (Ef rfl rfl rfl fun g2=>(J.freezeRow .z fun Hz2 hlez2 hcz2=>?_)));replace had:=had.le hlez2;replace haf:=haf.le hlez2;have pad:CellAt Hz2 g2 0 (.slice qad ad.length cad):=hcz2 0 _ rfl;have paf:CellAt Hz2 g2 1 (.slice qaf af.length caf):=hcz2 1 _ rfl;refine Jg (Jd rfl) rfl (Jg (Jd rfl) rfl (Jf (Ja (hK1 (Je fun _ hK2 _=>(Je fun _ hK3 _=>(Jb (Jx fn80 rfl rfl fun w hH=>(algebraCode_c pad paf had haf (forms_nil Hz2) hn8 hn9 hl9 (by simp) (fun i hi=>by simp at hi) hH).mono ?_))))))));rintro _ w ⟨rfl,hH⟩;refine ⟨_,rfl,fun a hF=>JQ hF hH ?_⟩;refine Jg (Jc rfl) rfl (Jx fn82 rfl rfl fun w hH=>(within_c hH).mono ?_);rintro _ w ⟨rfl,hH⟩;refine ⟨_,rfl,fun a hF=>JQ hF hH ?_⟩;refine Jg (Es rfl) rfl (Jx fn81 rfl rfl fun w hH=>(when_c hH).mono ?_);rintro _ w ⟨rfl,hH⟩;refine ⟨_,rfl,fun a hF=>JQ hF hH ?_⟩;refine J.litI2 u22 ze2 sz2 rfl rfl rfl fun g21=>(Jx fn79 rfl rfl fun w hH=>hH.lend .z fun Hl1 hle1 hA1 hB1 hH=>(first_c (own_ints hA1) (by simp) hH).mono ?_);rintro _ w ⟨rfl,hH⟩;replace hH:=hB1 _ _ hH;refine ⟨_,rfl,fun a hF=>JQ hF hH ?_⟩;refine Jg (Jd rfl) rfl (Jf (Ja (hK3 (Je fun _ hK4 _=>(Jb (Jg (Jc rfl) rfl (Jg (Ek rfl rfl) rfl (Jf (Ja (hK4 (Jo rfl (fun h24=>?_) (fun h24=>?_))))))))))))
 ·
  rw [du_eq] at h24 ⊢;refine Je fun _ hK5 _=>(Jb (Jg (Jc rfl) rfl (Jg (Jd rfl) rfl (Jg (Jd rfl) rfl (Jf (Ja (hK5 (Jv (Jp (Ep rfl (Res.tmp rfl) (Res.tmp rfl) fun w hH=>?_))))))))));replace hH:=hH.tail;exact ⟨tup_bi (duV_n (by rw [duC_p h24];exact h24)).symm (duC_p h24).symm,hH.weaken hlez2 hw0 hw1⟩
 ·
  rw [du_eq] at h24;obtain ⟨hG,hpA⟩:=du1_y h24
  have hpq:0≤m∧m≤14:=by have:=hpA;simpa using this
  have hw:=haf.wfss;have hA:=isAlg_ok hG hw;have h8:=hA.hn;have hd:=alg_112 hG;refine Jn (Ja (hK2 (Je fun _ hK6 _=>(Jb (Jx fn83 rfl rfl fun w hH=>(newComplex_c pad paf had haf hH).mono ?_)))));rintro _ w ⟨Hf26,bn26,ln26,hlf26,pn260,pn261,rfl,hH⟩;refine ⟨_,rfl,fun a hF=>JQ hF hH ?_⟩;replace had:=had.le hlf26;replace haf:=haf.le hlf26;replace pad:=pad.le hlf26;replace paf:=paf.le hlf26;refine Jg (Jd rfl) rfl (Jf (Ja (hK6 (Je fun _ hK7 _=>(Je fun _ hK8 _=>(Jb (Jg (Jc rfl) rfl (Jg (Jc rfl) rfl (Jx fn84 rfl rfl fun w hH=>(upTo_c pn260 pn261 pad paf had haf hd h8 (by omega) hH).mono ?_)))))))));rintro _ w ⟨rfl,hH⟩;refine ⟨_,rfl,fun a hF=>JQ hF hH ?_⟩;refine Jg (Jd rfl) rfl (Jf (Ja (hK8 (Je fun _ hK9 _=>(Jb (Jg (Jc rfl) rfl (Jg (Ek rfl rfl) rfl (Jf (Ja (hK9 (Jo rfl (fun h31=>?_) (fun h31=>?_))))))))))))
  ·
   obtain ⟨e3,hwn⟩:=upC_n h31;refine Je fun _ hK10 _=>(Jb (Jg (Jc rfl) rfl (Jg (Jd rfl) rfl (Jg (Jd rfl) rfl (Jf (Ja (hK10 (Jv (Jp (Ep rfl (Res.tmp rfl) (Res.tmp rfl) fun w hH=>?_))))))))));replace hH:=hH.tail;replace hH:=hH.tail;have hc:=duC_3 (fs:=af) hG hpA hwn;exact ⟨tup_bi (duV_n (by rw [hc];decide)).symm (e3.trans hc.symm),hH.weaken (hlez2.trans hlf26) hw0 hw1⟩
  ·
   refine CJ.reL (fun w hH=>(hH.front (.s .z)).tail) ?_;have hwi:wiB ad 0 (m+1)=true:=upC_z h31;have hC0:=duC_0 (fs:=af) hG hpA hwi;have hfm:fit3 ad m:=wi_f3 hwi (by omega) (by omega);refine Jn (Ja (hK7 (Je fun _ hK11 _=>(Je fun _ hK12 _=>(Jb (Jg (Jc rfl) rfl (Jg (Jc rfl) rfl (Jx fn68 rfl rfl fun w hH=>(at_c pn260 pn261 pad paf had haf hd h8 (by omega) hA hfm (fun m hm hf=>hom_of hG hw h8 hd (by omega) hf) CpxOk.nil (Nxt.nil _) (hH.front .z)).mono ?_))))))));rintro _ w ⟨Hf35,ls35,⟨b35,p35,⟨ql35,kl35,cl35⟩,⟨qm35,km35,cm35⟩,⟨qz35,kz35,cz35⟩,⟨qy35,ky35,cy35⟩,⟨qx35,kx35,cx35⟩⟩,hlf35,hC35,hN35,hx35,⟨hL35,hM35,hkp35⟩,rfl,hH⟩;refine ⟨_,rfl,fun a hF=>JQ hF hH ?_⟩;replace had:=had.le hlf35;replace haf:=haf.le hlf35;replace pad:=pad.le hlf35;replace paf:=paf.le hlf35;replace pn260:=pn260.le hlf35;replace pn261:=pn261.le hlf35;obtain rfl:kl35=(monL ad (m)).length:=(hC35.ok _ hx35).one.len;have hpw35:Pows Hf35 ql35 (monL ad (m)):=(hC35.ok _ hx35).one.pw;have hpl35:SumH Hf35 (.map (some p35)) (plM (monL ad (m))):=(hC35.ok _ hx35).one.pl;obtain ⟨⟨e1,hz35⟩,⟨e2,hb35⟩,e3,hs35⟩:(kz35=(clS ad af (m)).length∧RowsR Hf35 qz35 (clS ad af (m)))∧(ky35=(bdS ad af (m)).length∧RowsR Hf35 qy35 (bdS ad af (m)))∧kx35=(csS ad af (m)).length∧RowsR Hf35 qx35 (csS ad af (m)):=hL35;subst e1 e2 e3;refine Jg (JG rfl) rfl (Jg (Jt u95 rfl sz57 rfl) rfl (Jg (EQ (b:=b35) (k:=5) (v:=.slice qx35 (csS ad af (m)).length cx35) rfl At.z hx35 rfl rfl pl57) rfl (Jg (Jm u57 rfl rfl) rfl (Jg (Ek rfl rfl) rfl (Jf (Ja (hK12 (Jo rfl (fun h40=>?_) (fun h40=>?_)))))))))
   ·
    refine Je fun _ hK13 _=>(Jb (Jg (Jd rfl) rfl (Jg (Jd rfl) rfl (Jf (Ja (hK13 (Jv (Jp (Ep rfl (Res.tmp rfl) (Res.tmp rfl) fun w hH=>?_)))))))));replace hH:=hH.tail;exact ⟨tup_bi (duV_1 (by omega)).symm hC0.symm,hH.weaken ((hlez2.trans hlf26).trans hlf35) hw0 hw1⟩
   ·
    have hcs1:(csS ad af m).length=1:=by omega
    refine Jn (Ja (hK11 (Je fun _ hK14 _=>(Je fun _ hK15 _=>(Jb (Jg (Jc rfl) rfl (Jg (JA rfl rfl (nw _ (by omega))) rfl (Jg (Jc rfl) rfl (Jf (Ja (hK15 (Jl (JD (σ:=HP × List (Int × Lv) × Nat) (fun ⟨Hk,lsk,k⟩=>[(43,.int .i64 (k:Int))]) (fun ⟨Hk,lsk,k⟩=>Hk) (fun ⟨Hk,lsk,k⟩=>cpx ln26 lsk::L) (fun ⟨Hk,lsk,k⟩=>Le Hf35 Hk∧(CpxOk Hk ad af (fun _=>False) lsk∧Nxt (fun _=>False) lsk)∧(k:Int)≤m+1∧∀j:Nat,j<k→duB ad af m (j:Int)=true) (fun ⟨Hk,lsk,k⟩=>(m+1 - (k:Int)).toNat) (_,ls35,0) ⟨Le.refl _,⟨hC35,hN35⟩,by omega,fun j hj=>by omega⟩ ⟨rfl,trivial⟩ rfl rfl ?_)))))))))))));rintro ⟨Hk,lsk,k⟩ ⟨hlk,⟨hCk,hNk⟩,hk,hI⟩ _ hAg0;replace had:=had.le hlk;replace haf:=haf.le hlk;replace pad:=pad.le hlk;replace paf:=paf.le hlk;replace pn260:=pn260.le hlk;replace pn261:=pn261.le hlk;replace hC35:=hC35.le hlk;replace hpw35:=hpw35.le hlk;replace hpl35:=hpl35.le hlk;replace hz35:=hz35.le hlk;replace hb35:=hb35.le hlk;replace hs35:=hs35.le hlk;refine Je fun _ hK16 _=>(Jb (Jg (JK rfl rfl) rfl (Jf (Ja (hK16 (Je fun _ hK17 _=>(Jo rfl (fun h44=>?_) (fun h44=>?_))))))))
    ·
     have hfn:fit3 ad (k:Int):=wi_f3 hwi (by omega) (by omega);have hfk:fit3 ad (m - (k:Int)):=wi_f3 hwi (by omega) (by omega)
     have hft:fit3 ad ((k:Int)+(m - (k:Int))):=by rw [show (k:Int)+(m - (k:Int))=m by omega];exact hfm
     have hcnl:=csS_len (n:=(k:Int)) hA h8 hd;have hcml:=csS_len (n:=m - (k:Int)) hA h8 hd;refine Jn (Ja (hK17 (Je fun _ hK18 _=>(Jl (Je fun _ hK19 _=>(Jb (Jg (Jc rfl) rfl (Jg (Jd rfl) rfl (Jf (Ja (hK19 (Je fun _ hK20 _=>(Jb (Jg (Jc rfl) rfl (Jg (Jc rfl) rfl (Jx fn68 rfl rfl fun w hH=>(at_c pn260 pn261 pad paf had haf hd h8 (by omega) hA hfn (fun m hm hf=>hom_of hG hw h8 hd (by omega) hf) hCk hNk (hH.front .z)).mono ?_))))))))))))))));rintro _ w ⟨Hf48,ls48,⟨b48,p48,⟨ql48,kl48,cl48⟩,⟨qm48,km48,cm48⟩,⟨qz48,kz48,cz48⟩,⟨qy48,ky48,cy48⟩,⟨qx48,kx48,cx48⟩⟩,hlf48,hC48,hN48,hx48,⟨hL48,hM48,hkp48⟩,rfl,hH⟩;refine ⟨_,rfl,fun a hF=>JQ hF hH ?_⟩;replace had:=had.le hlf48;replace haf:=haf.le hlf48;replace pad:=pad.le hlf48;replace paf:=paf.le hlf48;replace pn260:=pn260.le hlf48;replace pn261:=pn261.le hlf48;replace hC35:=hC35.le hlf48;replace hpw35:=hpw35.le hlf48;replace hpl35:=hpl35.le hlf48;replace hz35:=hz35.le hlf48;replace hb35:=hb35.le hlf48;replace hs35:=hs35.le hlf48;replace hCk:=hCk.le hlf48;obtain rfl:kl48=(monL ad ((k:Int))).length:=(hC48.ok _ hx48).one.len;have hpw48:Pows Hf48 ql48 (monL ad ((k:Int))):=(hC48.ok _ hx48).one.pw;have hpl48:SumH Hf48 (.map (some p48)) (plM (monL ad ((k:Int)))):=(hC48.ok _ hx48).one.pl;obtain ⟨⟨e1,hz48⟩,⟨e2,hb48⟩,e3,hs48⟩:(kz48=(clS ad af ((k:Int))).length∧RowsR Hf48 qz48 (clS ad af ((k:Int))))∧(ky48=(bdS ad af ((k:Int))).length∧RowsR Hf48 qy48 (bdS ad af ((k:Int))))∧kx48=(csS ad af ((k:Int))).length∧RowsR Hf48 qx48 (csS ad af ((k:Int))):=hL48;subst e1 e2 e3;refine Jg (JG rfl) rfl (Jg (Jt u95 rfl sz57 rfl) rfl (Jg (EQ (b:=b48) (k:=5) (v:=.slice qx48 (csS ad af ((k:Int))).length cx48) rfl At.z hx48 rfl rfl pl57) rfl (Jg (Jm u57 rfl rfl) rfl (EF (EM u57 sz22) rfl fun qo53 co53=>(J.is0 2 (Jg (Jd rfl) rfl (Jg (Jd rfl) rfl (Jf (Ja (hK20 (Je fun _ hK21 _=>(Je fun _ hK22 _=>(Jb (Jg (Jc rfl) rfl (Jg (Jc rfl) rfl ?_)))))))))))))));refine Jg (Jc rfl) rfl (Jg (Jc rfl) rfl (Jg (EN rfl rfl (nw _ (by omega))) rfl (Jx fn68 rfl rfl fun w hH=>(at_c pn260 pn261 pad paf had haf hd h8 (by omega) hA hfk (fun m hm hf=>hom_of hG hw h8 hd (by omega) hf) hC48 hN48 (hH.front (.s (.s .z)))).mono ?_)));rintro _ w ⟨Hf59,ls59,⟨b59,p59,⟨ql59,kl59,cl59⟩,⟨qm59,km59,cm59⟩,⟨qz59,kz59,cz59⟩,⟨qy59,ky59,cy59⟩,⟨qx59,kx59,cx59⟩⟩,hlf59,hC59,hN59,hx59,⟨hL59,hM59,hkp59⟩,rfl,hH⟩;refine ⟨_,rfl,fun a hF=>JQ hF hH ?_⟩;replace had:=had.le hlf59;replace haf:=haf.le hlf59;replace pad:=pad.le hlf59;replace paf:=paf.le hlf59;replace pn260:=pn260.le hlf59;replace pn261:=pn261.le hlf59;replace hC35:=hC35.le hlf59;replace hpw35:=hpw35.le hlf59;replace hpl35:=hpl35.le hlf59;replace hz35:=hz35.le hlf59;replace hb35:=hb35.le hlf59;replace hs35:=hs35.le hlf59;replace hCk:=hCk.le hlf59;replace hC48:=hC48.le hlf59;replace hpw48:=hpw48.le hlf59;replace hpl48:=hpl48.le hlf59;replace hz48:=hz48.le hlf59;replace hb48:=hb48.le hlf59;replace hs48:=hs48.le hlf59;obtain rfl:kl59=(monL ad ((m - (k:Int)))).length:=(hC59.ok _ hx59).one.len;have hpw59:Pows Hf59 ql59 (monL ad ((m - (k:Int)))):=(hC59.ok _ hx59).one.pw;have hpl59:SumH Hf59 (.map (some p59)) (plM (monL ad ((m - (k:Int))))):=(hC59.ok _ hx59).one.pl;obtain ⟨⟨e1,hz59⟩,⟨e2,hb59⟩,e3,hs59⟩:(kz59=(clS ad af ((m - (k:Int)))).length∧RowsR Hf59 qz59 (clS ad af ((m - (k:Int)))))∧(ky59=(bdS ad af ((m - (k:Int)))).length∧RowsR Hf59 qy59 (bdS ad af ((m - (k:Int)))))∧kx59=(csS ad af ((m - (k:Int)))).length∧RowsR Hf59 qx59 (csS ad af ((m - (k:Int)))):=hL59;subst e1 e2 e3;refine Jg (JG rfl) rfl (Jg (Jt u95 rfl sz57 rfl) rfl (Jg (EQ (b:=b59) (k:=5) (v:=.slice qx59 (csS ad af ((m - (k:Int)))).length cx59) rfl At.z hx59 rfl rfl pl57) rfl (Jg (Jm u57 rfl rfl) rfl (Jg (Ek rfl rfl) rfl (Jf (Ja (hK22 (Jo rfl (fun h64=>?_) (fun h64=>?_)))))))))
     ·
      refine Je fun _ hK23 _=>(Jb (Jg (Jd rfl) rfl (Jg (Jd rfl) rfl (Jf (Ja (hK23 (Jv (Jp (JR (Jp (Jp (JR (Jp (Ep rfl (Res.tmp rfl) (Res.tmp rfl) fun w hH=>?_))))))))))))));replace hH:=hH.tail;replace hH:=hH.tail;replace hH:=hH.tail;exact ⟨tup_bi (duV_b (k:=k) (by omega) (duB_1 (by omega))).symm hC0.symm,hH.weaken (((((hlez2.trans hlf26).trans hlf35).trans hlk).trans hlf48).trans hlf59) hw0 hw1⟩
     ·
      have hcc:(csS ad af (k:Int)).length=(csS ad af (m - (k:Int))).length:=by omega
      have hptl:=ptS_len (ds:=ad) (fs:=af) (p:=(k:Int)) (q:=m - (k:Int));refine Jn (Ja (hK21 (Je fun _ hK24 _=>(Jb (Jg (Jc rfl) rfl (Jg (Jc rfl) rfl (Jg (Jc rfl) rfl (Jg (Jc rfl) rfl (Jg (EN rfl rfl (nw _ (by omega))) rfl (Jx fn85 rfl rfl fun w hH=>(table_c pn260 pn261 pad paf had haf hG (by omega) (by omega) (by omega) hfn hfk hft hC59 hN59 (hH.front .z)).mono ?_))))))))));rintro _ w ⟨Hf70,ls70,qo70,co70,vso70,hlf70,hC70,hN70,rfl,hH⟩;refine ⟨_,rfl,fun a hF=>JQ hF hH ?_⟩;replace had:=had.le hlf70;replace haf:=haf.le hlf70;replace pad:=pad.le hlf70;replace paf:=paf.le hlf70;replace pn260:=pn260.le hlf70;replace pn261:=pn261.le hlf70;replace hC35:=hC35.le hlf70;replace hpw35:=hpw35.le hlf70;replace hpl35:=hpl35.le hlf70;replace hz35:=hz35.le hlf70;replace hb35:=hb35.le hlf70;replace hs35:=hs35.le hlf70;replace hCk:=hCk.le hlf70;replace hC48:=hC48.le hlf70;replace hpw48:=hpw48.le hlf70;replace hpl48:=hpl48.le hlf70;replace hz48:=hz48.le hlf70;replace hb48:=hb48.le hlf70;replace hs48:=hs48.le hlf70;replace hC59:=hC59.le hlf70;replace hpw59:=hpw59.le hlf70;replace hpl59:=hpl59.le hlf70;replace hz59:=hz59.le hlf70;replace hb59:=hb59.le hlf70;replace hs59:=hs59.le hlf70;refine EC .z fun Ho70 hleo70 hAo70=>?_;replace had:=had.le hleo70;replace haf:=haf.le hleo70;replace pad:=pad.le hleo70;replace paf:=paf.le hleo70;replace pn260:=pn260.le hleo70;replace pn261:=pn261.le hleo70;replace hC35:=hC35.le hleo70;replace hpw35:=hpw35.le hleo70;replace hpl35:=hpl35.le hleo70;replace hz35:=hz35.le hleo70;replace hb35:=hb35.le hleo70;replace hs35:=hs35.le hleo70;replace hCk:=hCk.le hleo70;replace hC48:=hC48.le hleo70;replace hpw48:=hpw48.le hleo70;replace hpl48:=hpl48.le hleo70;replace hz48:=hz48.le hleo70;replace hb48:=hb48.le hleo70;replace hs48:=hs48.le hleo70;replace hC59:=hC59.le hleo70;replace hpw59:=hpw59.le hleo70;replace hpl59:=hpl59.le hleo70;replace hz59:=hz59.le hleo70;replace hb59:=hb59.le hleo70;replace hs59:=hs59.le hleo70;replace hC70:=hC70.le hleo70;have hxo70:=own_rows hAo70;have hco70:=own_le hAo70.1;refine Jg (Jd rfl) rfl (Jf (Ja (hK24 (Je fun _ hK25 _=>(Je fun _ hK26 _=>(Jb (Jg (Jc rfl) rfl (Jg (Jc rfl) rfl (Jf (Ja (hK26 (Jl (JD (σ:=Option Addr × Nat × Vs × Nat) (fun ⟨q,c,vs,i⟩=>[(72,.int .i64 (i:Int)),(11,.slice q (duK ad af m (k:Int) i).length c)]) (fun ⟨q,c,vs,i⟩=>Ho70) (fun ⟨q,c,vs,i⟩=>cpx ln26 ls70::ownIs 2 vs (duK ad af m (k:Int) i)::own 22 1 q (duK ad af m (k:Int) i).length c (slicesI vs (duK ad af m (k:Int) i))::L) (fun ⟨q,c,vs,i⟩=>i≤(csS ad af (k:Int)).length) (fun ⟨q,c,vs,i⟩=>(csS ad af (k:Int)).length - i) (qo53,co53,nilVs,0) (by show 0≤_;omega) ⟨rfl,⟨(by rw [duK_zero];rfl),trivial⟩⟩ rfl (by dsimp only;rw [duK_zero];rfl) ?_)))))))))))));rintro ⟨q,c,vs,i⟩ hi _ hAg1;refine Je fun _ hK27 _=>(Jb (Jg (JK rfl rfl) rfl (Jf (Ja (hK27 (Je fun _ hK28 _=>(Jo rfl (fun h73=>?_) (fun h73=>?_))))))))
      ·
       have hi1:i<(csS ad af (k:Int)).length:=by omega
       have hkl9:(duK ad af m (k:Int) i).length=i:=duK_len hi;refine Jn (Ja (hK28 (Je fun _ hK29 _=>(Jl (Je fun _ hK30 _=>(Jb (Jg (Jc rfl) rfl (Jg (Jd rfl) rfl (Jf (Ja (hK30 (Je fun _ hK31 _=>(Jb (EF (MK.lit0I u22 sz2) rfl fun qo75 co75=>(Jg (Jd rfl) rfl (Jf ?_))))))))))))))));refine Ja (hK31 (Je fun _ hK32 _=>(Je fun _ hK33 _=>(Jb (Jg (Jc rfl) rfl (Jg (Jc rfl) rfl (Jf (Ja (hK33 (Jl (JD (σ:=Option Addr × Nat × Nat) (fun ⟨q2,c2,j⟩=>[(77,.int .i64 (j:Int)),(14,.slice q2 (duL ad af m (k:Int) (rw_ (csS ad af (k:Int)) i) j).length c2)]) (fun ⟨q2,c2,j⟩=>Ho70) (fun ⟨q2,c2,j⟩=>own 2 1 q2 (duL ad af m (k:Int) (rw_ (csS ad af (k:Int)) i) j).length c2 (intsC (duL ad af m (k:Int) (rw_ (csS ad af (k:Int)) i) j))::cpx ln26 ls70::ownIs 2 vs (duK ad af m (k:Int) i)::own 22 1 q (duK ad af m (k:Int) i).length c (slicesI vs (duK ad af m (k:Int) i))::L) (fun ⟨q2,c2,j⟩=>j≤(csS ad af (m - (k:Int))).length) (fun ⟨q2,c2,j⟩=>(csS ad af (m - (k:Int))).length - j) (qo75,co75,0) (by show 0≤_;omega) ⟨rfl,⟨(by rw [duL_zero];rfl),trivial⟩⟩ rfl (by dsimp only;rw [duL_zero]) ?_)))))))))));rintro ⟨q2,c2,j⟩ hj _ hAg2;refine Je fun _ hK34 _=>(Jb (Jg (JK rfl rfl) rfl (Jf (Ja (hK34 (Je fun _ hK35 _=>(Jo rfl (fun h78=>?_) (fun h78=>?_))))))))
       ·
        have hj1:j<(csS ad af (m - (k:Int))).length:=by omega
        have hlt:(i * (csS ad af (k:Int)).length+j)<(ptS ad af (k:Int) (m - (k:Int))).length:=by rw [hptl];exact idx_lt hi1 hj1 hcc
        have hib:=idx_bd (D:=0) hi1 hcnl
        have hie2:(i:Int) * ((csS ad af (k:Int)).length:Int)=((i * (csS ad af (k:Int)).length:Nat):Int):=by rw [Int.natCast_mul]
        have hrow:rw_ (ptS ad af (k:Int) (m - (k:Int))) (i * (csS ad af (k:Int)).length+j)=ptR ad af (k:Int) (m - (k:Int)) (rw_ (csS ad af (k:Int)) i) (rw_ (csS ad af (m - (k:Int))) j):=by rw [hcc];exact ptS_at hi1 hj1
        have hrl:0<(rw_ (ptS ad af (k:Int) (m - (k:Int))) (i * (csS ad af (k:Int)).length+j)).length:=by rw [hrow];unfold ptR;rw [clV_len,show (k:Int)+(m - (k:Int))=m by omega];omega
        have hv9:(rw_ (ptS ad af (k:Int) (m - (k:Int))) (i * (csS ad af (k:Int)).length+j)).getD 0 0=duF ad af m (k:Int) (rw_ (csS ad af (k:Int)) i) (rw_ (csS ad af (m - (k:Int))) j):=by rw [hrow];exact ptR_du
        have hdl:=duL_len (r:=rw_ (csS ad af (k:Int)) i) (Nat.le_of_lt hj1);refine Jn (Ja (hK35 (Je fun _ hK36 _=>(Jl (Je fun _ hK37 _=>(Jb (Jg (Jc rfl) rfl (Jg (Jd rfl) rfl (Jf (Ja (hK37 (Jb (Jg (Jc rfl) rfl (Jg (Jc rfl) rfl (Jg (Jc rfl) rfl (Jg (Jc rfl) rfl ?_))))))))))))))));refine Jg (Ez rfl rfl (nw _ (by omega))) rfl (Jg (Jc rfl) rfl (Jg (JA rfl rfl (nw _ (by omega))) rfl (Jg (JP (i':=(i * (csS ad af (k:Int)).length+j)) u57 sz22 rfl rfl (by omega) hlt hxo70.sm) rfl ?_)));obtain ⟨qe88,ce88,he88,le88,Fe88⟩:=hxo70 (i * (csS ad af (k:Int)).length+j) hlt;refine Jg (JC rfl he88 pl22) rfl (Jg (JP (i':=0) u22 sz2 rfl rfl rfl hrl Fe88.sm) rfl (Jg (JC rfl (Fe88 _ hrl) pl2) rfl (EF (MK.lit1I u22 ze2 sz2 rfl) rfl fun qo91 co91=>(J.appendOI u22 ze2 sz2 by2 rfl rfl (by simp only [List.length_singleton];omega) .z At.z (fun _ _=>At.z) rfl fun qo92 co92=>(Jg (Jd rfl) rfl (Jf (JF (Ja (hK36 (Jb (Jg (JA rfl rfl (by first | exact nw _ (by omega) | rfl)) rfl (Jg (Jc rfl) rfl (Jf (Ja (JN .z ?_)))))))))))))));exact hAg2 (qo92,co92,j+1) (by show j+1≤_;omega) (by show (csS ad af (m - (k:Int))).length - (j+1)<(csS ad af (m - (k:Int))).length - j;omega) 21 rfl rfl ⟨rfl,⟨(by rw [duL_succ hj1,← hv9];rfl),trivial⟩⟩ rfl (by dsimp only;rw [duL_succ hj1,← hv9])
       ·
        have hje:j=(csS ad af (m - (k:Int))).length:=by omega
        refine JH (Jj (Jj (JM (Ja (hK32 (Jb (Jg (Jc rfl) rfl (Jg (Jc rfl) rfl (EF (EG u57 ze22 sz22 rfl rfl) rfl fun qo96 co96=>(Ey u57 ze22 sz22 by22 rfl rfl rfl rfl (by omega) .z (.s (.s (.s .z))) (fun _ _=>(.s (.s (.s .z)))) rfl fun qo97 co97=>(Jg (Jd rfl) rfl (Jf (JF (Ja (hK29 (Jb ?_))))))))))))))));refine Jg (JA rfl rfl (by first | exact nw _ (by omega) | rfl)) rfl (Jg (Jc rfl) rfl (Jf (Ja (Js (.s (.s (.s (.s .z)))) (Js (.s (.s (.s .z))) (Js (.s (.s .z)) (Js (.s (.s (.s (.s .z)))) (Js (.s (.s (.s (.s .z)))) (EJ.isSnoc (rs:=(duK ad af m (k:Int) i)) rfl rfl (JN (.s .z) (Js (.s (.s .z)) (Js (.s .z) (Js (.s (.s .z)) ?_)))))))))))));exact hAg1 (qo97,co97,setV vs (duK ad af m (k:Int) i).length (q2,c2),i+1) (by show i+1≤_;omega) (by show (csS ad af (k:Int)).length - (i+1)<(csS ad af (k:Int)).length - i;omega) 19 rfl rfl ⟨rfl,⟨(by rw [duK_succ hi1,List.length_append];rfl),trivial⟩⟩ rfl (by dsimp only;rw [duK_succ hi1,slicesI_set rfl,List.length_append,duL_end hje];rfl)
      ·
       have hie:i=(csS ad af (k:Int)).length:=by omega
       refine CJ.reL (L':=ownRs 22 2 q c vs (duK ad af m (k:Int) i)::_) (fun w hH=>((hH.front (.s .z)).front (.s (.s .z))).star) ?_
       have hmok : ∀r∈duK ad af m (k:Int) i,RowOk (csS ad af (m - (k:Int))).length r:=by rw [duK_end hie];exact duM_ok hA h8 hd
       have hmll:(duK ad af m (k:Int) i).length=i:=duK_len hi;have hde:duK ad af m (k:Int) i=duM ad af m (k:Int):=duK_end hie;refine JH (Jj (Jj (JM (Ja (hK25 (Je fun _ hK38 _=>(Jb (Jg (Jc rfl) rfl (Jx fn86 rfl rfl fun w hH=>hH.lend .z fun Hl1 hle1 hA1 hB1 hH=>(rankOf_c (W:=(csS ad af (m - (k:Int))).length) (own_rows hA1) hmok (by omega) (by omega) hH).mono ?_)))))))));rintro _ w ⟨rfl,hH⟩;replace hH:=hB1 _ _ hH;refine ⟨_,rfl,fun a hF=>JQ hF hH ?_⟩;refine Jg (Jc rfl) rfl (Jg (Ek rfl rfl) rfl (Jf (Ja (hK38 (Jo rfl (fun h102=>?_) (fun h102=>?_))))))
       ·
        try rw [hde] at h102
        refine Je fun _ hK39 _=>(Jb (Jg (Jd rfl) rfl (Jg (Jd rfl) rfl (Jf (Ja (hK39 (Jv (JR (Jp (Jp (JR (Jp (Ep rfl (Res.tmp rfl) (Res.tmp rfl) fun w hH=>?_)))))))))))));replace hH:=hH.tail;replace hH:=hH.tail;exact ⟨tup_bi (duV_b (k:=k) (by omega) (duB_2 (by omega))).symm hC0.symm,hH.weaken (((((((hlez2.trans hlf26).trans hlf35).trans hlk).trans hlf48).trans hlf59).trans hlf70).trans hleo70) hw0 hw1⟩
       ·
        try rw [hde] at h102
        refine Jn (JF (Ja (hK18 (Jb (Jg (JA rfl rfl (by first | exact nw _ (by omega) | rfl)) rfl (Jg (Jc rfl) rfl (Jf (Ja (JN .z ?_)))))))));exact hAg0 (Ho70,ls70,k+1) ⟨((((hlk.trans hlf48).trans hlf59).trans hlf70).trans hleo70),⟨hC70,hN70⟩,by omega,upto hI (duB_y (by omega) (by omega))⟩ (by show (m+1 - ((k+1:Nat):Int)).toNat<(m+1 - (k:Int)).toNat;omega) 43 rfl rfl ⟨rfl,trivial⟩ rfl rfl
    ·
     refine JH (Jj (Jj (JM (Ja (hK14 (Je fun _ hK40 _=>(Jb (Jg (Jd rfl) rfl (Jg (Jd rfl) rfl (Jf (Ja (hK40 (Jv (Ep rfl (Res.tmp rfl) (Res.tmp rfl) fun w hH=>?_))))))))))))));replace hH:=hH.tail;exact ⟨tup_bi (duV_y hC0 hcs1 fun j hj=>hI j (by omega)).symm hC0.symm,hH.weaken (((hlez2.trans hlf26).trans hlf35).trans hlk) hw0 hw1⟩
theorem u4:Tryz.prog.underlying 4=some (TypeDesc.bool):=by kernel_rfl
theorem ag25:Agg Tryz.prog 25 2:=⟨_,u25,rfl,by kernel_rfl⟩
theorem fn14:Fn Tryz.prog 14:=⟨_,Tryz.func14,by kernel_rfl,rfl⟩
theorem fn17:Fn Tryz.prog 17:=⟨_,Tryz.func17,by kernel_rfl,rfl⟩
theorem fn20:Fn Tryz.prog 20:=⟨_,Tryz.func20,by kernel_rfl,rfl⟩
theorem fn31:Fn Tryz.prog 31:=⟨_,Tryz.func31,by kernel_rfl,rfl⟩
theorem fn32:Fn Tryz.prog 32:=⟨_,Tryz.func32,by kernel_rfl,rfl⟩
theorem lawHasDuality_c {B:World} {H0 H:HP} {L:List SA} {w:World} {qad qaf:Option Addr} {cad caf:Nat} {ad:List Int} {af:List (List Term)} {m:Int} (had:Ints H qad ad) (haf:Forms H qaf af) (hn:ad.length≤9223372036854775807∧af.length≤9223372036854775807) (hl : ∀i,i<af.length→(fm af i).length≤9223372036854775807) (hH:Hp B H0 H L w):Calls Tryz.prog 6 [.agg [.slice qad ad.length cad,.slice qaf af.length caf].toArray,.int .i64 m].toArray w fun e w'=>e = .returned (.bool true)∧Below B.heap.size B w':=by
 refine Jy Tryz.func6 rfl 44 rfl rfl [(0,.agg [.slice qad ad.length cad,.slice qaf af.length caf].toArray),(1,.int .i64 m)] rfl hH ?_;clear hH;refine Je fun _ hK1 _=>(Jb (Ef rfl rfl rfl fun g2=>(Jg (Jd rfl) rfl (Jf (Ja (hK1 (Je fun _ hK2 _=>(Jb (Jg (Jd rfl) rfl (Jf (Ja (hK2 (Je fun _ hK3 _=>(Jb (Jg (Jz rfl At.z (by simpa [*] using ag25)) rfl (Jg (Jc rfl) rfl ?_))))))))))))))));refine Jx fn14 rfl rfl fun w hH=>(szAlgebra_c had haf (by omega) hl hH).mono ?_;rintro _ w ⟨rfl,hH⟩;refine ⟨_,rfl,fun a hF=>JQ hF hH ?_⟩;refine Jg (Jd rfl) rfl (Jf (Ja (hK3 (Je fun _ hK4 _=>(Je fun _ hK5 _=>(Jb (Jg (Jc rfl) rfl (Jg (JK rfl rfl) rfl (Jf (Ja (hK5 (Jo rfl (fun h11=>?_) (fun h11=>?_)))))))))))))
 ·
  refine Je fun _ hK6 _=>(Jb (Jg (Jd rfl) rfl (Jf (Ja (hK6 (Jv (Jp (Jq rfl (Res.tmp rfl) fun w hH=>?_))))))));replace hH:=hH.tail
  first | exact ⟨rfl,hH.below⟩ | exact absurd rfl h11p | exact absurd rfl h11 | (exfalso;omega) | (simp at h11;done)
 ·
  have hsz:ad.length+af.length+tot af≤1048576:=by unfold szv at h11;split at h11 <;> omega
  have hl6 : ∀i,i<af.length→(fm af i).length≤1048576:=fun i hi=>by have:=tot_fm hi;omega
  refine Jn (Ja (hK4 (Je fun _ hK7 _=>(Jb (Jg (Jz rfl At.z (by simpa [*] using ag25)) rfl (Jx fn17 rfl rfl fun w hH=>(toAlgebra_c had haf (by omega) hl6 hH).mono ?_))))));rintro _ w ⟨qdo18,cdo18,qfo18,cfo18,vso18,rfl,hH⟩;refine ⟨_,rfl,fun a hF=>JQ hF hH ?_⟩;refine Jg (Jc rfl) rfl (Jx fn31 rfl rfl fun w hH=>hH.lend .z fun Hl1 hle1 hA1 hB1 hH=>hH.lend .z fun Hl2 hle2 hA2 hB2 hH=>(sHasDuality_c ((own_ints hA1).le hle2) (own_forms haf.wfss hA2) (by omega) (by omega) hl6 hH).mono ?_);rintro _ w ⟨rfl,hH⟩;replace hH:=hB2 _ _ hH;replace hH:=hB1 _ _ hH;refine ⟨_,rfl,fun a hF=>JQ hF hH ?_⟩;refine Jg (Jc rfl) rfl (Jg (JT rfl rfl) rfl (Jg (JT rfl rfl) rfl (Jg (Jd rfl) rfl (Jg (Jd rfl) rfl (Jf (Ja (hK7 (Je fun _ hK8 _=>(Jb (Jg (Jz rfl (.s (.s .z)) (by simpa [*] using ag25)) rfl (Jx fn17 rfl rfl fun w hH=>(toAlgebra_c had haf (by omega) hl6 hH).mono ?_)))))))))));rintro _ w ⟨qdo24,cdo24,qfo24,cfo24,vso24,rfl,hH⟩;refine ⟨_,rfl,fun a hF=>JQ hF hH ?_⟩;refine JW ze35 rfl fun g8=>(JL rfl rfl (by first | exact bytesC_one _ | exact intsC_one _ | exact Term.c_one _ | simp [Value.oneCell']) (by simpa [*] using sz35) (by simp [*]) At.z (Jf (Ja (hK8 (Je fun _ hK9 _=>(Jb (Jg (Jz rfl At.z (by simpa [*] using ag35)) rfl (Jg (Jc rfl) rfl (Jx fn32 rfl rfl fun w hH=>hH.lend (.s .z) fun Hl1 hle1 hA1 hB1 hH=>hH.lend (.s .z) fun Hl2 hle2 hA2 hB2 hH=>(HasDuality_c ((own_ints hA1).le hle2) (own_forms haf.wfss hA2) (by omega) (by omega) hl6 hH).mono ?_)))))))));rintro _ w ⟨rfl,hH⟩;replace hH:=hB2 _ _ hH;replace hH:=hB1 _ _ hH;refine ⟨_,rfl,fun a hF=>JQ hF hH ?_⟩;refine Jg (Jc rfl) rfl (Jg (JT rfl rfl) rfl (Jg (JT rfl rfl) rfl (Jg (Jd rfl) rfl (Jg (Jd rfl) rfl (Jf (Ja (hK9 (Je fun _ hK10 _=>(Je fun _ hK11 _=>(Jb (Jg (Jc rfl) rfl (Jg (Jc rfl) rfl (Jg (PR.neqB u4 rfl rfl) rfl (Jg (Jc rfl) rfl (El (jd:=34) rfl (fun hg34=>?_) (fun hg34=>?_))))))))))))))))
  ·
   try have hg34p:=of_decide_eq_true hg34
   refine JV rfl rfl rfl hg34 (JV rfl rfl rfl hg34 (JV rfl rfl rfl hg34 (Jg (Ea rfl hg34 rfl) rfl (Jf (Ja (hK11 (EE rfl (Je fun _ hK12 _=>(Jb (Jg (Jd rfl) rfl (Jf (Ja (hK12 (Jv (Jp (Jq rfl (Res.tmp rfl) fun w hH=>?_))))))))))))))));replace hH:=hH.tail;replace hH:=hH.tail;replace hH:=hH.tail;replace hH:=hH.tail;replace hH:=hH.tail;replace hH:=hH.tail
   first | exact ⟨rfl,hH.below⟩ | exact absurd rfl hg34p | exact absurd rfl hg34 | (exfalso;omega) | (simp at hg34;done)
  ·
   try have hg34p:=of_decide_eq_false hg34
   refine JY (Jc rfl) rfl rfl rfl hg34 (JY (Jc rfl) rfl rfl rfl hg34 (JY (Ek rfl rfl) rfl rfl rfl hg34 (Jg (JZ rfl hg34 rfl) rfl (Jf (Ja (hK11 (Jo rfl (fun hc38=>?_) (fun hc38=>?_))))))))
   ·
    refine Je fun _ hK13 _=>(Jb (Jg (Jd rfl) rfl (Jf (Ja (hK13 (Jv (Jp (Jq rfl (Res.tmp rfl) fun w hH=>?_))))))));replace hH:=hH.tail;replace hH:=hH.tail;replace hH:=hH.tail;replace hH:=hH.tail;replace hH:=hH.tail;replace hH:=hH.tail
    first | exact ⟨rfl,hH.below⟩ | exact absurd rfl hc38p | exact absurd rfl hc38 | (exfalso;omega) | (simp at hc38;done)
   ·
    refine Jn (Ja (hK10 (Je fun _ hK14 _=>(Je fun _ hK15 _=>(Ei (Rs:=[_,_,_,_,_,_]) 5 [[], [], [1], [0,1,2], [0,1,2,3]] [[7], [10], [], [2,5,6], []] [[], [], [], [], []] rfl rfl (by kernel_rfl) ?_)))));apply Jk 1 rfl
    iterate 3 focus (intros;(conv=>lhs;simp only [Jh,Jr,JJ,Ju,JI,eq_self,Nat.reduceEqDiff,reduceIte,Nat.reduceSub,Nat.reduceAdd,List.cons_append,List.nil_append]);all_goals rfl)
    ·
     intro gh X K zq zc zq2 zc2 zb zv hK;refine Jg (Jz rfl At.z (by simpa [*] using ag35)) rfl (Ji ?_);exact hK zq zc zq2 zc2 zb zv
    ·
     intro gh gh' h
     rfl
    apply Jk 2 rfl
    iterate 3 focus (intros;(conv=>lhs;simp only [Jh,Jr,JJ,Ju,JI,eq_self,Nat.reduceEqDiff,reduceIte,Nat.reduceSub,Nat.reduceAdd,List.cons_append,List.nil_append]);all_goals rfl)
    ·
     intro gh X K zq zc zq2 zc2 zb zv hK;refine Jg (Jz rfl At.z (by simpa [*] using ag25)) rfl (Ji ?_);exact hK zq zc zq2 zc2 zb zv
    ·
     intro gh gh' h
     rfl
    apply GJ.st2 3 rfl
    iterate 3 focus (intros;(conv=>lhs;simp only [Jh,Jr,JJ,Ju,JI,eq_self,Nat.reduceEqDiff,reduceIte,Nat.reduceSub,Nat.reduceAdd,List.cons_append,List.nil_append]);all_goals rfl)
    ·
     intro gh X K zq zc zq2 zc2 zb zv hK;refine Jx fn17 rfl rfl fun w hH=>(toAlgebra_c had haf (by omega) hl6 hH).mono ?_;rintro _ w ⟨qdo41,cdo41,qfo41,cfo41,vso41,rfl,hH⟩;refine ⟨_,rfl,fun a hF=>JQ hF hH ?_⟩;refine Ji ?_;exact hK qdo41 cdo41 qfo41 cfo41 zb vso41
    ·
     intro gh gh' h;refine ⟨?_,?_,?_⟩ <;> rfl
    apply Jk 4 rfl
    iterate 3 focus (intros;(conv=>lhs;simp only [Jh,Jr,JJ,Ju,JI,eq_self,Nat.reduceEqDiff,reduceIte,Nat.reduceSub,Nat.reduceAdd,List.cons_append,List.nil_append]);all_goals rfl)
    ·
     intro gh X K zq zc zq2 zc2 zb zv hK;refine Jx fn20 rfl rfl fun w hH=>hH.lend (.s (.s .z)) fun Hl1 hle1 hA1 hB1 hH=>hH.lend (.s (.s .z)) fun Hl2 hle2 hA2 hB2 hH=>hH.lend .z fun Hl3 hle3 hA3 hB3 hH=>hH.lend .z fun Hl4 hle4 hA4 hB4 hH=>(eqAlgebra_c ((((own_ints hA1).le hle2).le hle3).le hle4) (((own_forms haf.wfss hA2).le hle3).le hle4) ((own_ints hA3).le hle4) (own_forms haf.wfss hA4) (by omega) (by omega) hl hH).mono ?_;rintro _ w ⟨rfl,hH⟩;replace hH:=hB4 _ _ hH;replace hH:=hB3 _ _ hH;replace hH:=hB2 _ _ hH;replace hH:=hB1 _ _ hH;refine ⟨_,rfl,fun a hF=>JQ hF hH ?_⟩;refine Js (.s .z) (Js (.s .z) (Js (.s (.s (.s .z))) (Js (.s (.s (.s .z))) (Ji ?_))));exact hK zq zc zq2 zc2 zb zv
    ·
     intro gh gh' h
     first | simp only [h 2 rfl] | rfl
    apply Jk 5 rfl
    iterate 3 focus (intros;(conv=>lhs;simp only [Jh,Jr,JJ,Ju,JI,eq_self,Nat.reduceEqDiff,reduceIte,Nat.reduceSub,Nat.reduceAdd,List.cons_append,List.nil_append]);all_goals rfl)
    ·
     intro gh X K zq zc zq2 zc2 zb zv hK;refine Jg (Es rfl) rfl (Ji ?_);exact hK zq zc zq2 zc2 zb zv
    ·
     intro gh gh' h
     first | simp only [h 2 rfl] | rfl
    apply Ej [0,1,2,3,4] [0,1,2,3,4,5,6,7,8,9,10] foll0 rfl rfl rfl (by rfl)
    iterate 2 focus (intros;(conv=>lhs;simp only [Jh,Jr,JJ,Ju,JI,eq_self,Nat.reduceEqDiff,reduceIte,Nat.reduceSub,Nat.reduceAdd,List.cons_append,List.nil_append]);all_goals rfl)
    intro gh;generalize (gh 2).c=cdo41;generalize (gh 2).c2=cfo41;generalize (gh 2).q=qdo41;generalize (gh 2).q2=qfo41;generalize (gh 2).vs=vso41;clear gh;refine Ja (hK15 (Eh rfl (fun hc43=>?_) (fun hc43=>?_)))
    ·
     refine Je fun _ hK16 _=>(Jb (Jg (Jd rfl) rfl (Jf (Ja (hK16 (Jv (Jp (Jq rfl (Res.tmp rfl) fun w hH=>?_))))))));replace hH:=hH.tail;replace hH:=hH.tail;replace hH:=hH.tail;replace hH:=hH.tail;replace hH:=hH.tail;replace hH:=hH.tail;replace hH:=hH.tail;replace hH:=hH.tail
     first | exact ⟨rfl,hH.below⟩ | exact absurd rfl hc43p | exact absurd rfl hc43 | (exfalso;omega) | (simp at hc43;done)
    ·
     refine Jn (Ja (hK14 (Je fun _ hK17 _=>(Jb (Jg (Jd rfl) rfl (Jf (Ja (hK17 (Jv (Jq rfl (Res.tmp rfl) fun w hH=>?_))))))))));replace hH:=hH.tail;replace hH:=hH.tail;replace hH:=hH.tail;replace hH:=hH.tail;replace hH:=hH.tail;replace hH:=hH.tail;replace hH:=hH.tail;replace hH:=hH.tail
     first | exact ⟨rfl,hH.below⟩ | exact absurd rfl hc43p | exact absurd rfl hc43 | (exfalso;omega) | (simp at hc43;done)
end Go.Proofs.YthenedanhcnccaaGreat.G
namespace Go.Proofs.YthenedanhcnccaaGreat.fnExactHasDuality
open Go.ChangeShapes Go.WideShapes Go.ChangeAt Go.RowKit
open Go.Proofs.YthenedanhcnccaaGreat.G
theorem u25:Tryz.prog.underlying 25=some (TypeDesc.struct #[{name:="Degrees",type:=22,offset:=0,embedded:=false,tag:="",pkgPath:="",byteOffset:=0},{name:="Images",type:=23,offset:=1,embedded:=false,tag:="",pkgPath:="",byteOffset:=24}]):=by kernel_rfl
theorem u22:Tryz.prog.underlying 22=some (TypeDesc.slice 2):=by kernel_rfl
theorem u2:Tryz.prog.underlying 2=some (TypeDesc.int .i64):=by kernel_rfl
theorem u23:Tryz.prog.underlying 23=some (TypeDesc.slice 28):=by kernel_rfl
theorem u28:Tryz.prog.underlying 28=some (TypeDesc.struct #[{name:="Terms",type:=26,offset:=0,embedded:=false,tag:="",pkgPath:="",byteOffset:=0}]):=by kernel_rfl
theorem u26:Tryz.prog.underlying 26=some (TypeDesc.slice 155):=by kernel_rfl
theorem u155:Tryz.prog.underlying 155=some (TypeDesc.struct #[{name:="Monomial",type:=149,offset:=0,embedded:=false,tag:="",pkgPath:="",byteOffset:=0},{name:="Factor",type:=2,offset:=8,embedded:=false,tag:="",pkgPath:="",byteOffset:=8}]):=by kernel_rfl
theorem u149:Tryz.prog.underlying 149=some (TypeDesc.array 8 5):=by kernel_rfl
theorem u5:Tryz.prog.underlying 5=some (TypeDesc.int .u8):=by kernel_rfl
theorem u4:Tryz.prog.underlying 4=some (TypeDesc.bool):=by kernel_rfl
theorem own:ownKnob Tryz.prog.godebug=none:=by kernel_rfl
theorem lifted (os:Os) (started:os.Started) (H:Type) (enc:TypeId × Value→H):ReturnsInHanded {} Tryz.checked os 6 .any (Rows.fnExactHasDualitySpec.pre6 enc Tryz.prog Tryz.f6 Rows.fnExactHasDualityRow.domain false) (Rows.fnExactHasDualitySpec.post enc Tryz.prog Tryz.f6 false true false false):=by
 refine returnsInHanded_of_change_sized (C:=Tryz.checked) own started (by kernel_rfl) Tryz.func6
  (ChangeSpec.witness6 (enc:=enc) (C:=Tryz.checked) false ⟨#[],#[.agg #[.slice none 0 0,.slice none 0 0],.int .i64 0], []⟩ 12 (by kernel_rfl) (by kernel_rfl) (by kernel_rfl) (by kernel_rfl)) ?_
 intro W base args ds gs before hval0 hW hcnd hsz0 _;have hval : ∀(j:Nat) t v,Tryz.f6.params[j]? = some t→args[j]? = some v→Value.okWide Tryz.prog W .any base t v:=hval0;have hW':=hW;obtain ⟨p,q,hA0,hV,rfl,hfz,hnd⟩:=hW;have hA:DataW.TrodAll enc Tryz.prog W 0 (fun _=>true) true Tryz.f6.params.toList args.toList ds p:=hA0;rw [Tryz.params6] at hA hval;obtain ⟨v0,JJ,d0,ds0,p0,q0,hargs,rfl,rfl,h0,r0⟩:=trodAll_cons hA;obtain ⟨v1,vs1,d1,ds1,p1,q1,rfl,rfl,rfl,h1,r1⟩:=trodAll_cons r0;obtain ⟨rfl,rfl,rfl⟩:=trodAll_nil r1
 obtain rfl:args = #[v0,v1]:=by cases args;simp_all
 obtain ⟨rfl,rfl⟩:=trodVars_none hV;obtain ⟨q0d,c0d,ds0,q0f,c0f,fs0,rfl,X0,F0,le0,fl0⟩:=openV_alg u25 rfl rfl rfl rfl (by kernel_rfl) (by kernel_rfl) (by kernel_rfl) u22 u2 (by kernel_rfl) u23 (by kernel_rfl) (fun n l y hy=>tr_form u28 rfl rfl (by kernel_rfl) (by kernel_rfl) u26 (by kernel_rfl) u155 rfl rfl rfl rfl u149 u5 (by kernel_rfl) (by kernel_rfl) u2 (by kernel_rfl) hy) (hval 0 25 v0 rfl rfl) h0;obtain ⟨a1,rfl,lo1,hi1⟩:=openV_int u2 (hval 1 2 v1 rfl rfl) h1;clear hA0 hval0 hsz0;refine ((lawHasDuality_c X0 F0 le0 fl0 (Hp.start (H:=hp W) fun _ _ h=>h)).mono fun e W' ⟨he,bel⟩=>?_);subst he;exact ⟨_,rfl,law_post (f:=Tryz.f6) (by kernel_rfl) (by kernel_rfl) rfl rfl u4 rfl hW' bel⟩
theorem joined:joinedFacts Tryz.prog 6 Tryz.f6 Rows.fnExactHasDualitySpec Rows.fnExactHasDualityRow=true:=by
 unfold joinedFacts;simp only [Bool.and_eq_true]
 repeat' apply And.intro
 all_goals first
  | with_reducible exact Facts.fEnter
  | with_reducible exact Facts.fLaid
  | with_reducible exact Facts.fMaps
  | with_reducible exact Facts.fHeard
  | (rw [Facts.fMake];rfl)
  | (rw [Facts.fLift];rfl)
  | (rw [Facts.fKeys];rfl)
  | (rw [Facts.fStops];rfl)
  | (rw [Facts.fStopK];rfl)
  | as_aux_lemma=>kernel_rfl
theorem over:Rows.fnExactHasDualityRow.holds Tryz.pinned (OpenSpec.ofChange Rows.fnExactHasDualitySpec):=
 OpenClaim.holds_of_wide 6 Tryz.f6 rfl rfl rfl rfl rfl rfl rfl ⟨rfl,rfl,rfl,rfl,rfl⟩ rfl rfl rfl rfl rfl (by as_aux_lemma=>kernel_rfl) Tryz.func6 joined
  (of_decide_eq_true (by as_aux_lemma=>kernel_rfl)) (by unfold Func.isWrapper;first | (rw [if_pos (by decide +kernel)];kernel_rfl) | (rw [if_neg (by decide +kernel)];exact ⟨rfl,rfl⟩))
  (fun os started H enc _=>lifted os started H enc)
theorem proved:Rows.FnExactHasDualitySaid:=over
#print axioms proved
end Go.Proofs.YthenedanhcnccaaGreat.fnExactHasDuality
namespace Go.Proofs.YthenedanhcnccaaGreat
theorem fnExactHasDuality_holds:Rows.FnExactHasDualitySaid:=fnExactHasDuality.proved
end Go.Proofs.YthenedanhcnccaaGreat
