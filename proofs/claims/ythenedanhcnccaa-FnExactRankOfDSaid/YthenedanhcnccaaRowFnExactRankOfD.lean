/- The row: the law answers true whatever the input, and the input reads as it did. No condition. -/
import Derived.Test.YthenedanhcnccaaRows
import Derived.Test.YthenedanhcnccaaProg
import Derived.WalkKit
import Derived.KernelRfl
import Derived.JoinedOf
import Derived.Maps.AppendAt
import Derived.Still
import Derived.ProofKit
import Derived.OpenShut
import Derived.StillTail
import Derived.Deep.Upon
import Derived.WalkSpells
import Derived.Maps.Range
import Derived.DeepKeys4
import Derived.Maps.Keyed
import Derived.ChangeOld
import Derived.Below
import Derived.SizedLaws
import Derived.Test.YthenedanhcnccaaPRkoe
set_option linter.unusedVariables false
set_option linter.unusedSimpArgs false
set_option maxRecDepth 10000
set_option maxHeartbeats 8000000
namespace Go.Proofs.Ythenedanhcnccaa.G
open Go Go.RowKit
theorem fn36:Fn Try.prog 36:=⟨_,Try.func36,by kernel_rfl,rfl⟩
def wiB (ds:List Int) (a b:Int):Bool:=(List.range (b+1 - max a 0).toNat).all fun k:Nat=>fitB ds (max a 0+(k:Int))
theorem wiB_no {ds:List Int} {a b:Int} {k:Nat} (h:max a 0+(k:Int)≤b) (hf:fitB ds (max a 0+(k:Int))=false):wiB ds a b=false:=by
 cases hh:wiB ds a b with
 | false=>rfl
 | true=>
  have:=List.all_eq_true.1 hh k (List.mem_range.2 (by omega));rw [hf] at this
  cases this
theorem wiB_yes {ds:List Int} {a b:Int} (h : ∀k:Nat,max a 0+(k:Int)≤b→fitB ds (max a 0+(k:Int))=true):wiB ds a b=true:=
 List.all_eq_true.2 fun k hk=>h k (by have:=List.mem_range.1 hk;omega)
theorem vmax (lo:Int):Value.int .i64 (if 0>lo then 0 else lo) = .int .i64 (max lo 0+((0:Nat):Int)):=by
 congr 1
 omega
def lsZ (row other:List Int) (f:Int) (k:Nat):List Int:=(List.range row.length).map fun i=>if i<k then fld (row.getD i 0 - f * other.getD i 0) else 0
@[simp] theorem lsZ_len (row other:List Int) (f:Int) (k:Nat):(lsZ row other f k).length=row.length:=by simp [lsZ]
theorem lsZ_get {row other:List Int} {f:Int} {k i:Nat} (h:i<row.length):(lsZ row other f k).getD i 0=if i<k then fld (row.getD i 0 - f * other.getD i 0) else 0:=by simp [lsZ,List.getD_eq_getElem?_getD,h]
theorem lsZ_zero (row other:List Int) (f:Int):lsZ row other f 0=List.replicate row.length 0:=list_eq_of (by simp) fun j hj=>by rw [lsZ_get (by simpa using hj),if_neg (by omega),rep_get]
theorem lsZ_set {row other:List Int} {f:Int} {k:Nat} (hk:k<row.length):(lsZ row other f k).set k (fld (row.getD k 0 - f * other.getD k 0))=lsZ row other f (k+1):=list_eq_of (by simp) fun j hj=>by
 have hj':j<row.length:=by simpa using hj
 rw [getD_set8,lsZ_get hj',lsZ_get hj',lsZ_len]
 by_cases e:k=j
 ·subst e
  rw [if_pos ⟨rfl,hk⟩,if_pos (by omega)]
 ·rw [if_neg (fun h=>e h.1)]
  by_cases h:j<k
  ·rw [if_pos h,if_pos (by omega)]
  ·rw [if_neg h,if_neg (by omega)]
theorem lsZ_end {row other:List Int} {f:Int} {k:Nat} (hk:k=row.length):lsZ row other f k=lessS row other f:=by
 subst hk
 exact list_eq_of (by simp) fun j hj=>by
  have hj':j<row.length:=by simpa using hj
  rw [lsZ_get hj',if_pos hj',lessS_get hj']
theorem oneBy_z {W:Nat} {row r:List Int} (h:RowOk W row) (hr:RowOk W r) (h0:row.getD (ldR r) 0=0):oneBy row r=row:=list_eq_of (by simp [oneBy]) fun j hj=>by
 rw [oneBy_get h hr,h0,Int.zero_mul,Int.sub_zero,fld_id (h.val j)]
theorem l03Within_c {B:World} {H0 H:HP} {L:List SA} {w:World} {qad qaf:Option Addr} {cad caf:Nat} {ad:List Int} {af:List (List Term)} {lo:Int} {hi:Int} (had:Ints H qad ad) (haf:Forms H qaf af) (hd : ∀j,j<ad.length→1≤ad.getD j 0∧ad.getD j 0≤12) (h8:ad.length≤8) (hl : -100000≤lo∧lo≤100000) (hh : -100000≤hi∧hi≤100000) (hH:Hp B H0 H L w):Calls Try.prog 35 [.agg [.slice qad ad.length cad,.slice qaf af.length caf].toArray,.int .i64 lo,.int .i64 hi].toArray w fun e w'=>e = .returned (.bool (wiB ad lo hi))∧Hp B H0 H L w':=by
 refine Jv Try.func35 rfl 21 rfl rfl [(0,.agg [.slice qad ad.length cad,.slice qaf af.length caf].toArray),(1,.int .i64 lo),(2,.int .i64 hi)] rfl hH ?_;clear hH;refine Je fun _ hK1 _=>(Jb (Ee rfl rfl rfl fun g3=>(Jg (Jd rfl) rfl (Jf (Ja (hK1 (Je fun _ hK2 _=>(Je fun _ hK3 _=>(Jb (Jg (Jc rfl) rfl (Jg (PR.eqv (v':=.int .i64 (max lo 0+((0:Nat):Int))) (vmax _) (PR.max2 rfl rfl)) rfl (Jg (Jd rfl) rfl (Jf (Ja (hK3 (Jm ?_))))))))))))))));refine JE (σ:=Nat) (fun (k:Nat)=>[(7,.int .i64 (max lo 0+(k:Int)))]) (fun (k:Nat)=>H) (fun (k:Nat)=>obj g3 (.cells [.slice qad ad.length cad,.slice qaf af.length caf].toArray 32 (0,0))::L) (fun (k:Nat)=>(max lo 0+(k:Int)≤hi+1∨k=0)∧∀j,j<k→fitB ad (max lo 0+(j:Int))=true) (fun (k:Nat)=>(hi+1 - (max lo 0+(k:Int))).toNat) 0 ⟨.inr rfl,fun j hj=>by omega⟩ ⟨rfl,trivial⟩ rfl rfl ?_;rintro k ⟨hk,hI⟩ _ hAg0;refine Je fun _ hK4 _=>(Je fun _ hK5 _=>(Jb (Jg (Jc rfl) rfl (Jg (Jc rfl) rfl (Jg (PR.leq rfl rfl) rfl (Jf (Ja (hK5 (Jn rfl (fun h12=>?_) (fun h12=>?_))))))))))
 ·
  refine Jl (Ja (hK4 (Je fun _ hK6 _=>(Jm (Je fun _ hK7 _=>(Jb (Jg (Js u32 rfl sz22 rfl) rfl (Jg (Jt rfl At.z rfl pl22) rfl (Jg (Jc rfl) rfl (JB fn36 rfl rfl fun w hH=>(l01Monomials_c had hd h8 (by omega) hH).mono ?_))))))))));rintro _ w ⟨qo18,co18,rfl,hH⟩;refine ⟨_,rfl,fun a hF=>JT hF hH ?_⟩;refine Jg (Jo u69 rfl rfl) rfl (Jg (EE rfl rfl) rfl (Jf (Ja (hK7 (Eh rfl (fun h20=>?_) (fun h20=>?_))))))
  ·
   refine Je fun _ hK8 _=>(Jb (Jg (Jd rfl) rfl (Jf (Ja (hK8 (Jq (JM (Ji (Ji (JM (Ji (Jp rfl (Res.tmp rfl) fun w hH=>?_))))))))))));replace hH:=hH.tail;replace hH:=hH.tail;exact ⟨by rw [wiB_no (k:=k) (by omega) (by rw [monT_fit] at h20;simpa using h20)],hH⟩
  ·
   refine Jl (JD (Ja (hK6 (Jb (Jg (Jc rfl) rfl (Jg (JC rfl rfl (by first | exact nw _ (by omega) | rfl)) rfl (Jg (Jd rfl) rfl (Jf (Ja (JO .z ?_))))))))));exact hAg0 (k+1) ⟨.inl (by omega),upto hI (by rw [monT_fit] at h20;simpa using h20)⟩ (by show (hi+1 - (max lo 0+((k+1:Nat):Int))).toNat<(hi+1 - (max lo 0+(k:Int))).toNat;omega) 13 rfl rfl ⟨(vi (by omega)),trivial⟩ rfl rfl
 ·
  refine JG (Jk (Jk (JN (Ja (hK2 (Je fun _ hK9 _=>(Jb (Jg (Jd rfl) rfl (Jf (Ja (hK9 (Jq (Jp rfl (Res.tmp rfl) fun w hH=>?_)))))))))))));replace hH:=hH.tail;exact ⟨by rw [wiB_yes (fun j hj=>hI j (by omega))],hH⟩
theorem l03First_c {B:World} {H0 H:HP} {L:List SA} {w:World} {qxs:Option Addr} {cxs:Nat} {xs:List Int} (hxs:Ints H qxs xs) (hn:xs.length≤1000000) (hH:Hp B H0 H L w):Calls Try.prog 103 [.slice qxs xs.length cxs].toArray w fun e w'=>e = .returned (.int .i64 (idxOf xs nzI))∧Hp B H0 H L w':=by
 refine Jv Try.func103 rfl 16 rfl rfl [(0,.slice qxs xs.length cxs)] rfl hH ?_;clear hH;refine Je fun _ hK1 _=>(Jb (Jg (Jd rfl) rfl (Jf (Ja (hK1 (Je fun _ hK2 _=>(Je fun _ hK3 _=>(Jb (Jg (Jd rfl) rfl (Jf (Ja (hK3 (Jm (JE (σ:=Nat) (fun (k:Nat)=>[(3,.int .i64 (k:Int))]) (fun (k:Nat)=>H) (fun (k:Nat)=>L) (fun (k:Nat)=>k≤xs.length∧∀j,j<k→nzI (xs.getD j 0)=false) (fun (k:Nat)=>xs.length - k) 0 ⟨by omega,fun j hj=>by omega⟩ ⟨rfl,trivial⟩ rfl rfl ?_))))))))))))));rintro k ⟨hk,hI⟩ _ hAg0;refine Je fun _ hK4 _=>(Je fun _ hK5 _=>(Jb (Jg (Jc rfl) rfl (Jg (Jc rfl) rfl (Jg (Jo u22 rfl rfl) rfl (Jg (JP rfl rfl) rfl (Jf (Ja (hK5 (Jn rfl (fun h7=>?_) (fun h7=>?_)))))))))))
 ·
  refine Jl (Ja (hK4 (Je fun _ hK6 _=>(Jm (Je fun _ hK7 _=>(Jb (Jg (Jc rfl) rfl (Jg (Jc rfl) rfl (Jg (JU u22 sz2 rfl rfl rfl (by omega) hxs.sm) rfl (Jg (JF rfl (hxs _ (by omega)) pl2) rfl (Jg (Ej rfl rfl) rfl (Jf (Ja (hK7 (Jn rfl (fun h14=>?_) (fun h14=>?_))))))))))))))))
  ·
   refine Je fun _ hK8 _=>(Jb (Jg (Jc rfl) rfl (Jg (Jd rfl) rfl (Jf (Ja (hK8 (Jq (JM (Ji (Ji (JM (Ji (Jp rfl (Res.tmp rfl) fun w hH=>?_)))))))))))));exact ⟨by rw [idxOf_hit (k:=k) (by omega) hI (decide_eq_true h14)],hH⟩
  ·
   refine Jl (JD (Ja (hK6 (Jb (Jg (Jc rfl) rfl (Jg (JC rfl rfl (by first | exact nw _ (by omega) | rfl)) rfl (Jg (Jd rfl) rfl (Jf (Ja ?_)))))))));exact hAg0 (k+1) ⟨by omega,upto hI (decide_eq_false h14)⟩ (by show xs.length - (k+1)<xs.length - k;omega) 13 rfl rfl ⟨rfl,trivial⟩ rfl rfl
 ·
  refine JG (Jk (Jk (JN (Ja (hK2 (Je fun _ hK9 _=>(Jb (Jg (Jd rfl) rfl (Jf (Ja (hK9 (Jq (Jp rfl (Res.tmp rfl) fun w hH=>?_)))))))))))));exact ⟨by rw [idxOf_miss (fun j hj=>hI j (by omega))],hH⟩
theorem l03Less_c {B:World} {H0 H:HP} {L:List SA} {w:World} {qxs:Option Addr} {cxs:Nat} {xs:List Int} {qys:Option Addr} {cys:Nat} {ys:List Int} {k:Int} (hxs:Ints H qxs xs) (hys:Ints H qys ys) (hn:xs.length≤1000000) (hl:ys.length=xs.length) (hx : ∀j,0≤xs.getD j 0∧xs.getD j 0≤10006) (hy : ∀j,0≤ys.getD j 0∧ys.getD j 0≤10006) (hk:0≤k∧k≤10006) (hH:Hp B H0 H L w):Calls Try.prog 104 [.slice qxs xs.length cxs,.slice qys ys.length cys,.int .i64 k].toArray w fun e w'=>∃q c,e = .returned (.slice q (lessS xs ys k).length c)∧Hp B H0 H (own 2 1 q (lessS xs ys k).length c (intsC (lessS xs ys k))::L) w':=by
 refine Jv Try.func104 rfl 34 rfl rfl [(0,.slice qxs xs.length cxs),(1,.slice qys ys.length cys),(2,.int .i64 k)] rfl hH ?_;clear hH;refine Je fun _ hK1 _=>(Jb (Jg (Jd rfl) rfl (Jf (Ja (hK1 (Je fun _ hK2 _=>(Jb (Jg (Jc rfl) rfl (Jg (Jo u22 rfl rfl) rfl (J.mk (MK.makeI (m:=xs.length) u22 ze2 sz2 by2 rfl rfl rfl rfl (by omega)) rfl fun qo11 co11=>(Jg (PR.eqv (v':=.slice qo11 xs.length co11) (by rw [List.length_replicate]) (Jd rfl)) rfl (Jf (Ja (hK2 (Je fun _ hK3 _=>(Je fun _ hK4 _=>?_))))))))))))))));refine Jb (Jg (Jd rfl) rfl (Jf (Ja (hK4 (Jm (JE (σ:=Nat) (fun (i:Nat)=>[(8,.int .i64 (i:Int))]) (fun (i:Nat)=>H) (fun (i:Nat)=>own 2 1 qo11 xs.length co11 (intsC (lsZ xs ys k i))::L) (fun (i:Nat)=>i≤xs.length) (fun (i:Nat)=>xs.length - i) 0 (by omega) ⟨rfl,trivial⟩ rfl (by rw [lsZ_zero,List.length_replicate]) ?_))))));rintro i hi _ hAg0;refine Je fun _ hK5 _=>(Je fun _ hK6 _=>(Jb (Jg (Jc rfl) rfl (Jg (Jc rfl) rfl (Jg (Jo u22 rfl rfl) rfl (Jg (JP rfl rfl) rfl (Jf (Ja (hK6 (Jn rfl (fun h15=>?_) (fun h15=>?_)))))))))))
 ·
  have hik:i<xs.length:=by omega
  have hxi:=hx i;have hyi:=hy i;have hmb:=mul_bd (a:=k) (b:=ys.getD i 0) hk hyi;refine Jl (Ja (hK5 (Je fun _ hK7 _=>(Jm (Es (Rs:=[_]) 16 [[], [], [], [], [2,3], [2,3,4], [], [], [], [7,8], [7,8,9], [6,7,8,9,10], [2,3,4,5,6,7,8,9,10,11], [2,3,4,5,6,7,8,9,10,11,12], [0,1,2,3,4,5,6,7,8,9,10,11,12,13], [0,1,2,3,4,5,6,7,8,9,10,11,12,13,14]] [[], [], [], [], [], [], [], [], [], [], [], [], [], [], [16], []] [[], [], [], [], [], [], [], [], [], [], [], [], [], [], [], [16]] rfl rfl (by kernel_rfl) ?_)))));apply Jr 1 rfl
  iterate 3 focus (intros;(conv=>lhs;simp only [Jh,Ju,JV,Jx,JJ,eq_self,Nat.reduceEqDiff,reduceIte,Nat.reduceSub,Nat.reduceAdd,List.cons_append,List.nil_append]);all_goals rfl)
  ·
   intro gh X K zq zc zq2 zc2 zb zv hK;refine Jg (Jc rfl) rfl (Jj ?_);exact hK zq zc zq2 zc2 zb zv
  ·
   intro gh gh' h
   rfl
  apply Jr 2 rfl
  iterate 3 focus (intros;(conv=>lhs;simp only [Jh,Ju,JV,Jx,JJ,eq_self,Nat.reduceEqDiff,reduceIte,Nat.reduceSub,Nat.reduceAdd,List.cons_append,List.nil_append]);all_goals rfl)
  ·
   intro gh X K zq zc zq2 zc2 zb zv hK;refine Jg (Jc rfl) rfl (Jj ?_);exact hK zq zc zq2 zc2 zb zv
  ·
   intro gh gh' h
   rfl
  apply Jr 3 rfl
  iterate 3 focus (intros;(conv=>lhs;simp only [Jh,Ju,JV,Jx,JJ,eq_self,Nat.reduceEqDiff,reduceIte,Nat.reduceSub,Nat.reduceAdd,List.cons_append,List.nil_append]);all_goals rfl)
  ·
   intro gh X K zq zc zq2 zc2 zb zv hK;refine Jg (Jc rfl) rfl (Jj ?_);exact hK zq zc zq2 zc2 zb zv
  ·
   intro gh gh' h
   rfl
  apply Jr 4 rfl
  iterate 3 focus (intros;(conv=>lhs;simp only [Jh,Ju,JV,Jx,JJ,eq_self,Nat.reduceEqDiff,reduceIte,Nat.reduceSub,Nat.reduceAdd,List.cons_append,List.nil_append]);all_goals rfl)
  ·
   intro gh X K zq zc zq2 zc2 zb zv hK;refine Jg (Jc rfl) rfl (Jj ?_);exact hK zq zc zq2 zc2 zb zv
  ·
   intro gh gh' h
   rfl
  apply Jr 5 rfl
  iterate 3 focus (intros;(conv=>lhs;simp only [Jh,Ju,JV,Jx,JJ,eq_self,Nat.reduceEqDiff,reduceIte,Nat.reduceSub,Nat.reduceAdd,List.cons_append,List.nil_append]);all_goals rfl)
  ·
   intro gh X K zq zc zq2 zc2 zb zv hK;refine Jg (JU u22 sz2 rfl rfl rfl (by omega) hxs.sm) rfl (Jj ?_);exact hK zq zc zq2 zc2 zb zv
  ·
   intro gh gh' h
   rfl
  apply Jr 6 rfl
  iterate 3 focus (intros;(conv=>lhs;simp only [Jh,Ju,JV,Jx,JJ,eq_self,Nat.reduceEqDiff,reduceIte,Nat.reduceSub,Nat.reduceAdd,List.cons_append,List.nil_append]);all_goals rfl)
  ·
   intro gh X K zq zc zq2 zc2 zb zv hK;refine Jg (JF rfl (hxs _ (by omega)) pl2) rfl (Jj ?_);exact hK zq zc zq2 zc2 zb zv
  ·
   intro gh gh' h
   rfl
  apply Jr 7 rfl
  iterate 3 focus (intros;(conv=>lhs;simp only [Jh,Ju,JV,Jx,JJ,eq_self,Nat.reduceEqDiff,reduceIte,Nat.reduceSub,Nat.reduceAdd,List.cons_append,List.nil_append]);all_goals rfl)
  ·
   intro gh X K zq zc zq2 zc2 zb zv hK;refine Jg (Jc rfl) rfl (Jj ?_);exact hK zq zc zq2 zc2 zb zv
  ·
   intro gh gh' h
   rfl
  apply Jr 8 rfl
  iterate 3 focus (intros;(conv=>lhs;simp only [Jh,Ju,JV,Jx,JJ,eq_self,Nat.reduceEqDiff,reduceIte,Nat.reduceSub,Nat.reduceAdd,List.cons_append,List.nil_append]);all_goals rfl)
  ·
   intro gh X K zq zc zq2 zc2 zb zv hK;refine Jg (Jc rfl) rfl (Jj ?_);exact hK zq zc zq2 zc2 zb zv
  ·
   intro gh gh' h
   rfl
  apply Jr 9 rfl
  iterate 3 focus (intros;(conv=>lhs;simp only [Jh,Ju,JV,Jx,JJ,eq_self,Nat.reduceEqDiff,reduceIte,Nat.reduceSub,Nat.reduceAdd,List.cons_append,List.nil_append]);all_goals rfl)
  ·
   intro gh X K zq zc zq2 zc2 zb zv hK;refine Jg (Jc rfl) rfl (Jj ?_);exact hK zq zc zq2 zc2 zb zv
  ·
   intro gh gh' h
   rfl
  apply Jr 10 rfl
  iterate 3 focus (intros;(conv=>lhs;simp only [Jh,Ju,JV,Jx,JJ,eq_self,Nat.reduceEqDiff,reduceIte,Nat.reduceSub,Nat.reduceAdd,List.cons_append,List.nil_append]);all_goals rfl)
  ·
   intro gh X K zq zc zq2 zc2 zb zv hK;refine Jg (JU u22 sz2 rfl rfl rfl (by omega) hys.sm) rfl (Jj ?_);exact hK zq zc zq2 zc2 zb zv
  ·
   intro gh gh' h
   rfl
  apply Jr 11 rfl
  iterate 3 focus (intros;(conv=>lhs;simp only [Jh,Ju,JV,Jx,JJ,eq_self,Nat.reduceEqDiff,reduceIte,Nat.reduceSub,Nat.reduceAdd,List.cons_append,List.nil_append]);all_goals rfl)
  ·
   intro gh X K zq zc zq2 zc2 zb zv hK;refine Jg (JF rfl (hys _ (by omega)) pl2) rfl (Jj ?_);exact hK zq zc zq2 zc2 zb zv
  ·
   intro gh gh' h
   rfl
  apply Jr 12 rfl
  iterate 3 focus (intros;(conv=>lhs;simp only [Jh,Ju,JV,Jx,JJ,eq_self,Nat.reduceEqDiff,reduceIte,Nat.reduceSub,Nat.reduceAdd,List.cons_append,List.nil_append]);all_goals rfl)
  ·
   intro gh X K zq zc zq2 zc2 zb zv hK;refine Jg (EA rfl rfl (nw _ (by omega))) rfl (Jj ?_);exact hK zq zc zq2 zc2 zb zv
  ·
   intro gh gh' h
   rfl
  apply Jr 13 rfl
  iterate 3 focus (intros;(conv=>lhs;simp only [Jh,Ju,JV,Jx,JJ,eq_self,Nat.reduceEqDiff,reduceIte,Nat.reduceSub,Nat.reduceAdd,List.cons_append,List.nil_append]);all_goals rfl)
  ·
   intro gh X K zq zc zq2 zc2 zb zv hK;refine Jg (EH rfl rfl (nw _ (by omega))) rfl (Jj ?_);exact hK zq zc zq2 zc2 zb zv
  ·
   intro gh gh' h
   rfl
  apply Jr 14 rfl
  iterate 3 focus (intros;(conv=>lhs;simp only [Jh,Ju,JV,Jx,JJ,eq_self,Nat.reduceEqDiff,reduceIte,Nat.reduceSub,Nat.reduceAdd,List.cons_append,List.nil_append]);all_goals rfl)
  ·
   intro gh X K zq zc zq2 zc2 zb zv hK;refine JB fn65 rfl rfl fun w hH=>(l01Mod_c (by omega) hH).mono ?_;rintro _ w ⟨rfl,hH⟩;refine ⟨_,rfl,fun a hF=>JT hF hH ?_⟩;refine Jj ?_;exact hK zq zc zq2 zc2 zb zv
  ·
   intro gh gh' h
   rfl
  apply Jr 15 rfl
  iterate 3 focus (intros;(conv=>lhs;simp only [Jh,Ju,JV,Jx,JJ,eq_self,Nat.reduceEqDiff,reduceIte,Nat.reduceSub,Nat.reduceAdd,List.cons_append,List.nil_append]);all_goals rfl)
  ·
   intro gh X K zq zc zq2 zc2 zb zv hK;refine Jg (Ey u22 sz2 rfl rfl rfl (by omega) At.z) rfl (Jj ?_);exact hK zq zc zq2 zc2 zb zv
  ·
   intro gh gh' h
   rfl
  apply EK 16 rfl
  iterate 3 focus (intros;(conv=>lhs;simp only [Jh,Ju,JV,Jx,JJ,eq_self,Nat.reduceEqDiff,reduceIte,Nat.reduceSub,Nat.reduceAdd,List.cons_append,List.nil_append]);all_goals rfl)
  ·
   intro gh X K hK;refine J.storeWI rfl rfl sz2 (by omega) At.z (Jj ?_);exact hK
  ·
   intro gh gh' h
   rfl
  apply Et [0,1,2,3,4,5,6,7,8,9,10,11,12,13,14,15] [0,1,2,3,4,5,6,7,8,9,10,11,12,13,14,15] foll0 rfl rfl rfl (by rfl)
  iterate 2 focus (intros;(conv=>lhs;simp only [Jh,Ju,JV,Jx,JJ,eq_self,Nat.reduceEqDiff,reduceIte,Nat.reduceSub,Nat.reduceAdd,List.cons_append,List.nil_append]);all_goals rfl)
  intro gh;clear gh;refine JD (Ja (hK7 (Jb (Jg (Jc rfl) rfl (Jg (JC rfl rfl (by first | exact nw _ (by omega) | rfl)) rfl (Jg (Jd rfl) rfl (Jf (Ja ?_))))))));exact hAg0 (i+1) (by omega) (by show xs.length - (i+1)<xs.length - i;omega) 23 rfl rfl ⟨rfl,trivial⟩ rfl (by rw [lsZ_set (by omega)])
 ·
  refine JG (Jk (Jk (JN (Ja (hK3 (Je fun _ hK8 _=>(Jb (Jg (Jc rfl) rfl (Jg (Jd rfl) rfl (Jf (Ja (hK8 (Jq (Jp rfl (Res.tmp rfl) fun w hH=>?_))))))))))))));replace hH:=hH.sublist (.cons_cons _ (List.Sublist.refl _));rw [lsZ_end (by omega)] at hH;exact ⟨_,_,by rw [lessS_len],by rw [lessS_len];exact hH⟩
theorem fn103:Fn Try.prog 103:=⟨_,Try.func103,by kernel_rfl,rfl⟩
theorem fn104:Fn Try.prog 104:=⟨_,Try.func104,by kernel_rfl,rfl⟩
theorem l03By_c {B:World} {H0 H:HP} {L:List SA} {w:World} {qrow:Option Addr} {crow:Nat} {row:List Int} {qrs:Option Addr} {crs:Nat} {rs:List (List Int)} {W:Nat} (hrow:Ints H qrow row) (hrs:RowsR H qrs rs) (hw:RowOk W row) (hW : ∀r∈rs,RowOk W r∧ldR r<W) (hn:rs.length≤1000000) (hWn:W≤1000000) (hcr:row.length≤crow) (hH:Hp B H0 H L w):Calls Try.prog 102 [.slice qrow row.length crow,.slice qrs rs.length crs].toArray w fun e w'=>∃H' q c,Le H H' ∧Ints H' q (byS row rs)∧(byS row rs).length≤c∧e = .returned (.slice q (byS row rs).length c)∧Hp B H0 H' L w':=by
 refine Jv Try.func102 rfl 34 rfl rfl [(0,.slice qrow row.length crow),(1,.slice qrs rs.length crs)] rfl hH ?_;have hw0:=hH.old;have hw1:=hH.le;clear hH;refine Je fun _ hK1 _=>(Jb (Jg (Jd rfl) rfl (Jf (Ja (hK1 (Je fun _ hK2 _=>(Je fun _ hK3 _=>(Jb (Jg (Jd rfl) rfl (Jf (Ja (hK3 (Jm (JE (σ:=HP × Option Addr × Nat × Nat) (fun ⟨Hk,q,c,k⟩=>[(5,.int .i64 (k:Int)),(0,.slice q (byS row (rs.take k)).length c)]) (fun ⟨Hk,q,c,k⟩=>Hk) (fun ⟨Hk,q,c,k⟩=>L) (fun ⟨Hk,q,c,k⟩=>Le H Hk∧Ints Hk q (byS row (rs.take k))∧(byS row (rs.take k)).length≤c∧k≤rs.length) (fun ⟨Hk,q,c,k⟩=>rs.length - k) (H,qrow,crow,0) ⟨Le.refl _,hrow,hcr,by omega⟩ ⟨rfl,⟨rfl,trivial⟩⟩ rfl rfl ?_))))))))))))));rintro ⟨Hk,q,c,k⟩ ⟨hlk,hS,hSc,hk⟩ _ hAg0;replace hrow:=hrow.le hlk;replace hrs:=hrs.le hlk;refine Je fun _ hK4 _=>(Je fun _ hK5 _=>(Jb (Jg (Jc rfl) rfl (Jg (Jc rfl) rfl (Jg (Jo u27 rfl rfl) rfl (Jg (JP rfl rfl) rfl (Jf (Ja (hK5 (Jn rfl (fun h10=>?_) (fun h10=>?_)))))))))))
 ·
  have hk1:k<rs.length:=by omega
  have hrk:=hW _ (rw_mem hk1);have hbk:=byS_ok (B:=rs.take k) hw (fun r hr=>(hW r (List.mem_of_mem_take hr)).1);have hbl:=hbk.len;have hrl:=hrk.1.len;have hld:=idxOf_ld (r:=rw_ rs k) (by omega);have hbv:=hbk.val (ldR (rw_ rs k));have hrle:=hrk.2;refine Jl (Ja (hK4 (Je fun _ hK6 _=>(Jm (Je fun _ hK7 _=>(Jb (Jg (Jc rfl) rfl (Jg (Jc rfl) rfl (Jg (JU u27 sz22 rfl rfl rfl hk1 hrs.sm) rfl ?_)))))))));obtain ⟨qe16,ce16,he16,le16,Fe16⟩:=hrs k hk1;refine Jg (JF rfl he16 pl22) rfl (JB fn103 rfl rfl fun w hH=>(l03First_c Fe16 (by omega) hH).mono ?_);rintro _ w ⟨rfl,hH⟩;refine ⟨_,rfl,fun a hF=>JT hF hH ?_⟩;refine Jg (PR.eqv (v':=.int .i64 ((ldR (rw_ rs k):Nat):Int)) (by rw [hld]) (Jd rfl)) rfl (Jf (Ja (hK7 (Je fun _ hK8 _=>(Jb (Jg (Jc rfl) rfl (Jg (Jc rfl) rfl (Jg (JU u22 sz2 rfl rfl rfl (by omega) hS.sm) rfl (Jg (JF rfl (hS _ (by omega)) pl2) rfl (Jg (Ej rfl rfl) rfl (Jf (Ja (hK8 (Jn rfl (fun h22=>?_) (fun h22=>?_)))))))))))))))
  ·
   refine Es (Rs:=[]) 11 [[], [], [], [1,2], [1,2,3], [], [], [5,6], [5,6,7], [0,1,2,3,4,5,6,7,8], [0,1,2,3,4,5,6,7,8,9]] [[], [], [], [], [], [], [], [], [], [], []] [[], [], [], [], [], [], [], [], [], [], []] rfl rfl (by kernel_rfl) ?_;apply Jr 1 rfl
   iterate 3 focus (intros;(conv=>lhs;simp only [Jh,Ju,JV,Jx,JJ,eq_self,Nat.reduceEqDiff,reduceIte,Nat.reduceSub,Nat.reduceAdd,List.cons_append,List.nil_append]);all_goals rfl)
   ·
    intro gh X K zq zc zq2 zc2 zb zv hK;refine Jg (Jc rfl) rfl (Jj ?_);exact hK zq zc zq2 zc2 zb zv
   ·
    intro gh gh' h
    rfl
   apply Jr 2 rfl
   iterate 3 focus (intros;(conv=>lhs;simp only [Jh,Ju,JV,Jx,JJ,eq_self,Nat.reduceEqDiff,reduceIte,Nat.reduceSub,Nat.reduceAdd,List.cons_append,List.nil_append]);all_goals rfl)
   ·
    intro gh X K zq zc zq2 zc2 zb zv hK;refine Jg (Jc rfl) rfl (Jj ?_);exact hK zq zc zq2 zc2 zb zv
   ·
    intro gh gh' h
    rfl
   apply Jr 3 rfl
   iterate 3 focus (intros;(conv=>lhs;simp only [Jh,Ju,JV,Jx,JJ,eq_self,Nat.reduceEqDiff,reduceIte,Nat.reduceSub,Nat.reduceAdd,List.cons_append,List.nil_append]);all_goals rfl)
   ·
    intro gh X K zq zc zq2 zc2 zb zv hK;refine Jg (Jc rfl) rfl (Jj ?_);exact hK zq zc zq2 zc2 zb zv
   ·
    intro gh gh' h
    rfl
   apply Jr 4 rfl
   iterate 3 focus (intros;(conv=>lhs;simp only [Jh,Ju,JV,Jx,JJ,eq_self,Nat.reduceEqDiff,reduceIte,Nat.reduceSub,Nat.reduceAdd,List.cons_append,List.nil_append]);all_goals rfl)
   ·
    intro gh X K zq zc zq2 zc2 zb zv hK;refine Jg (JU u27 sz22 rfl rfl rfl hk1 hrs.sm) rfl (Jj ?_);exact hK zq zc zq2 zc2 zb zv
   ·
    intro gh gh' h
    rfl
   obtain ⟨qe27,ce27,he27,le27,Fe27⟩:=hrs k hk1;apply Jr 5 rfl
   iterate 3 focus (intros;(conv=>lhs;simp only [Jh,Ju,JV,Jx,JJ,eq_self,Nat.reduceEqDiff,reduceIte,Nat.reduceSub,Nat.reduceAdd,List.cons_append,List.nil_append]);all_goals rfl)
   ·
    intro gh X K zq zc zq2 zc2 zb zv hK;refine Jg (JF rfl he27 pl22) rfl (Jj ?_);exact hK zq zc zq2 zc2 zb zv
   ·
    intro gh gh' h
    rfl
   apply Jr 6 rfl
   iterate 3 focus (intros;(conv=>lhs;simp only [Jh,Ju,JV,Jx,JJ,eq_self,Nat.reduceEqDiff,reduceIte,Nat.reduceSub,Nat.reduceAdd,List.cons_append,List.nil_append]);all_goals rfl)
   ·
    intro gh X K zq zc zq2 zc2 zb zv hK;refine Jg (Jc rfl) rfl (Jj ?_);exact hK zq zc zq2 zc2 zb zv
   ·
    intro gh gh' h
    rfl
   apply Jr 7 rfl
   iterate 3 focus (intros;(conv=>lhs;simp only [Jh,Ju,JV,Jx,JJ,eq_self,Nat.reduceEqDiff,reduceIte,Nat.reduceSub,Nat.reduceAdd,List.cons_append,List.nil_append]);all_goals rfl)
   ·
    intro gh X K zq zc zq2 zc2 zb zv hK;refine Jg (Jc rfl) rfl (Jj ?_);exact hK zq zc zq2 zc2 zb zv
   ·
    intro gh gh' h
    rfl
   apply Jr 8 rfl
   iterate 3 focus (intros;(conv=>lhs;simp only [Jh,Ju,JV,Jx,JJ,eq_self,Nat.reduceEqDiff,reduceIte,Nat.reduceSub,Nat.reduceAdd,List.cons_append,List.nil_append]);all_goals rfl)
   ·
    intro gh X K zq zc zq2 zc2 zb zv hK;refine Jg (JU u22 sz2 rfl rfl rfl (by omega) hS.sm) rfl (Jj ?_);exact hK zq zc zq2 zc2 zb zv
   ·
    intro gh gh' h
    rfl
   apply Jr 9 rfl
   iterate 3 focus (intros;(conv=>lhs;simp only [Jh,Ju,JV,Jx,JJ,eq_self,Nat.reduceEqDiff,reduceIte,Nat.reduceSub,Nat.reduceAdd,List.cons_append,List.nil_append]);all_goals rfl)
   ·
    intro gh X K zq zc zq2 zc2 zb zv hK;refine Jg (JF rfl (hS _ (by omega)) pl2) rfl (Jj ?_);exact hK zq zc zq2 zc2 zb zv
   ·
    intro gh gh' h
    rfl
   apply Ei 10 rfl
   iterate 3 focus (intros;(conv=>lhs;simp only [Jh,Ju,JV,Jx,JJ,eq_self,Nat.reduceEqDiff,reduceIte,Nat.reduceSub,Nat.reduceAdd,List.cons_append,List.nil_append]);all_goals rfl)
   ·
    intro gh X K zq zc zq2 zc2 zb zv hK;refine JB fn104 rfl rfl fun w hH=>(l03Less_c hS Fe27 (by omega) (by rw [hbl,hrl]) hbk.val hrk.1.val hbv hH).mono ?_;rintro _ w ⟨qo32,co32,rfl,hH⟩;refine ⟨_,rfl,fun a hF=>JT hF hH ?_⟩;refine Jj ?_;exact hK qo32 co32 zq2 zc2 zb zv
   ·
    intro gh gh' h;refine ⟨?_,?_⟩ <;> rfl
   apply Jr 11 rfl
   iterate 3 focus (intros;(conv=>lhs;simp only [Jh,Ju,JV,Jx,JJ,eq_self,Nat.reduceEqDiff,reduceIte,Nat.reduceSub,Nat.reduceAdd,List.cons_append,List.nil_append]);all_goals rfl)
   ·
    intro gh X K zq zc zq2 zc2 zb zv hK;refine Jg (Jd rfl) rfl (Jj ?_);exact hK zq zc zq2 zc2 zb zv
   ·
    intro gh gh' h
    first | simp only [h 9 rfl] | rfl
   apply Et [0,1,2,3,4,5,6,7,8,9,10] [0,1,2,3,4,5,6,7,8,9,10] foll0 rfl rfl rfl (by rfl)
   iterate 2 focus (intros;(conv=>lhs;simp only [Jh,Ju,JV,Jx,JJ,eq_self,Nat.reduceEqDiff,reduceIte,Nat.reduceSub,Nat.reduceAdd,List.cons_append,List.nil_append]);all_goals rfl)
   intro gh;generalize (gh 9).c=co32;generalize (gh 9).q=qo32;clear gh;refine EJ.fixA .z fun Ho32 hleo32 hAo32=>?_;replace hrow:=hrow.le hleo32;replace hrs:=hrs.le hleo32;replace hS:=hS.le hleo32;replace Fe16:=Fe16.le hleo32;replace Fe27:=Fe27.le hleo32;have hxo32:=own_ints hAo32;have hco32:=own_le hAo32;refine JD (Ja (hK6 (Jb (Jg (Jc rfl) rfl (Jg (JC rfl rfl (by first | exact nw _ (by omega) | rfl)) rfl (Jg (Jd rfl) rfl (Jf (Ja ?_))))))));exact hAg0 (Ho32,qo32,co32,k+1) ⟨(hlk.trans hleo32),by rw [byS_take hk1];exact hxo32,by rw [byS_take hk1];exact hco32,by omega⟩ (by show rs.length - (k+1)<rs.length - k;omega) 31 rfl rfl ⟨rfl,⟨(by rw [byS_take hk1];rfl),trivial⟩⟩ rfl rfl
  ·
   refine Jl (JD (Ja (hK6 (Jb (Jg (Jc rfl) rfl (Jg (JC rfl rfl (by first | exact nw _ (by omega) | rfl)) rfl (Jg (Jd rfl) rfl (Jf (Ja ?_)))))))));exact hAg0 (Hk,q,c,k+1) ⟨hlk,by rw [byS_take hk1,oneBy_z hbk hrk.1 (by omega)];exact hS,by rw [byS_take hk1,oneBy_z hbk hrk.1 (by omega)];exact hSc,by omega⟩ (by show rs.length - (k+1)<rs.length - k;omega) 20 rfl rfl ⟨rfl,⟨(by rw [byS_take hk1,oneBy_z hbk hrk.1 (by omega)];rfl),trivial⟩⟩ rfl rfl
 ·
  refine JG (Jk (Jk (JN (Ja (hK2 (Je fun _ hK9 _=>(Jb (Jg (Jc rfl) rfl (Jg (Jd rfl) rfl (Jf (Ja (hK9 (Jq (Jp rfl (Res.tmp rfl) fun w hH=>?_))))))))))))))
  obtain rfl:k=rs.length:=by omega
  rw [List.take_length] at hS hSc ⊢;exact ⟨_,_,_,hlk,hS,hSc,rfl,hH⟩
theorem fn102:Fn Try.prog 102:=⟨_,Try.func102,by kernel_rfl,rfl⟩
theorem fn105:Fn Try.prog 105:=⟨_,Try.func105,by kernel_rfl,rfl⟩
def stI (u:List Int) (s:List (List Int) × Bool) (r:List Int):List (List Int) × Bool:=if s.2 then s else if ldR u<ldR r then (s.1++[u],true) else s
def stP (u:List Int) (s:List (List Int) × Bool) (r:List Int):List (List Int) × Bool:=((stI u s r).1++[oneBy r u],(stI u s r).2)
def goK (u:List Int) (rs:List (List Int)) (i:Nat):List (List Int) × Bool:=(rs.take i).foldl (stP u) ([],false)
theorem goK_succ {u:List Int} {rs:List (List Int)} {i:Nat} (hi:i<rs.length):goK u rs (i+1)=stP u (goK u rs i) (rw_ rs i):=by
 unfold goK;rw [rw_take hi,List.foldl_append]
 rfl
theorem stI_a {u:List Int} {s:List (List Int) × Bool} {r:List Int} (h:s.2=true):stI u s r=s:=by unfold stI;rw [if_pos h]
theorem stI_b {u:List Int} {s:List (List Int) × Bool} {r:List Int} (h:s.2=false) (hl:ldR u<ldR r):stI u s r=(s.1++[u],true):=by unfold stI;rw [h,if_neg (by decide),if_pos hl]
theorem stI_c {u:List Int} {s:List (List Int) × Bool} {r:List Int} (h:s.2=false) (hl : ¬ldR u<ldR r):stI u s r=s:=by unfold stI;rw [h,if_neg (by decide),if_neg hl]
theorem stP_true (u:List Int) : ∀(rs o:List (List Int)),rs.foldl (stP u) (o,true)=(o++rs.map (fun x=>oneBy x u),true)
 | [],o=>by simp
 | r::rs,o=>by
  rw [List.foldl_cons,show stP u (o,true) r=(o++[oneBy r u],true) from rfl,stP_true u rs,List.map_cons,List.append_assoc]
  rfl
theorem stP_ins (u:List Int) : ∀(rs o:List (List Int)),(if (rs.foldl (stP u) (o,false)).2 then (rs.foldl (stP u) (o,false)).1 else (rs.foldl (stP u) (o,false)).1++[u])=o++insS u rs
 | [],o=>rfl
 | r::rs,o=>by
  rw [List.foldl_cons]
  by_cases h:ldR u<ldR r
  ·have e:stP u (o,false) r=(o++[u]++[oneBy r u],true):=by unfold stP;rw [stI_b rfl h]
   rw [e,stP_true,if_pos rfl]
   simp only [insS]
   rw [if_pos h,List.map_cons]
   simp [oneBy]
  ·have e:stP u (o,false) r=(o++[oneBy r u],false):=by unfold stP;rw [stI_c rfl h]
   rw [e,stP_ins u rs]
   simp only [insS]
   rw [if_neg h]
   simp [oneBy]
theorem goK_end {u:List Int} {rs:List (List Int)} {i:Nat} (hi:i=rs.length):(if (goK u rs i).2 then (goK u rs i).1 else (goK u rs i).1++[u])=insS u rs:=by
 subst hi;unfold goK;rw [List.take_length,stP_ins u rs []]
 rfl
theorem goK_yes {u:List Int} {rs:List (List Int)} {i:Nat} (hi:i=rs.length) (h:(goK u rs i).2=true):(goK u rs i).1=insS u rs:=by rw [← goK_end hi,if_pos h]
theorem goK_no {u:List Int} {rs:List (List Int)} {i:Nat} (hi:i=rs.length) (h:(goK u rs i).2=false):(goK u rs i).1++[u]=insS u rs:=by rw [← goK_end hi,h];rfl
theorem stI_len {u:List Int} {s:List (List Int) × Bool} {r:List Int}:(stI u s r).1.length≤s.1.length+1:=by
 unfold stI
 split
 ·omega
 ·split
  ·simp
  ·omega
theorem goK_len (u:List Int) (rs:List (List Int)) : ∀i,(goK u rs i).1.length≤2 * i
 | 0=>by simp [goK]
 | i+1=>by
  by_cases hi:i<rs.length
  ·rw [goK_succ hi]
   have h1:=goK_len u rs i
   have h2:=stI_len (u:=u) (s:=goK u rs i) (r:=rw_ rs i)
   unfold stP
   rw [List.length_append]
   simp only [List.length_cons,List.length_nil]
   omega
  ·have e:goK u rs (i+1)=goK u rs i:=by
    unfold goK
    rw [List.take_of_length_le (by omega),List.take_of_length_le (by omega)]
   rw [e]
   have:=goK_len u rs i
   omega
theorem put_no {rs:List (List Int)} {row:List Int} (h:idxOf (byS row rs) nzI<0):putS rs row=rs:=by
 have h1:zR (byS row rs)=true:=by rw [← zR_eq];exact decide_eq_true h
 unfold putS;rw [if_neg (of_decide_eq_true h1)]
theorem put_lt {b:List Int} (h : ¬idxOf b nzI<0):ldR b<b.length:=by
 have h1:zR b=false:=by rw [← zR_eq];exact decide_eq_false h
 exact Decidable.not_not.1 (of_decide_eq_false h1)
theorem put_yes {rs:List (List Int)} {row:List Int} (h:ldR (byS row rs)<(byS row rs).length):putS rs row=insS (unitS (byS row rs)) rs:=by
 unfold putS;rw [if_pos h]
theorem l03Put_c {B:World} {H0 H:HP} {L:List SA} {w:World} {qrs:Option Addr} {crs:Nat} {rs:List (List Int)} {qrow:Option Addr} {crow:Nat} {row:List Int} {W:Nat} (hrs:RowsR H qrs rs) (hrow:Ints H qrow row) (hR:Red W rs) (hw:RowOk W row) (hWn:W≤100000) (hcr:row.length≤crow) (hcs:rs.length≤crs) (hH:Hp B H0 H L w):Calls Try.prog 80 [.slice qrs rs.length crs,.slice qrow row.length crow].toArray w fun e w'=>∃H' q c,Le H H' ∧RowsR H' q (putS rs row)∧(putS rs row).length≤c∧e = .returned (.slice q (putS rs row).length c)∧Hp B H0 H' L w':=by
 refine Jv Try.func80 rfl 74 rfl rfl [(0,.slice qrs rs.length crs),(1,.slice qrow row.length crow)] rfl hH ?_;have hw0:=hH.old;have hw1:=hH.le;have hRc:=hR.count;clear hH;refine Je fun _ hK1 _=>(Jb (Jg (Jd rfl) rfl (Jf (Ja (hK1 (Je fun _ hK2 _=>(Jb (Jg (Jc rfl) rfl (Jg (Jc rfl) rfl (JB fn102 rfl rfl fun w hH=>(l03By_c (W:=W) hrow hrs hw hR.led (by omega) (by omega) hcr hH).mono ?_))))))))));rintro _ w ⟨Hf11,qf11,cf11,hlf11,hI11,hcc11,rfl,hH⟩;refine ⟨_,rfl,fun a hF=>JT hF hH ?_⟩;replace hrs:=hrs.le hlf11;replace hrow:=hrow.le hlf11;have hbk:=byS_ok hw hR.row;have hbl:=hbk.len;refine Jg (Jd rfl) rfl (Jf (Ja (hK2 (Je fun _ hK3 _=>(Jb (Jg (Jc rfl) rfl (JB fn103 rfl rfl fun w hH=>(l03First_c hI11 (by omega) hH).mono ?_)))))));rintro _ w ⟨rfl,hH⟩;refine ⟨_,rfl,fun a hF=>JT hF hH ?_⟩;refine Jg (Jd rfl) rfl (Jf (Ja (hK3 (Je fun _ hK4 _=>(Je fun _ hK5 _=>(Jb (Jg (Jc rfl) rfl (Jg (JP rfl rfl) rfl (Jf (Ja (hK5 (Jn rfl (fun h15=>?_) (fun h15=>?_)))))))))))))
 ·
  refine Je fun _ hK6 _=>(Jb (Jg (Jc rfl) rfl (Jg (Jd rfl) rfl (Jf (Ja (hK6 (Jq (Ji (Jp rfl (Res.tmp rfl) fun w hH=>?_)))))))));rw [put_no h15];exact ⟨_,_,_,hlf11,hrs,hcs,rfl,hH⟩
 ·
  have hlt:=put_lt h15;have hld:=idxOf_ld hlt;have hbv:=hbk.val (ldR (byS row rs));have huk:=hbk.unit;have hul:=unitS_ld hbk hlt;have huL:=huk.len;have hiv:=fld_bd (-(ivZ ((byS row rs).getD (ldR (byS row rs)) 0)));have hivb:=ivZ_bd hbv.1;refine Jl (Ja (hK4 (Je fun _ hK7 _=>(Es (Rs:=[]) 13 [[], [0], [0,1], [], [], [], [4,5], [4,5,6], [4,5,6,7], [4,5,6,7,8], [4,5,6,7,8,9], [0,1,2,3,4,5,6,7,8,9,10], [0,1,2,3,4,5,6,7,8,9,10,11]] [[], [], [], [], [], [], [], [], [], [], [], [2], []] [[], [], [], [], [], [], [], [], [], [], [], [], []] rfl rfl (by kernel_rfl) ?_))));apply Jr 1 rfl
  iterate 3 focus (intros;(conv=>lhs;simp only [Jh,Ju,JV,Jx,JJ,eq_self,Nat.reduceEqDiff,reduceIte,Nat.reduceSub,Nat.reduceAdd,List.cons_append,List.nil_append]);all_goals rfl)
  ·
   intro gh X K zq zc zq2 zc2 zb zv hK;refine Jg (Jc rfl) rfl (Jj ?_);exact hK zq zc zq2 zc2 zb zv
  ·
   intro gh gh' h
   rfl
  apply Jr 2 rfl
  iterate 3 focus (intros;(conv=>lhs;simp only [Jh,Ju,JV,Jx,JJ,eq_self,Nat.reduceEqDiff,reduceIte,Nat.reduceSub,Nat.reduceAdd,List.cons_append,List.nil_append]);all_goals rfl)
  ·
   intro gh X K zq zc zq2 zc2 zb zv hK;refine Jg (Jo u22 rfl rfl) rfl (Jj ?_);exact hK zq zc zq2 zc2 zb zv
  ·
   intro gh gh' h
   rfl
  apply Ei 3 rfl
  iterate 3 focus (intros;(conv=>lhs;simp only [Jh,Ju,JV,Jx,JJ,eq_self,Nat.reduceEqDiff,reduceIte,Nat.reduceSub,Nat.reduceAdd,List.cons_append,List.nil_append]);all_goals rfl)
  ·
   intro gh X K zq zc zq2 zc2 zb zv hK;refine J.mk (MK.makeI (m:=(byS row rs).length) u22 ze2 sz2 by2 rfl rfl rfl rfl (by omega)) rfl fun qo19 co19=>(Jj ?_);exact hK qo19 co19 zq2 zc2 zb zv
  ·
   intro gh gh' h;refine ⟨?_,?_⟩ <;> rfl
  apply Jr 4 rfl
  iterate 3 focus (intros;(conv=>lhs;simp only [Jh,Ju,JV,Jx,JJ,eq_self,Nat.reduceEqDiff,reduceIte,Nat.reduceSub,Nat.reduceAdd,List.cons_append,List.nil_append]);all_goals rfl)
  ·
   intro gh X K zq zc zq2 zc2 zb zv hK;refine Jg (Jc rfl) rfl (Jj ?_);exact hK zq zc zq2 zc2 zb zv
  ·
   intro gh gh' h
   rfl
  apply Jr 5 rfl
  iterate 3 focus (intros;(conv=>lhs;simp only [Jh,Ju,JV,Jx,JJ,eq_self,Nat.reduceEqDiff,reduceIte,Nat.reduceSub,Nat.reduceAdd,List.cons_append,List.nil_append]);all_goals rfl)
  ·
   intro gh X K zq zc zq2 zc2 zb zv hK;refine Jg (Jc rfl) rfl (Jj ?_);exact hK zq zc zq2 zc2 zb zv
  ·
   intro gh gh' h
   rfl
  apply Jr 6 rfl
  iterate 3 focus (intros;(conv=>lhs;simp only [Jh,Ju,JV,Jx,JJ,eq_self,Nat.reduceEqDiff,reduceIte,Nat.reduceSub,Nat.reduceAdd,List.cons_append,List.nil_append]);all_goals rfl)
  ·
   intro gh X K zq zc zq2 zc2 zb zv hK;refine Jg (PR.eqv (v':=.int .i64 ((ldR (byS row rs):Nat):Int)) (by rw [hld]) (Jc rfl)) rfl (Jj ?_);exact hK zq zc zq2 zc2 zb zv
  ·
   intro gh gh' h
   rfl
  apply Jr 7 rfl
  iterate 3 focus (intros;(conv=>lhs;simp only [Jh,Ju,JV,Jx,JJ,eq_self,Nat.reduceEqDiff,reduceIte,Nat.reduceSub,Nat.reduceAdd,List.cons_append,List.nil_append]);all_goals rfl)
  ·
   intro gh X K zq zc zq2 zc2 zb zv hK;refine Jg (JU u22 sz2 rfl rfl rfl hlt hI11.sm) rfl (Jj ?_);exact hK zq zc zq2 zc2 zb zv
  ·
   intro gh gh' h
   rfl
  apply Jr 8 rfl
  iterate 3 focus (intros;(conv=>lhs;simp only [Jh,Ju,JV,Jx,JJ,eq_self,Nat.reduceEqDiff,reduceIte,Nat.reduceSub,Nat.reduceAdd,List.cons_append,List.nil_append]);all_goals rfl)
  ·
   intro gh X K zq zc zq2 zc2 zb zv hK;refine Jg (JF rfl (hI11 _ hlt) pl2) rfl (Jj ?_);exact hK zq zc zq2 zc2 zb zv
  ·
   intro gh gh' h
   rfl
  apply Jr 9 rfl
  iterate 3 focus (intros;(conv=>lhs;simp only [Jh,Ju,JV,Jx,JJ,eq_self,Nat.reduceEqDiff,reduceIte,Nat.reduceSub,Nat.reduceAdd,List.cons_append,List.nil_append]);all_goals rfl)
  ·
   intro gh X K zq zc zq2 zc2 zb zv hK;refine JB fn105 rfl rfl fun w hH=>(l01Inverse_c (by omega) hH).mono ?_;rintro _ w ⟨rfl,hH⟩;refine ⟨_,rfl,fun a hF=>JT hF hH ?_⟩;refine Jj ?_;exact hK zq zc zq2 zc2 zb zv
  ·
   intro gh gh' h
   rfl
  apply Jr 10 rfl
  iterate 3 focus (intros;(conv=>lhs;simp only [Jh,Ju,JV,Jx,JJ,eq_self,Nat.reduceEqDiff,reduceIte,Nat.reduceSub,Nat.reduceAdd,List.cons_append,List.nil_append]);all_goals rfl)
  ·
   intro gh X K zq zc zq2 zc2 zb zv hK;refine Jg (PR.neg rfl ((nw _ (by omega)).trans (Int.zero_sub _))) rfl (Jj ?_);exact hK zq zc zq2 zc2 zb zv
  ·
   intro gh gh' h
   rfl
  apply Jr 11 rfl
  iterate 3 focus (intros;(conv=>lhs;simp only [Jh,Ju,JV,Jx,JJ,eq_self,Nat.reduceEqDiff,reduceIte,Nat.reduceSub,Nat.reduceAdd,List.cons_append,List.nil_append]);all_goals rfl)
  ·
   intro gh X K zq zc zq2 zc2 zb zv hK;refine JB fn65 rfl rfl fun w hH=>(l01Mod_c (by omega) hH).mono ?_;rintro _ w ⟨rfl,hH⟩;refine ⟨_,rfl,fun a hF=>JT hF hH ?_⟩;refine Jj ?_;exact hK zq zc zq2 zc2 zb zv
  ·
   intro gh gh' h
   rfl
  apply Ei 12 rfl
  iterate 3 focus (intros;(conv=>lhs;simp only [Jh,Ju,JV,Jx,JJ,eq_self,Nat.reduceEqDiff,reduceIte,Nat.reduceSub,Nat.reduceAdd,List.cons_append,List.nil_append]);all_goals rfl)
  ·
   intro gh X K zq zc zq2 zc2 zb zv hK;refine JB fn104 rfl rfl fun w hH=>hH.lend .z fun Hl1 hle1 hA1 hB1 hH=>(l03Less_c (own_ints hA1) (hI11.le hle1) (by simp;omega) (by simp) (fun j=>by rw [rep_get];omega) hbk.val hiv hH).mono ?_;rintro _ w ⟨qo28,co28,rfl,hH⟩;replace hH:=hB1 _ _ hH;refine ⟨_,rfl,fun a hF=>JT hF hH ?_⟩;refine Jw .z (Jw (.s .z) (Jj ?_));exact hK qo28 co28 zq2 zc2 zb zv
  ·
   intro gh gh' h;refine ⟨?_,?_⟩ <;> (first | simp only [h 2 rfl] | rfl)
  apply Jr 13 rfl
  iterate 3 focus (intros;(conv=>lhs;simp only [Jh,Ju,JV,Jx,JJ,eq_self,Nat.reduceEqDiff,reduceIte,Nat.reduceSub,Nat.reduceAdd,List.cons_append,List.nil_append]);all_goals rfl)
  ·
   intro gh X K zq zc zq2 zc2 zb zv hK;refine Jg (Jd rfl) rfl (Jj ?_);exact hK zq zc zq2 zc2 zb zv
  ·
   intro gh gh' h
   first | simp only [h 2 rfl,h 11 rfl] | rfl
  apply Et [0,1,2,3,4,5,6,7,8,9,10,11,12] [0,1,2,3,4,5,6,7,8,9,10,11,12] foll0 rfl rfl rfl (by rfl)
  iterate 2 focus (intros;(conv=>lhs;simp only [Jh,Ju,JV,Jx,JJ,eq_self,Nat.reduceEqDiff,reduceIte,Nat.reduceSub,Nat.reduceAdd,List.cons_append,List.nil_append]);all_goals rfl)
  intro gh;generalize (gh 2).c=co19;generalize (gh 2).q=qo19;generalize (gh 11).c=co28;generalize (gh 11).q=qo28;clear gh;refine EJ.fixA (.s .z) fun Ho28 hleo28 hAo28=>?_;replace hrs:=hrs.le hleo28;replace hrow:=hrow.le hleo28;replace hI11:=hI11.le hleo28;have hxo28:=own_ints hAo28;have hco28:=own_le hAo28;have hxu:Ints Ho28 qo28 (unitS (byS row rs)):=hxo28;have hcu:(unitS (byS row rs)).length≤co28:=hco28;refine JO .z (Ja (hK7 (Je fun _ hK8 _=>(Jb (J.mk (MK.lit0 u27 sz22) rfl fun qo29 co29=>(Jg (Jd rfl) rfl (Jg (Jd rfl) rfl (Jf (Ja (hK8 (Je fun _ hK9 _=>(Je fun _ hK10 _=>(Jb (Jg (Jd rfl) rfl (Jf (Ja (hK10 ?_)))))))))))))))));refine Jm (JE (σ:=HP × Option Addr × Nat × List Value × Nat) (fun ⟨Hk,q,c,vals,i⟩=>[(8,.int .i64 (i:Int)),(6,.slice q (goK (unitS (byS row rs)) rs i).1.length c),(7,.bool (goK (unitS (byS row rs)) rs i).2)]) (fun ⟨Hk,q,c,vals,i⟩=>Hk) (fun ⟨Hk,q,c,vals,i⟩=>own 22 1 q (goK (unitS (byS row rs)) rs i).1.length c vals::L) (fun ⟨Hk,q,c,vals,i⟩=>Le Ho28 Hk∧SlF Hk vals (goK (unitS (byS row rs)) rs i).1∧i≤rs.length) (fun ⟨Hk,q,c,vals,i⟩=>rs.length - i) (Ho28,qo29,co29, [],0) ⟨Le.refl _,SlF.nil _,by omega⟩ ⟨rfl,⟨rfl,⟨rfl,trivial⟩⟩⟩ rfl rfl ?_);rintro ⟨Hk,q,c,vals,i⟩ ⟨hlk,hS,hi⟩ _ hAg0;replace hrs:=hrs.le hlk;replace hrow:=hrow.le hlk;replace hI11:=hI11.le hlk;replace hxo28:=hxo28.le hlk;replace hxu:=hxu.le hlk;refine Je fun _ hK11 _=>(Je fun _ hK12 _=>(Jb (Jg (Jc rfl) rfl (Jg (Jc rfl) rfl (Jg (Jo u27 rfl rfl) rfl (Jg (JP rfl rfl) rfl (Jf (Ja (hK12 (Jn rfl (fun h33=>?_) (fun h33=>?_)))))))))))
  ·
   have hik:i<rs.length:=by omega
   have hgl:=goK_len (unitS (byS row rs)) rs i;have hrk:=hR.led _ (rw_mem hik);have hrl:=hrk.1.len;have hldi:=idxOf_ld (r:=rw_ rs i) (by omega);have hvv:=hrk.1.val (ldR (byS row rs));refine Jl (Ja (hK11 (Je fun _ hK13 _=>(Jm (CJ.cutU (σ:=Option Addr × Nat × List Value) (fun ⟨q1,c1,vals1⟩=>[(6,.slice q1 (stI (unitS (byS row rs)) (goK (unitS (byS row rs)) rs i) (rw_ rs i)).1.length c1),(7,.bool (stI (unitS (byS row rs)) (goK (unitS (byS row rs)) rs i) (rw_ rs i)).2)]) (fun ⟨q1,c1,vals1⟩=>Hk) (fun ⟨q1,c1,vals1⟩=>own 22 1 q1 (stI (unitS (byS row rs)) (goK (unitS (byS row rs)) rs i) (rw_ rs i)).1.length c1 vals1::L) (fun ⟨q1,c1,vals1⟩=>SlF Hk vals1 (stI (unitS (byS row rs)) (goK (unitS (byS row rs)) rs i) (rw_ rs i)).1) ?_ ?_)))))
   ·
    intro _ hMt1;refine Je fun _ hK14 _=>(Jb (Jg (Jc rfl) rfl (Jg (El rfl) rfl (Jg (Jc rfl) rfl (Eg (jd:=38) rfl (fun hg38=>?_) (fun hg38=>?_))))))
    ·
     try have hg38p:=of_decide_eq_true hg38
     refine JX (Jc rfl) rfl rfl rfl hg38 (JX (Jc rfl) rfl rfl rfl hg38 (JX (JU u27 sz22 rfl rfl rfl hik hrs.sm) rfl rfl rfl hg38 ?_));obtain ⟨qe42,ce42,he42,le42,Fe42⟩:=hrs i hik;refine JX (JF rfl he42 pl22) rfl rfl rfl hg38 (EI fn103 rfl rfl hg38 rfl rfl fun w hH=>(l03First_c Fe42 (by omega) hH).mono ?_);rintro _ w ⟨rfl,hH⟩;refine ⟨_,rfl,fun a hF=>JT hF hH ?_⟩;refine JX (Jc rfl) rfl rfl rfl hg38 (JX (EE rfl rfl) rfl rfl rfl hg38 (Jg (JZ rfl hg38 rfl) rfl (Jf (Ja (hK14 (Jn rfl (fun h46=>?_) (fun h46=>?_)))))))
     ·
      refine Je fun _ hK15 _=>(Jb (Jg (Jc rfl) rfl (Jg (Jc rfl) rfl (J.mk (MK.lit1S u27 ze22 sz22 rfl rfl) rfl fun qo49 co49=>(J.append1 u27 ze22 sz22 by22 rfl rfl rfl rfl (by omega) .z At.z (fun _ _=>At.z) rfl fun qo50 co50=>?_)))));have hS2:=hS.snoc hxu rfl hcu;refine Jg (Jd rfl) rfl (Jf (Ja (hK15 (Jb (Jg (Jd rfl) rfl (Jf (Ja (JO .z ?_))))))));exact hMt1 (qo50,co50,_) (by rw [stI_b (not_f hg38) (by omega)];exact hS2) 17 rfl rfl ⟨(by rw [stI_b (not_f hg38) (by omega),List.length_append];rfl),⟨(by rw [stI_b (not_f hg38) (by omega)];rfl),trivial⟩⟩ rfl (by dsimp only;rw [stI_b (not_f hg38) (by omega),List.length_append];rfl)
     ·
      refine Jl (Ja ?_);exact hMt1 (q,c,vals) (by rw [stI_c (not_f hg38) (by omega)];exact hS) 11 rfl rfl ⟨(by rw [stI_c (not_f hg38) (by omega)];rfl),⟨(by rw [stI_c (not_f hg38) (by omega)];rfl),trivial⟩⟩ rfl (by rw [stI_c (not_f hg38) (by omega)])
    ·
     try have hg38p:=of_decide_eq_false hg38
     refine JQ rfl rfl rfl hg38 (JQ rfl rfl rfl hg38 (JQ rfl rfl rfl hg38 (JQ rfl rfl rfl hg38 (JQ rfl rfl rfl hg38 (JQ rfl rfl rfl hg38 (JQ rfl rfl rfl hg38 (Jg (JY rfl hg38 rfl) rfl (Jf (Ja (hK14 (Eo rfl (Jl (Ja ?_)))))))))))));exact hMt1 (q,c,vals) (by rw [stI_a (not_t hg38)];exact hS) 11 rfl rfl ⟨(by rw [stI_a (not_t hg38)];rfl),⟨(by rw [stI_a (not_t hg38)];rfl),trivial⟩⟩ rfl (by rw [stI_a (not_t hg38)])
   ·
    rintro ⟨q1,c1,vals1⟩ hT;have hsl:=stI_len (u:=(unitS (byS row rs))) (s:=(goK (unitS (byS row rs)) rs i)) (r:=rw_ rs i);refine Es (Rs:=[_]) 17 [[], [], [], [1,2], [1,2,3], [], [], [], [6,7], [6,7,8], [], [6,7,8,9,10], [6,7,8,9,10,11], [1,2,3,4,5,6,7,8,9,10,11,12], [1,2,3,4,5,6,7,8,9,10,11,12,13], [0,1,2,3,4,5,6,7,8,9,10,11,12,13,14], [0,1,2,3,4,5,6,7,8,9,10,11,12,13,14,15]] [[], [], [], [], [], [], [], [], [], [], [], [], [], [], [], [14], []] [[], [], [], [], [], [], [], [], [], [], [], [], [], [], [], [17], []] rfl rfl (by kernel_rfl) ?_;apply Jr 1 rfl
    iterate 3 focus (intros;(conv=>lhs;simp only [Jh,Ju,JV,Jx,JJ,eq_self,Nat.reduceEqDiff,reduceIte,Nat.reduceSub,Nat.reduceAdd,List.cons_append,List.nil_append]);all_goals rfl)
    ·
     intro gh X K zq zc zq2 zc2 zb zv hK;refine Jg (Jc rfl) rfl (Jj ?_);exact hK zq zc zq2 zc2 zb zv
    ·
     intro gh gh' h
     rfl
    apply Jr 2 rfl
    iterate 3 focus (intros;(conv=>lhs;simp only [Jh,Ju,JV,Jx,JJ,eq_self,Nat.reduceEqDiff,reduceIte,Nat.reduceSub,Nat.reduceAdd,List.cons_append,List.nil_append]);all_goals rfl)
    ·
     intro gh X K zq zc zq2 zc2 zb zv hK;refine Jg (Jc rfl) rfl (Jj ?_);exact hK zq zc zq2 zc2 zb zv
    ·
     intro gh gh' h
     rfl
    apply Jr 3 rfl
    iterate 3 focus (intros;(conv=>lhs;simp only [Jh,Ju,JV,Jx,JJ,eq_self,Nat.reduceEqDiff,reduceIte,Nat.reduceSub,Nat.reduceAdd,List.cons_append,List.nil_append]);all_goals rfl)
    ·
     intro gh X K zq zc zq2 zc2 zb zv hK;refine Jg (Jc rfl) rfl (Jj ?_);exact hK zq zc zq2 zc2 zb zv
    ·
     intro gh gh' h
     rfl
    apply Jr 4 rfl
    iterate 3 focus (intros;(conv=>lhs;simp only [Jh,Ju,JV,Jx,JJ,eq_self,Nat.reduceEqDiff,reduceIte,Nat.reduceSub,Nat.reduceAdd,List.cons_append,List.nil_append]);all_goals rfl)
    ·
     intro gh X K zq zc zq2 zc2 zb zv hK;refine Jg (JU u27 sz22 rfl rfl rfl hik hrs.sm) rfl (Jj ?_);exact hK zq zc zq2 zc2 zb zv
    ·
     intro gh gh' h
     rfl
    obtain ⟨qe55,ce55,he55,le55,Fe55⟩:=hrs i hik;apply Jr 5 rfl
    iterate 3 focus (intros;(conv=>lhs;simp only [Jh,Ju,JV,Jx,JJ,eq_self,Nat.reduceEqDiff,reduceIte,Nat.reduceSub,Nat.reduceAdd,List.cons_append,List.nil_append]);all_goals rfl)
    ·
     intro gh X K zq zc zq2 zc2 zb zv hK;refine Jg (JF rfl he55 pl22) rfl (Jj ?_);exact hK zq zc zq2 zc2 zb zv
    ·
     intro gh gh' h
     rfl
    apply Jr 6 rfl
    iterate 3 focus (intros;(conv=>lhs;simp only [Jh,Ju,JV,Jx,JJ,eq_self,Nat.reduceEqDiff,reduceIte,Nat.reduceSub,Nat.reduceAdd,List.cons_append,List.nil_append]);all_goals rfl)
    ·
     intro gh X K zq zc zq2 zc2 zb zv hK;refine Jg (Jc rfl) rfl (Jj ?_);exact hK zq zc zq2 zc2 zb zv
    ·
     intro gh gh' h
     rfl
    apply Jr 7 rfl
    iterate 3 focus (intros;(conv=>lhs;simp only [Jh,Ju,JV,Jx,JJ,eq_self,Nat.reduceEqDiff,reduceIte,Nat.reduceSub,Nat.reduceAdd,List.cons_append,List.nil_append]);all_goals rfl)
    ·
     intro gh X K zq zc zq2 zc2 zb zv hK;refine Jg (Jc rfl) rfl (Jj ?_);exact hK zq zc zq2 zc2 zb zv
    ·
     intro gh gh' h
     rfl
    apply Jr 8 rfl
    iterate 3 focus (intros;(conv=>lhs;simp only [Jh,Ju,JV,Jx,JJ,eq_self,Nat.reduceEqDiff,reduceIte,Nat.reduceSub,Nat.reduceAdd,List.cons_append,List.nil_append]);all_goals rfl)
    ·
     intro gh X K zq zc zq2 zc2 zb zv hK;refine Jg (Jc rfl) rfl (Jj ?_);exact hK zq zc zq2 zc2 zb zv
    ·
     intro gh gh' h
     rfl
    apply Jr 9 rfl
    iterate 3 focus (intros;(conv=>lhs;simp only [Jh,Ju,JV,Jx,JJ,eq_self,Nat.reduceEqDiff,reduceIte,Nat.reduceSub,Nat.reduceAdd,List.cons_append,List.nil_append]);all_goals rfl)
    ·
     intro gh X K zq zc zq2 zc2 zb zv hK;refine Jg (JU u27 sz22 rfl rfl rfl hik hrs.sm) rfl (Jj ?_);exact hK zq zc zq2 zc2 zb zv
    ·
     intro gh gh' h
     rfl
    obtain ⟨qe60,ce60,he60,le60,Fe60⟩:=hrs i hik;apply Jr 10 rfl
    iterate 3 focus (intros;(conv=>lhs;simp only [Jh,Ju,JV,Jx,JJ,eq_self,Nat.reduceEqDiff,reduceIte,Nat.reduceSub,Nat.reduceAdd,List.cons_append,List.nil_append]);all_goals rfl)
    ·
     intro gh X K zq zc zq2 zc2 zb zv hK;refine Jg (JF rfl he60 pl22) rfl (Jj ?_);exact hK zq zc zq2 zc2 zb zv
    ·
     intro gh gh' h
     rfl
    apply Jr 11 rfl
    iterate 3 focus (intros;(conv=>lhs;simp only [Jh,Ju,JV,Jx,JJ,eq_self,Nat.reduceEqDiff,reduceIte,Nat.reduceSub,Nat.reduceAdd,List.cons_append,List.nil_append]);all_goals rfl)
    ·
     intro gh X K zq zc zq2 zc2 zb zv hK;refine Jg (PR.eqv (v':=.int .i64 ((ldR (byS row rs):Nat):Int)) (by rw [hld]) (Jc rfl)) rfl (Jj ?_);exact hK zq zc zq2 zc2 zb zv
    ·
     intro gh gh' h
     rfl
    apply Jr 12 rfl
    iterate 3 focus (intros;(conv=>lhs;simp only [Jh,Ju,JV,Jx,JJ,eq_self,Nat.reduceEqDiff,reduceIte,Nat.reduceSub,Nat.reduceAdd,List.cons_append,List.nil_append]);all_goals rfl)
    ·
     intro gh X K zq zc zq2 zc2 zb zv hK;refine Jg (JU u22 sz2 rfl rfl rfl (by omega) Fe60.sm) rfl (Jj ?_);exact hK zq zc zq2 zc2 zb zv
    ·
     intro gh gh' h
     rfl
    apply Jr 13 rfl
    iterate 3 focus (intros;(conv=>lhs;simp only [Jh,Ju,JV,Jx,JJ,eq_self,Nat.reduceEqDiff,reduceIte,Nat.reduceSub,Nat.reduceAdd,List.cons_append,List.nil_append]);all_goals rfl)
    ·
     intro gh X K zq zc zq2 zc2 zb zv hK;refine Jg (JF rfl (Fe60 _ (by omega)) pl2) rfl (Jj ?_);exact hK zq zc zq2 zc2 zb zv
    ·
     intro gh gh' h
     rfl
    apply Ei 14 rfl
    iterate 3 focus (intros;(conv=>lhs;simp only [Jh,Ju,JV,Jx,JJ,eq_self,Nat.reduceEqDiff,reduceIte,Nat.reduceSub,Nat.reduceAdd,List.cons_append,List.nil_append]);all_goals rfl)
    ·
     intro gh X K zq zc zq2 zc2 zb zv hK;refine JB fn104 rfl rfl fun w hH=>(l03Less_c Fe55 hxu (by omega) (by omega) hrk.1.val huk.val hvv hH).mono ?_;rintro _ w ⟨qo64,co64,rfl,hH⟩;refine ⟨_,rfl,fun a hF=>JT hF hH ?_⟩;refine Jj ?_;exact hK qo64 co64 zq2 zc2 zb zv
    ·
     intro gh gh' h;refine ⟨?_,?_⟩ <;> rfl
    apply Ei 15 rfl
    iterate 3 focus (intros;(conv=>lhs;simp only [Jh,Ju,JV,Jx,JJ,eq_self,Nat.reduceEqDiff,reduceIte,Nat.reduceSub,Nat.reduceAdd,List.cons_append,List.nil_append]);all_goals rfl)
    ·
     intro gh X K zq zc zq2 zc2 zb zv hK;refine J.mk (MK.lit1S u27 ze22 sz22 rfl rfl) rfl fun qo65 co65=>(Jj ?_);exact hK qo65 co65 zq2 zc2 zb zv
    ·
     intro gh gh' h;refine ⟨?_,?_⟩ <;> (first | simp only [h 13 rfl] | rfl)
    apply Ei 16 rfl
    iterate 3 focus (intros;(conv=>lhs;simp only [Jh,Ju,JV,Jx,JJ,eq_self,Nat.reduceEqDiff,reduceIte,Nat.reduceSub,Nat.reduceAdd,List.cons_append,List.nil_append]);all_goals rfl)
    ·
     intro gh X K zq zc zq2 zc2 zb zv hK;refine J.append1 u27 ze22 sz22 by22 rfl rfl rfl rfl (by omega) (.s .z) At.z (fun _ _=>At.z) rfl fun qo66 co66=>(Jw .z (Jw (.s .z) (Jj ?_)));exact hK qo66 co66 zq2 zc2 zb zv
    ·
     intro gh gh' h;refine ⟨?_,?_⟩ <;> (first | simp only [h 13 rfl,h 14 rfl] | rfl)
    apply Jr 17 rfl
    iterate 3 focus (intros;(conv=>lhs;simp only [Jh,Ju,JV,Jx,JJ,eq_self,Nat.reduceEqDiff,reduceIte,Nat.reduceSub,Nat.reduceAdd,List.cons_append,List.nil_append]);all_goals rfl)
    ·
     intro gh X K zq zc zq2 zc2 zb zv hK;refine Jg (Jd rfl) rfl (Jj ?_);exact hK zq zc zq2 zc2 zb zv
    ·
     intro gh gh' h
     first | simp only [h 13 rfl,h 14 rfl,h 15 rfl] | rfl
    apply Et [0,1,2,3,4,5,6,7,8,9,10,11,12,13,14,15,16] [0,1,2,3,4,5,6,7,8,9,10,11,12,13,14,15,16] foll0 rfl rfl rfl (by rfl)
    iterate 2 focus (intros;(conv=>lhs;simp only [Jh,Ju,JV,Jx,JJ,eq_self,Nat.reduceEqDiff,reduceIte,Nat.reduceSub,Nat.reduceAdd,List.cons_append,List.nil_append]);all_goals rfl)
    intro gh;generalize (gh 13).c=co64;generalize (gh 13).q=qo64;generalize (gh 14).c=co65;generalize (gh 14).q=qo65;generalize (gh 15).c=co66;generalize (gh 15).q=qo66;clear gh;refine EJ.fixA .z fun Ho64 hleo64 hAo64=>?_;replace hrs:=hrs.le hleo64;replace hrow:=hrow.le hleo64;replace hI11:=hI11.le hleo64;replace hxo28:=hxo28.le hleo64;replace hxu:=hxu.le hleo64;replace hS:=hS.le hleo64;replace hT:=hT.le hleo64;replace Fe55:=Fe55.le hleo64;replace Fe60:=Fe60.le hleo64;have hxo64:=own_ints hAo64;have hco64:=own_le hAo64
    have hxv:Ints Ho64 qo64 (oneBy (rw_ rs i) (unitS (byS row rs))):=by
     unfold oneBy;rw [hul];exact hxo64
    have hT3:=hT.snoc hxv (by unfold oneBy;rw [lessS_len,lessS_len]) hco64;refine JD (Ja (hK13 (Jb (Jg (Jc rfl) rfl (Jg (JC rfl rfl (by first | exact nw _ (by omega) | rfl)) rfl (Jg (Jd rfl) rfl (Jf (Ja (JO .z ?_)))))))));exact hAg0 (Ho64,qo66,co66,_,i+1) ⟨(hlk.trans hleo64),by rw [goK_succ hik];exact hT3,by omega⟩ (by show rs.length - (i+1)<rs.length - i;omega) 29 rfl rfl ⟨rfl,⟨(by rw [goK_succ hik];unfold stP;rw [List.length_append];rfl),⟨(by rw [goK_succ hik];rfl),trivial⟩⟩⟩ rfl (by dsimp only;rw [goK_succ hik];unfold stP;rw [List.length_append];rfl)
  ·
   refine JG (Jk (Jk (JN (Ja (hK9 (Je fun _ hK16 _=>(Je fun _ hK17 _=>(Jb (Jg (Jc rfl) rfl (Jg (El rfl) rfl (Jf (Ja (hK17 (Eh rfl (fun h68=>?_) (fun h68=>?_)))))))))))))))
   ·
    have hgl:=goK_len (unitS (byS row rs)) rs i;refine Jb (Jg (Jc rfl) rfl (Jg (Jc rfl) rfl (J.mk (MK.lit1S u27 ze22 sz22 rfl rfl) rfl fun qo71 co71=>(J.append1 u27 ze22 sz22 by22 rfl rfl rfl rfl (by omega) .z At.z (fun _ _=>At.z) rfl fun qo72 co72=>?_))));have hS3:=hS.snoc hxu rfl hcu;refine Jg (Jd rfl) rfl (Jf (Ja (hK16 (Je fun _ hK18 _=>(Jb (Jg (Jc rfl) rfl (J.fixA (.s .z) fun Ho29 hleo29 hAo29=>?_)))))));replace hrs:=hrs.le hleo29;replace hrow:=hrow.le hleo29;replace hI11:=hI11.le hleo29;replace hxo28:=hxo28.le hleo29;replace hxu:=hxu.le hleo29;replace hS:=hS.le hleo29;replace hS3:=hS3.le hleo29;have hxo29:=hS3.rows (Le.refl _) hAo29;have hco29:=own_le hAo29;refine Jg (Jd rfl) rfl (Jf (Ja (hK18 (Jq (Jp rfl (Res.tmp rfl) fun w hH=>?_)))));replace hH:=hH.tail;rw [put_yes hlt,← goK_no (i:=i) (by omega) (not_f h68)];exact ⟨_,_,_,(((hlf11.trans hleo28).trans hlk).trans hleo29),hxo29,by rw [List.length_append];exact hco29,by rw [List.length_append];rfl,hH⟩
   ·
    refine Jl (Ja (hK16 (Je fun _ hK19 _=>(Jb (Jg (Jc rfl) rfl (J.fixA .z fun Ho29 hleo29 hAo29=>?_))))));replace hrs:=hrs.le hleo29;replace hrow:=hrow.le hleo29;replace hI11:=hI11.le hleo29;replace hxo28:=hxo28.le hleo29;replace hxu:=hxu.le hleo29;replace hS:=hS.le hleo29;have hxo29:=hS.rows (Le.refl _) hAo29;have hco29:=own_le hAo29;refine Jg (Jd rfl) rfl (Jf (Ja (hK19 (Jq (Jp rfl (Res.tmp rfl) fun w hH=>?_)))));rw [put_yes hlt,← goK_yes (i:=i) (by omega) (not_t h68)];exact ⟨_,_,_,(((hlf11.trans hleo28).trans hlk).trans hleo29),hxo29,hco29,rfl,hH⟩
theorem fn80:Fn Try.prog 80:=⟨_,Try.func80,by kernel_rfl,rfl⟩
theorem redS_take {rs:List (List Int)} {k:Nat} (hk:k<rs.length):redS (rs.take (k+1))=putS (redS (rs.take k)) (rw_ rs k):=by
 unfold redS;rw [rw_take hk,List.foldl_append]
 rfl
theorem take_ok {W:Nat} {rs:List (List Int)} (h : ∀r∈rs,RowOk W r) (k:Nat) : ∀r∈rs.take k,RowOk W r:=fun r hr=>h r (List.mem_of_mem_take hr)
theorem l03Reduce_c {B:World} {H0 H:HP} {L:List SA} {w:World} {qrs:Option Addr} {crs:Nat} {rs:List (List Int)} {W:Nat} (hrs:RowsR H qrs rs) (hW : ∀r∈rs,RowOk W r) (hn:rs.length≤1000000) (hWn:W≤100000) (hH:Hp B H0 H L w):Calls Try.prog 55 [.slice qrs rs.length crs].toArray w fun e w'=>∃H' q c,Le H H' ∧RowsR H' q (redS rs)∧(redS rs).length≤c∧e = .returned (.slice q (redS rs).length c)∧Hp B H0 H' L w':=by
 refine Jv Try.func55 rfl 19 rfl rfl [(0,.slice qrs rs.length crs)] rfl hH ?_;have hw0:=hH.old;have hw1:=hH.le;clear hH;refine Je fun _ hK1 _=>(Jb (Jg (Jd rfl) rfl (Jf (Ja (hK1 (Je fun _ hK2 _=>(Jb (J.mk (MK.lit0 u27 sz22) rfl fun qo5 co5=>(Jg (Jd rfl) rfl ?_)))))))));have hnil:=SlF.nil H;refine J.fixA .z fun Ho5 hleo5 hAo5=>?_;replace hrs:=hrs.le hleo5;replace hnil:=hnil.le hleo5;have hxo5:=hnil.rows (Le.refl _) hAo5;have hco5:=own_le hAo5;refine Jf (Ja (hK2 (Je fun _ hK3 _=>(Je fun _ hK4 _=>(Jb (Jg (Jd rfl) rfl (Jf (Ja (hK4 (Jm (JE (σ:=HP × Option Addr × Nat × Nat) (fun ⟨Hk,q,c,k⟩=>[(4,.int .i64 (k:Int)),(3,.slice q (redS (rs.take k)).length c)]) (fun ⟨Hk,q,c,k⟩=>Hk) (fun ⟨Hk,q,c,k⟩=>L) (fun ⟨Hk,q,c,k⟩=>Le Ho5 Hk∧RowsR Hk q (redS (rs.take k))∧(redS (rs.take k)).length≤c∧k≤rs.length) (fun ⟨Hk,q,c,k⟩=>rs.length - k) (Ho5,qo5,co5,0) ⟨Le.refl _,hxo5,hco5,by omega⟩ ⟨rfl,⟨rfl,trivial⟩⟩ rfl rfl ?_)))))))))));rintro ⟨Hk,q,c,k⟩ ⟨hlk,hS,hSc,hk⟩ _ hAg0;replace hrs:=hrs.le hlk;replace hnil:=hnil.le hlk;replace hxo5:=hxo5.le hlk;have hRk:=(redS_ok (take_ok hW k)).1;refine Je fun _ hK5 _=>(Je fun _ hK6 _=>(Jb (Jg (Jc rfl) rfl (Jg (Jc rfl) rfl (Jg (Jo u27 rfl rfl) rfl (Jg (JP rfl rfl) rfl (Jf (Ja (hK6 (Jn rfl (fun h9=>?_) (fun h9=>?_)))))))))))
 ·
  have hk1:k<rs.length:=by omega
  have hrk:=hW _ (rw_mem hk1);refine Jl (Ja (hK5 (Je fun _ hK7 _=>(Jm (Jb (Jg (Jc rfl) rfl (Jg (Jc rfl) rfl (Jg (Jc rfl) rfl (Jg (JU u27 sz22 rfl rfl rfl hk1 hrs.sm) rfl ?_)))))))));obtain ⟨qe16,ce16,he16,le16,Fe16⟩:=hrs k hk1;refine Jg (JF rfl he16 pl22) rfl (JB fn80 rfl rfl fun w hH=>(l03Put_c hS Fe16 hRk hrk (by omega) le16 hSc hH).mono ?_);rintro _ w ⟨Hf17,qf17,cf17,hlf17,hI17,hcc17,rfl,hH⟩;refine ⟨_,rfl,fun a hF=>JT hF hH ?_⟩;replace hrs:=hrs.le hlf17;replace hnil:=hnil.le hlf17;replace hxo5:=hxo5.le hlf17;replace hS:=hS.le hlf17;replace Fe16:=Fe16.le hlf17;refine Jg (Jd rfl) rfl (Jf (JD (Ja (hK7 (Jb (Jg (Jc rfl) rfl (Jg (JC rfl rfl (by first | exact nw _ (by omega) | rfl)) rfl (Jg (Jd rfl) rfl (Jf (Ja ?_))))))))));exact hAg0 (Hf17,qf17,cf17,k+1) ⟨(hlk.trans hlf17),by rw [redS_take hk1];exact hI17,by rw [redS_take hk1];exact hcc17,by omega⟩ (by show rs.length - (k+1)<rs.length - k;omega) 16 rfl rfl ⟨rfl,⟨(by rw [redS_take hk1];rfl),trivial⟩⟩ rfl rfl
 ·
  refine JG (Jk (Jk (JN (Ja (hK3 (Je fun _ hK8 _=>(Jb (Jg (Jc rfl) rfl (Jg (Jd rfl) rfl (Jf (Ja (hK8 (Jq (Jp rfl (Res.tmp rfl) fun w hH=>?_))))))))))))))
  obtain rfl:k=rs.length:=by omega
  rw [List.take_length] at hS hSc ⊢;exact ⟨_,_,_,(hleo5.trans hlk),hS,hSc,rfl,hH⟩
theorem eg78:Try.prog.eqGuardType Try.prog.depth 78=false:=by kernel_rfl
def vec:List Term→List Pw→List Int
 | _, []=>[]
 | [],_::ps=>0::vec [] ps
 | t::ts,p::ps=>if t.mono=p then t.fac::vec ts ps else 0::vec (t::ts) ps
theorem vec_nil : ∀ps:List Pw,vec [] ps=List.replicate ps.length 0
 | []=>rfl
 | p::ps=>by rw [vec,vec_nil ps];rfl
theorem vec_end (f:List Term):vec f []=[]:=by cases f <;> rfl
theorem tm_drop {f:List Term} {j:Nat} (hj:j<f.length):f.drop j=tm f j::f.drop (j+1):=by
 rw [List.drop_eq_getElem_cons hj]
 simp [tm,List.getD_eq_getElem?_getD,List.getElem?_eq_getElem hj]
theorem rw_drop1 {ps:List Pw} {k:Nat} (hk:k<ps.length):ps.drop k=rw_ ps k::ps.drop (k+1):=by
 rw [List.drop_eq_getElem_cons hk]
 simp [rw_,List.getD_eq_getElem?_getD,List.getElem?_eq_getElem hk]
theorem vec_yes {f:List Term} {ps:List Pw} {j k:Nat} (hj:j<f.length) (hk:k<ps.length) (h:(tm f j).mono=rw_ ps k):vec (f.drop j) (ps.drop k)=(tm f j).fac::vec (f.drop (j+1)) (ps.drop (k+1)):=by
 rw [tm_drop hj,rw_drop1 hk,vec,if_pos h]
theorem vec_no {f:List Term} {ps:List Pw} {j k:Nat} (hj:j<f.length) (hk:k<ps.length) (h : ¬(tm f j).mono=rw_ ps k):vec (f.drop j) (ps.drop k)=0::vec (f.drop j) (ps.drop (k+1)):=by
 rw [tm_drop hj,rw_drop1 hk,vec,if_neg h]
theorem vec_out1 {f:List Term} {ps:List Pw} {A:List Int} {j k:Nat} (h:A++vec (f.drop j) (ps.drop k)=vec f ps) (hk : ¬k<ps.length):A++List.replicate (ps.length - k) 0=vec f ps:=by
 rw [← h,List.drop_of_length_le (show ps.length≤k by omega),vec_end,show ps.length - k=0 by omega]
 rfl
theorem vec_out2 {f:List Term} {ps:List Pw} {A:List Int} {j k:Nat} (h:A++vec (f.drop j) (ps.drop k)=vec f ps) (hj : ¬j<f.length):A++List.replicate (ps.length - k) 0=vec f ps:=by
 rw [← h,List.drop_of_length_le (show f.length≤j by omega),vec_nil,List.length_drop]
theorem rep_set {A:List Int} {n k:Nat} {v:Int} (hA:A.length=k) (hk:k<n):(A++List.replicate (n - k) 0).set k v=(A++[v])++List.replicate (n - (k+1)) 0:=by
 subst hA;rw [List.set_append,if_neg (by omega),Nat.sub_self,show n - A.length=(n - (A.length+1))+1 by omega,List.replicate_succ]
 simp
theorem rep_one {A:List Int} {n k:Nat} (hk:k<n):A++List.replicate (n - k) 0=(A++[0])++List.replicate (n - (k+1)) 0:=by
 rw [show n - k=(n - (k+1))+1 by omega,List.replicate_succ]
 simp
theorem vec_len : ∀(f:List Term) (ps:List Pw),(vec f ps).length=ps.length
 | f, []=>by rw [vec_end];rfl
 | [],p::ps=>by rw [vec_nil];simp
 | t::ts,p::ps=>by
  rw [vec]
  split
  ·simp [vec_len ts ps]
  ·simp [vec_len (t::ts) ps]
theorem vec_cf : ∀{ps:List Pw} {f:List Term},(toS f).Pairwise (fun x y=>before x.1 y.1=true)→ps.Pairwise (fun p q=>before p q=true)→(∀x∈toS f,x.1∈ps)→vec f ps=ps.map (cf (toS f))
 | [],f,_,_,_=>by rw [vec_end];rfl
 | p::ps, [],_,_,_=>by
  rw [vec_nil]
  simp only [toS,List.map_nil,List.map_cons,List.length_cons,List.replicate_succ,cf]
  congr 1
  exact map_zero ps
 | p::ps,t::ts,hf,hp,hm=>by
  have hf':=List.pairwise_cons.1 (show ((t.mono,t.fac)::toS ts).Pairwise _ from hf)
  have hp':=List.pairwise_cons.1 hp
  rw [vec]
  by_cases e:t.mono=p
  ·rw [if_pos e,List.map_cons]
   have hts : ∀x∈toS ts,x.1∈ps:=fun x hx=>by
    rcases List.mem_cons.1 (hm x (by show x∈(t.mono,t.fac)::toS ts;exact List.mem_cons_of_mem _ hx)) with h | h
    ·have:=before_ne (hf'.1 x hx)
     exact absurd (e.trans h.symm) this
    ·exact h
   rw [vec_cf hf'.2 hp'.2 hts]
   congr 1
   ·show t.fac=cf ((t.mono,t.fac)::toS ts) p
    simp only [cf]
    rw [if_pos e]
   ·refine List.map_congr_left fun q hq=>?_
    show cf (toS ts) q=cf ((t.mono,t.fac)::toS ts) q
    simp only [cf]
    rw [if_neg (fun h=>before_ne (hp'.1 q hq) (e.symm.trans h))]
  ·rw [if_neg e,List.map_cons]
   have ht:t.mono∈ps:=by
    rcases List.mem_cons.1 (hm (t.mono,t.fac) (by show _∈(t.mono,t.fac)::toS ts;simp)) with h | h
    ·exact absurd h e
    ·exact h
   have hne : ∀x∈toS (t::ts),x.1≠p:=fun x hx hh=>by
    rcases List.mem_cons.1 (show x∈(t.mono,t.fac)::toS ts from hx) with rfl | hx
    ·exact e hh
    ·have h1:=hf'.1 x hx
     rw [hh] at h1
     have h2:=before_as (hp'.1 _ ht)
     rw [h1] at h2
     cases h2
   rw [cf_none hne,vec_cf hf hp'.2 fun x hx=>(List.mem_cons.1 (hm x hx)).resolve_left (hne x hx)]
theorem l03Vector_c {B:World} {H0 H:HP} {L:List SA} {w:World} {qf:Option Addr} {cf:Nat} {f:List Term} {qps:Option Addr} {cps:Nat} {ps:List (List Int)} (hf:Terms H qf f) (hps:Monos H qps ps) (hn:ps.length≤1000000) (hfl:f.length≤1000000) (hpm : ∀p∈ps,Mono p) (hH:Hp B H0 H L w):Calls Try.prog 37 [.agg [.slice qf f.length cf].toArray,.slice qps ps.length cps].toArray w fun e w'=>∃q c,e = .returned (.slice q (vec f ps).length c)∧Hp B H0 H (own 2 1 q (vec f ps).length c (intsC (vec f ps))::L) w':=by
 refine Jv Try.func37 rfl 47 rfl rfl [(0,.agg [.slice qf f.length cf].toArray),(1,.slice qps ps.length cps)] rfl hH ?_;clear hH;refine Je fun _ hK1 _=>(Jb (Ee rfl rfl rfl fun g2=>(Jg (Jd rfl) rfl (Jf (Ja (hK1 (Je fun _ hK2 _=>(Jb (Jg (Jc rfl) rfl (Jg (Jo u69 rfl rfl) rfl (J.mk (MK.makeI (m:=ps.length) u22 ze2 sz2 by2 rfl rfl rfl rfl (by omega)) rfl fun qo10 co10=>(Jg (PR.eqv (v':=.slice qo10 ps.length co10) (by rw [List.length_replicate]) (Jd rfl)) rfl (Jg (Jd rfl) rfl (Jf (Ja (hK2 ?_))))))))))))))));refine Je fun _ hK3 _=>(Je fun _ hK4 _=>(Jb (Jg (Jd rfl) rfl (Jf (Ja (hK4 (Jm (JE (σ:=List Int × Nat × Nat) (fun ⟨A,k,j⟩=>[(7,.int .i64 (k:Int)),(6,.int .i64 (j:Int))]) (fun ⟨A,k,j⟩=>H) (fun ⟨A,k,j⟩=>own 2 1 qo10 ps.length co10 (intsC (A++List.replicate (ps.length - k) 0))::obj g2 (.cells [.slice qf f.length cf].toArray 74 (0,0))::L) (fun ⟨A,k,j⟩=>A.length=k∧k≤ps.length∧j≤f.length∧A++vec (f.drop j) (ps.drop k)=vec f ps) (fun ⟨A,k,j⟩=>ps.length - k) ([],0,0) ⟨rfl,by omega,by omega,rfl⟩ ⟨rfl,⟨rfl,trivial⟩⟩ rfl (by rw [List.length_replicate];rfl) ?_))))))));rintro ⟨A,k,j⟩ ⟨hA,hk,hj,hV⟩ _ hAg0;refine Je fun _ hK5 _=>(Je fun _ hK6 _=>(Jb (Jg (Jc rfl) rfl (Jg (Jc rfl) rfl (Jg (Jo u69 rfl rfl) rfl (Jg (JP rfl rfl) rfl (Jg (Jc rfl) rfl (Eg (jd:=15) rfl (fun hg15=>?_) (fun hg15=>?_)))))))))
 ·
  try have hg15p:=of_decide_eq_true hg15
  refine JX (Jc rfl) rfl rfl rfl hg15 (JX (Js u74 rfl sz72 rfl) rfl rfl rfl hg15 (JX (Jt rfl (.s .z) rfl pl72) rfl rfl rfl hg15 (JX (Jo u72 rfl rfl) rfl rfl rfl hg15 (JX (JP rfl rfl) rfl rfl rfl hg15 (Jg (JZ rfl hg15 rfl) rfl (Jf (Ja (hK6 (Jn rfl (fun h21=>?_) (fun h21=>?_))))))))))
  ·
   have hk1:k<ps.length:=by omega
   have hj1:j<f.length:=by omega
   refine Jl (Ja (hK5 (Je fun _ hK7 _=>(Jm (Je fun _ hK8 _=>(En foll0 (by kernel_rfl) (Jz (Js u74 rfl sz72 rfl) rfl (Jz (Jt rfl (.s .z) rfl pl72) rfl (Jz (Jc rfl) rfl (Jz (Ek u72 sz104 rfl rfl rfl hj1 hf.sm) rfl (Jz (Ew u104 rfl sz78 rfl (hf.sm (i:=j) hj1)) rfl (Jz (JI rfl (hf.mono hj1) (hf.sm (i:=j) hj1) (by rw [bytesC_length,(hf.wf _ hj1).mono.len];exact ag78)) rfl (Jz (Jc rfl) rfl (Jz (Jc rfl) rfl (Jz (Ek u69 sz78 rfl rfl rfl hk1 hps.sm) rfl ?_)))))))))))))));refine Jz (JI rfl (hps.cell _ hk1) (hps.sm (i:=k) hk1) (by rw [bytesC_length,hps.len _ hk1];exact ag78)) rfl (Jz (PR.eqlM u78 u5 sz5 eg78 rfl rfl (hf.wf j hj1).mono.len (rw_all hpm hk1).len) rfl (Ed (Ja (hK8 (Jn rfl (fun h34=>?_) (fun h34=>?_))))))
   ·
    refine Je fun _ hK9 _=>(Jb (Jg (Jc rfl) rfl (Jg (Jc rfl) rfl (Jg (Js u74 rfl sz72 rfl) rfl (Jg (Jt rfl (.s .z) rfl pl72) rfl (Jg (Jc rfl) rfl (Jg (Ek u72 sz104 rfl rfl rfl hj1 hf.sm) rfl (Jg (Ew u104 rfl sz2 rfl (hf.sm (i:=j) hj1)) rfl (Jg (JF rfl (hf.fac hj1) pl2) rfl (Jg (Ey u22 sz2 rfl rfl rfl hk1 At.z) rfl (J.storeWI rfl rfl sz2 hk1 At.z (Jf (Ja (hK9 (Jb ?_)))))))))))))));refine Jg (Jc rfl) rfl (Jg (JC rfl rfl (by first | exact nw _ (by omega) | rfl)) rfl (Jg (Jd rfl) rfl (Jf (JD (Ja (hK7 (Jb (Jg (Jc rfl) rfl (Jg (JC rfl rfl (by first | exact nw _ (by omega) | rfl)) rfl (Jg (Jd rfl) rfl (Jf (Ja ?_))))))))))));exact hAg0 (A++[(tm f j).fac],k+1,j+1) ⟨by simp [hA],by omega,by omega,by rw [← hV,vec_yes hj1 hk1 h34];simp⟩ (by show ps.length - (k+1)<ps.length - k;omega) 39 rfl rfl ⟨rfl,⟨rfl,trivial⟩⟩ rfl (by dsimp only;rw [rep_set hA hk1])
   ·
    refine Jl (JD (Ja (hK7 (Jb (Jg (Jc rfl) rfl (Jg (JC rfl rfl (by first | exact nw _ (by omega) | rfl)) rfl (Jg (Jd rfl) rfl (Jf (Ja ?_)))))))));exact hAg0 (A++[0],k+1,j) ⟨by simp [hA],by omega,by omega,by rw [← hV,vec_no hj1 hk1 h34];simp⟩ (by show ps.length - (k+1)<ps.length - k;omega) 27 rfl rfl ⟨rfl,⟨rfl,trivial⟩⟩ rfl (by dsimp only;rw [rep_one hk1])
  ·
   refine JG (Jk (Jk (JN (Ja (hK3 (Je fun _ hK10 _=>(Jb (Jg (Jc rfl) rfl (Jg (Jd rfl) rfl (Jf (Ja (hK10 (Jq (Jp rfl (Res.tmp rfl) fun w hH=>?_))))))))))))));replace hH:=hH.sublist (.cons_cons _ (.cons _ (List.Sublist.refl _)));rw [vec_out2 hV (by omega)] at hH;exact ⟨_,_,by rw [vec_len],by rw [vec_len];exact hH⟩
 ·
  try have hg15p:=of_decide_eq_false hg15
  refine JQ rfl rfl rfl hg15 (JQ rfl rfl rfl hg15 (JQ rfl rfl rfl hg15 (JQ rfl rfl rfl hg15 (JQ rfl rfl rfl hg15 (Jg (JY rfl hg15 rfl) rfl (Jf (Ja (hK6 (Eo rfl (JG (Jk (Jk (JN (Ja (hK3 (Je fun _ hK11 _=>?_))))))))))))))));refine Jb (Jg (Jc rfl) rfl (Jg (Jd rfl) rfl (Jf (Ja (hK11 (Jq (Jp rfl (Res.tmp rfl) fun w hH=>?_)))))));replace hH:=hH.sublist (.cons_cons _ (.cons _ (List.Sublist.refl _)));rw [vec_out1 hV (by omega)] at hH;exact ⟨_,_,by rw [vec_len],by rw [vec_len];exact hH⟩
theorem fn37:Fn Try.prog 37:=⟨_,Try.func37,by kernel_rfl,rfl⟩
theorem mon_mn {ds:List Int} {n:Int} {m:Nat} (h8:ds.length≤8) : ∀p∈(monS ds n).take m,Mono p:=fun p hp=>(mon_pok h8 (List.mem_of_mem_take hp)).mn (by omega)
theorem monL_mn {ds:List Int} {n:Int} (h8:ds.length≤8) : ∀p∈monL ds n,Mono p:=mon_mn h8
theorem monT_8 {ds:List Int} {n:Int} (h8:ds.length≤8) : ∀p∈monT ds n,p.length=8:=mon_8 h8
theorem mon_srt (ds:List Int) (n:Int) (h8:ds.length≤8):(monS ds n).Pairwise fun p q=>before p q=true:=enumF_srt (by omega) rfl
theorem monL_srt (ds:List Int) (n:Int) (h8:ds.length≤8):(monL ds n).Pairwise fun p q=>before p q=true:=(mon_srt ds n h8).sublist (List.take_sublist _ _)
theorem monT_L {ds:List Int} {n:Int} (h:fitB ds n=true):monT ds n=monL ds n:=by rw [monT_eq h,monL_fit h]
theorem mon_one {p:Pw}:toS (ofS (addS [] p 1))=[(p,1)]:=by rw [toS_ofS,addS_one]
theorem dS_one {ds:List Int} {fs:List (List Term)} (hA:AlgOk ds fs) (h8:ds.length≤8) (hd : ∀j,j<ds.length→1≤ds.getD j 0∧ds.getD j 0≤12) {n:Int} {p:Pw} (hp:p∈monS ds n):Sok 60 (dS ds fs [(p,1)]):=
 dS_sok (ds:=ds) (Sok.one (k:=1) (mon_pok h8 hp) (by omega)) hA.fok (mon_occ h8 hp hd hA.hl)
theorem dS_one_len {ds:List Int} {fs:List (List Term)} (hA:AlgOk ds fs) (h8:ds.length≤8) (hd : ∀j,j<ds.length→1≤ds.getD j 0∧ds.getD j 0≤12) {n:Int} {p:Pw} (hp:p∈monS ds n):(dS ds fs [(p,1)]).length≤80000:=by
 have h1:=dAll_len (ds:=ds) hA.len (mon_occ h8 hp hd hA.hl);have h2:=acc_len (dAll ds fs [(p,1)]) [];simp only [List.length_cons,List.length_nil] at h1 h2;unfold dS
 omega
theorem dS_vec {ds:List Int} {fs:List (List Term)} {n:Int} (hA:AlgOk ds fs) (h8:ds.length≤8) (hd : ∀j,j<ds.length→1≤ds.getD j 0∧ds.getD j 0≤12) (hom:Hom1 ds fs n) {k:Nat} (hk:k<(monL ds n).length):vec (ofS (dS ds fs [(rw_ (monL ds n) k,1)])) (monL ds (n+1))=(monL ds (n+1)).map (cf (dS ds fs [(rw_ (monL ds n) k,1)])):=by
 have h:=vec_cf (ps:=monL ds (n+1)) (f:=ofS (dS ds fs [(rw_ (monL ds n) k,1)])) (by rw [toS_ofS];exact (dS_one hA h8 hd (monL_mem hk)).srt) (monL_srt ds (n+1) h8) (by rw [toS_ofS];exact hom _ (rw_mem hk))
 rwa [toS_ofS] at h
theorem l03Matrix_c {B:World} {H0 H:HP} {L:List SA} {w:World} {qad qaf:Option Addr} {cad caf:Nat} {ad:List Int} {af:List (List Term)} {n:Int} (had:Ints H qad ad) (haf:Forms H qaf af) (hd : ∀j,j<ad.length→1≤ad.getD j 0∧ad.getD j 0≤12) (h8:ad.length≤8) (hn : -1≤n∧n≤100000) (hA:AlgOk ad af) (hfit:fit2 ad n) (hom:Hom1 ad af n) (hH:Hp B H0 H L w):Calls Try.prog 19 [.agg [.slice qad ad.length cad,.slice qaf af.length caf].toArray,.int .i64 n].toArray w fun e w'=>∃H' q c,Le H H' ∧RowsR H' q (matS ad af n)∧(matS ad af n).length≤c∧e = .returned (.slice q (matS ad af n).length c)∧Hp B H0 H' L w':=by
 refine Jv Try.func19 rfl 38 rfl rfl [(0,.agg [.slice qad ad.length cad,.slice qaf af.length caf].toArray),(1,.int .i64 n)] rfl hH ?_;have hw0:=hH.old;have hw1:=hH.le;have hmT0:=monT_L hfit.1;have hmT1:=monT_L hfit.2;have hml:=monL_len ad n;have hml1:=monL_len ad (n+1);clear hH;refine Je fun _ hK1 _=>(Jb (Ee rfl rfl rfl fun g2=>(Jg (Jd rfl) rfl (Jf (Ja (hK1 (Je fun _ hK2 _=>(Es (Rs:=[_]) 13 [[], [0], [], [0,1,2], [], [4], [], [6], [0,1,2,3,4,5,6,7], [], [0,1,2,3,4,5,6,7,8], [0,1,2,3,4,5,6,7,8,10], [0,1,2,3,4,5,6,7,8,9,10,11]] [[], [13], [], [], [], [13], [], [], [], [], [], [], []] [[], [], [], [], [], [], [], [], [], [], [], [], []] rfl rfl (by kernel_rfl) ?_))))))));apply Jr 1 rfl
 iterate 3 focus (intros;(conv=>lhs;simp only [Jh,Ju,JV,Jx,JJ,eq_self,Nat.reduceEqDiff,reduceIte,Nat.reduceSub,Nat.reduceAdd,List.cons_append,List.nil_append]);all_goals rfl)
 ·
  intro gh X K zq zc zq2 zc2 zb zv hK;refine Jg (Js u32 rfl sz22 rfl) rfl (Jj ?_);exact hK zq zc zq2 zc2 zb zv
 ·
  intro gh gh' h
  rfl
 apply Jr 2 rfl
 iterate 3 focus (intros;(conv=>lhs;simp only [Jh,Ju,JV,Jx,JJ,eq_self,Nat.reduceEqDiff,reduceIte,Nat.reduceSub,Nat.reduceAdd,List.cons_append,List.nil_append]);all_goals rfl)
 ·
  intro gh X K zq zc zq2 zc2 zb zv hK;refine Jg (Jt rfl At.z rfl pl22) rfl (Jj ?_);exact hK zq zc zq2 zc2 zb zv
 ·
  intro gh gh' h
  rfl
 apply Jr 3 rfl
 iterate 3 focus (intros;(conv=>lhs;simp only [Jh,Ju,JV,Jx,JJ,eq_self,Nat.reduceEqDiff,reduceIte,Nat.reduceSub,Nat.reduceAdd,List.cons_append,List.nil_append]);all_goals rfl)
 ·
  intro gh X K zq zc zq2 zc2 zb zv hK;refine Jg (Jc rfl) rfl (Jj ?_);exact hK zq zc zq2 zc2 zb zv
 ·
  intro gh gh' h
  rfl
 apply Ei 4 rfl
 iterate 3 focus (intros;(conv=>lhs;simp only [Jh,Ju,JV,Jx,JJ,eq_self,Nat.reduceEqDiff,reduceIte,Nat.reduceSub,Nat.reduceAdd,List.cons_append,List.nil_append]);all_goals rfl)
 ·
  intro gh X K zq zc zq2 zc2 zb zv hK;refine JB fn36 rfl rfl fun w hH=>(l01Monomials_c had hd h8 (by omega) hH).mono ?_;rintro _ w ⟨qo12,co12,rfl,hH⟩;refine ⟨_,rfl,fun a hF=>JT hF hH ?_⟩;refine Jj ?_;exact hK qo12 co12 zq2 zc2 zb zv
 ·
  intro gh gh' h;refine ⟨?_,?_⟩ <;> rfl
 apply Jr 5 rfl
 iterate 3 focus (intros;(conv=>lhs;simp only [Jh,Ju,JV,Jx,JJ,eq_self,Nat.reduceEqDiff,reduceIte,Nat.reduceSub,Nat.reduceAdd,List.cons_append,List.nil_append]);all_goals rfl)
 ·
  intro gh X K zq zc zq2 zc2 zb zv hK;refine Jg (Js u32 rfl sz22 rfl) rfl (Jj ?_);exact hK zq zc zq2 zc2 zb zv
 ·
  intro gh gh' h
  rfl
 apply Jr 6 rfl
 iterate 3 focus (intros;(conv=>lhs;simp only [Jh,Ju,JV,Jx,JJ,eq_self,Nat.reduceEqDiff,reduceIte,Nat.reduceSub,Nat.reduceAdd,List.cons_append,List.nil_append]);all_goals rfl)
 ·
  intro gh X K zq zc zq2 zc2 zb zv hK;refine Jg (Jt rfl At.z rfl pl22) rfl (Jj ?_);exact hK zq zc zq2 zc2 zb zv
 ·
  intro gh gh' h
  rfl
 apply Jr 7 rfl
 iterate 3 focus (intros;(conv=>lhs;simp only [Jh,Ju,JV,Jx,JJ,eq_self,Nat.reduceEqDiff,reduceIte,Nat.reduceSub,Nat.reduceAdd,List.cons_append,List.nil_append]);all_goals rfl)
 ·
  intro gh X K zq zc zq2 zc2 zb zv hK;refine Jg (Jc rfl) rfl (Jj ?_);exact hK zq zc zq2 zc2 zb zv
 ·
  intro gh gh' h
  rfl
 apply Jr 8 rfl
 iterate 3 focus (intros;(conv=>lhs;simp only [Jh,Ju,JV,Jx,JJ,eq_self,Nat.reduceEqDiff,reduceIte,Nat.reduceSub,Nat.reduceAdd,List.cons_append,List.nil_append]);all_goals rfl)
 ·
  intro gh X K zq zc zq2 zc2 zb zv hK;refine Jg (JC rfl rfl (by first | exact nw _ (by omega) | rfl)) rfl (Jj ?_);exact hK zq zc zq2 zc2 zb zv
 ·
  intro gh gh' h
  rfl
 apply Ei 9 rfl
 iterate 3 focus (intros;(conv=>lhs;simp only [Jh,Ju,JV,Jx,JJ,eq_self,Nat.reduceEqDiff,reduceIte,Nat.reduceSub,Nat.reduceAdd,List.cons_append,List.nil_append]);all_goals rfl)
 ·
  intro gh X K zq zc zq2 zc2 zb zv hK;refine JB fn36 rfl rfl fun w hH=>(l01Monomials_c had hd h8 (by omega) hH).mono ?_;rintro _ w ⟨qo17,co17,rfl,hH⟩;refine ⟨_,rfl,fun a hF=>JT hF hH ?_⟩;refine Jj ?_;exact hK qo17 co17 zq2 zc2 zb zv
 ·
  intro gh gh' h;refine ⟨?_,?_⟩ <;> (first | simp only [h 3 rfl] | rfl)
 apply Ei 10 rfl
 iterate 3 focus (intros;(conv=>lhs;simp only [Jh,Ju,JV,Jx,JJ,eq_self,Nat.reduceEqDiff,reduceIte,Nat.reduceSub,Nat.reduceAdd,List.cons_append,List.nil_append]);all_goals rfl)
 ·
  intro gh X K zq zc zq2 zc2 zb zv hK;refine J.mk (MK.lit0 u27 sz22) rfl fun qo18 co18=>(Jj ?_);exact hK qo18 co18 zq2 zc2 zb zv
 ·
  intro gh gh' h;refine ⟨?_,?_⟩ <;> rfl
 apply Jr 11 rfl
 iterate 3 focus (intros;(conv=>lhs;simp only [Jh,Ju,JV,Jx,JJ,eq_self,Nat.reduceEqDiff,reduceIte,Nat.reduceSub,Nat.reduceAdd,List.cons_append,List.nil_append]);all_goals rfl)
 ·
  intro gh X K zq zc zq2 zc2 zb zv hK;refine Jg (Jd rfl) rfl (Jj ?_);exact hK zq zc zq2 zc2 zb zv
 ·
  intro gh gh' h
  first | simp only [h 3 rfl,h 8 rfl] | rfl
 apply Jr 12 rfl
 iterate 3 focus (intros;(conv=>lhs;simp only [Jh,Ju,JV,Jx,JJ,eq_self,Nat.reduceEqDiff,reduceIte,Nat.reduceSub,Nat.reduceAdd,List.cons_append,List.nil_append]);all_goals rfl)
 ·
  intro gh X K zq zc zq2 zc2 zb zv hK;refine Jg (Jd rfl) rfl (Jj ?_);exact hK zq zc zq2 zc2 zb zv
 ·
  intro gh gh' h
  first | simp only [h 3 rfl,h 8 rfl] | rfl
 apply Jr 13 rfl
 iterate 3 focus (intros;(conv=>lhs;simp only [Jh,Ju,JV,Jx,JJ,eq_self,Nat.reduceEqDiff,reduceIte,Nat.reduceSub,Nat.reduceAdd,List.cons_append,List.nil_append]);all_goals rfl)
 ·
  intro gh X K zq zc zq2 zc2 zb zv hK;refine Jg (Jd rfl) rfl (Jj ?_);exact hK zq zc zq2 zc2 zb zv
 ·
  intro gh gh' h
  first | simp only [h 3 rfl,h 8 rfl,h 9 rfl] | rfl
 apply Et [0,1,2,3,4,5,6,7,8,9,10,11,12] [0,1,2,3,4,5,6,7,8,9,10,11,12,13] foll0 rfl rfl rfl (by rfl)
 iterate 2 focus (intros;(conv=>lhs;simp only [Jh,Ju,JV,Jx,JJ,eq_self,Nat.reduceEqDiff,reduceIte,Nat.reduceSub,Nat.reduceAdd,List.cons_append,List.nil_append]);all_goals rfl)
 intro gh;generalize (gh 3).c=co12;generalize (gh 3).q=qo12;generalize (gh 8).c=co17;generalize (gh 8).q=qo17;generalize (gh 9).c=co18;generalize (gh 9).q=qo18;clear gh;refine EJ.fixA .z fun Ho12 hleo12 hAo12=>?_;replace had:=had.le hleo12;replace haf:=haf.le hleo12;have hxo12:=own_monos (monT_8 h8) hAo12;have hco12:=own_le hAo12;refine EJ.fixA .z fun Ho17 hleo17 hAo17=>?_;replace had:=had.le hleo17;replace haf:=haf.le hleo17;replace hxo12:=hxo12.le hleo17;have hxo17:=own_monos (monT_8 h8) hAo17;have hco17:=own_le hAo17;rw [hmT0] at hxo12;rw [hmT1] at hxo17;rw [hmT0,hmT1];have hmm:=monL_mn (n:=n) h8;have hmm1:=monL_mn (n:=n+1) h8;refine Ja (hK2 (Je fun _ hK3 _=>(Je fun _ hK4 _=>(Jb (Jg (Jd rfl) rfl (Jf (Ja (hK4 (Jm (JE (σ:=HP × Option Addr × Nat × List Value × Nat) (fun ⟨Hk,q,c,vals,k⟩=>[(8,.int .i64 (k:Int)),(7,.slice q k c)]) (fun ⟨Hk,q,c,vals,k⟩=>Hk) (fun ⟨Hk,q,c,vals,k⟩=>own 22 1 q k c vals::obj g2 (.cells [.slice qad ad.length cad,.slice qaf af.length caf].toArray 32 (0,0))::L) (fun ⟨Hk,q,c,vals,k⟩=>Le Ho17 Hk∧SlF Hk vals (matK ad af n k)∧k≤(monL ad n).length) (fun ⟨Hk,q,c,vals,k⟩=>(monL ad n).length - k) (Ho17,qo18,co18, [],0) ⟨Le.refl _,SlF.nil _,by omega⟩ ⟨rfl,⟨rfl,trivial⟩⟩ rfl rfl ?_))))))))));rintro ⟨Hk,q,c,vals,k⟩ ⟨hlk,hS,hk⟩ _ hAg0;replace had:=had.le hlk;replace haf:=haf.le hlk;replace hxo12:=hxo12.le hlk;replace hxo17:=hxo17.le hlk;refine Je fun _ hK5 _=>(Je fun _ hK6 _=>(Jb (Jg (Jc rfl) rfl (Jg (Jc rfl) rfl (Jg (Jo u69 rfl rfl) rfl (Jg (JP rfl rfl) rfl (Jf (Ja (hK6 (Jn rfl (fun h22=>?_) (fun h22=>?_)))))))))))
 ·
  have hk1:k<(monL ad n).length:=by omega
  have hpm:=monL_mem hk1;have hpk:=mon_pok h8 hpm;have hdl:=dS_one_len hA h8 hd hpm;have hds:=dS_one hA h8 hd hpm;refine Jl (Ja (hK5 (Je fun _ hK7 _=>(Jm (Es (Rs:=[_,_]) 13 [[], [], [], [], [2,3], [2,3,4], [2,3,4,5], [1,2,3,4,5,6], [], [1,2,3,4,5,6,7,8], [1,2,3,4,5,6,7,8,9], [0,1,2,3,4,5,6,7,8,9,10], [0,1,2,3,4,5,6,7,8,9,10,11]] [[], [14], [], [], [], [], [], [6], [], [7], [], [10], []] [[], [], [], [], [], [], [], [], [], [], [], [13], []] rfl rfl (by kernel_rfl) ?_)))));apply Jr 1 rfl
  iterate 3 focus (intros;(conv=>lhs;simp only [Jh,Ju,JV,Jx,JJ,eq_self,Nat.reduceEqDiff,reduceIte,Nat.reduceSub,Nat.reduceAdd,List.cons_append,List.nil_append]);all_goals rfl)
  ·
   intro gh X K zq zc zq2 zc2 zb zv hK;refine Jg (Jc rfl) rfl (Jj ?_);exact hK zq zc zq2 zc2 zb zv
  ·
   intro gh gh' h
   rfl
  apply Jr 2 rfl
  iterate 3 focus (intros;(conv=>lhs;simp only [Jh,Ju,JV,Jx,JJ,eq_self,Nat.reduceEqDiff,reduceIte,Nat.reduceSub,Nat.reduceAdd,List.cons_append,List.nil_append]);all_goals rfl)
  ·
   intro gh X K zq zc zq2 zc2 zb zv hK;refine Jg (JA rfl At.z (by simpa [*] using ag32)) rfl (Jj ?_);exact hK zq zc zq2 zc2 zb zv
  ·
   intro gh gh' h
   rfl
  apply Jr 3 rfl
  iterate 3 focus (intros;(conv=>lhs;simp only [Jh,Ju,JV,Jx,JJ,eq_self,Nat.reduceEqDiff,reduceIte,Nat.reduceSub,Nat.reduceAdd,List.cons_append,List.nil_append]);all_goals rfl)
  ·
   intro gh X K zq zc zq2 zc2 zb zv hK;refine Jg (Jc rfl) rfl (Jj ?_);exact hK zq zc zq2 zc2 zb zv
  ·
   intro gh gh' h
   rfl
  apply Jr 4 rfl
  iterate 3 focus (intros;(conv=>lhs;simp only [Jh,Ju,JV,Jx,JJ,eq_self,Nat.reduceEqDiff,reduceIte,Nat.reduceSub,Nat.reduceAdd,List.cons_append,List.nil_append]);all_goals rfl)
  ·
   intro gh X K zq zc zq2 zc2 zb zv hK;refine Jg (Jc rfl) rfl (Jj ?_);exact hK zq zc zq2 zc2 zb zv
  ·
   intro gh gh' h
   rfl
  apply Jr 5 rfl
  iterate 3 focus (intros;(conv=>lhs;simp only [Jh,Ju,JV,Jx,JJ,eq_self,Nat.reduceEqDiff,reduceIte,Nat.reduceSub,Nat.reduceAdd,List.cons_append,List.nil_append]);all_goals rfl)
  ·
   intro gh X K zq zc zq2 zc2 zb zv hK;refine Jg (Ek u69 sz78 rfl rfl rfl hk1 hxo12.sm) rfl (Jj ?_);exact hK zq zc zq2 zc2 zb zv
  ·
   intro gh gh' h
   rfl
  apply Jr 6 rfl
  iterate 3 focus (intros;(conv=>lhs;simp only [Jh,Ju,JV,Jx,JJ,eq_self,Nat.reduceEqDiff,reduceIte,Nat.reduceSub,Nat.reduceAdd,List.cons_append,List.nil_append]);all_goals rfl)
  ·
   intro gh X K zq zc zq2 zc2 zb zv hK;refine Jg (JI rfl (hxo12.cell _ hk1) (hxo12.sm (i:=k) hk1) (by rw [bytesC_length,hxo12.len _ hk1];exact ag78)) rfl (Jj ?_);exact hK zq zc zq2 zc2 zb zv
  ·
   intro gh gh' h
   rfl
  apply Ei 7 rfl
  iterate 3 focus (intros;(conv=>lhs;simp only [Jh,Ju,JV,Jx,JJ,eq_self,Nat.reduceEqDiff,reduceIte,Nat.reduceSub,Nat.reduceAdd,List.cons_append,List.nil_append]);all_goals rfl)
  ·
   intro gh X K zq zc zq2 zc2 zb zv hK;refine JB fn39 rfl rfl fun w hH=>(l01Single_c (rw_all hmm hk1) (by omega) hH).mono ?_;rintro _ w ⟨qo31,co31,rfl,hH⟩;refine ⟨_,rfl,fun a hF=>JT hF hH ?_⟩;refine Jj ?_;exact hK qo31 co31 zq2 zc2 zb zv
  ·
   intro gh gh' h;refine ⟨?_,?_⟩ <;> rfl
  apply Ei 8 rfl
  iterate 3 focus (intros;(conv=>lhs;simp only [Jh,Ju,JV,Jx,JJ,eq_self,Nat.reduceEqDiff,reduceIte,Nat.reduceSub,Nat.reduceAdd,List.cons_append,List.nil_append]);all_goals rfl)
  ·
   intro gh X K zq zc zq2 zc2 zb zv hK;refine JB fn38 rfl rfl fun w hH=>hH.lend .z fun Hl1 hle1 hA1 hB1 hH=>(l02D_c (Mi:=20) (Ms:=20) (had.le hle1) (haf.le hle1) (own_terms (one_wf (rw_all hmm hk1)) hA1) hA.hn hA.hd hA.fok hA.hl hA.kex (by rw [mon_one];exact Sok.one hpk (by omega)) (one_kex (mon_ex h8 hpm hd)) (by omega) hA.len (by rw [one_len];omega) hH).mono ?_;rintro _ w ⟨qo32,co32,rfl,hH⟩;replace hH:=hB1 _ _ hH;refine ⟨_,rfl,fun a hF=>JT hF hH ?_⟩;refine Jw .z (Jw (.s .z) (Jj ?_));exact hK qo32 co32 zq2 zc2 zb zv
  ·
   intro gh gh' h;refine ⟨?_,?_⟩ <;> (first | simp only [h 6 rfl] | rfl)
  apply Jr 9 rfl
  iterate 3 focus (intros;(conv=>lhs;simp only [Jh,Ju,JV,Jx,JJ,eq_self,Nat.reduceEqDiff,reduceIte,Nat.reduceSub,Nat.reduceAdd,List.cons_append,List.nil_append]);all_goals rfl)
  ·
   intro gh X K zq zc zq2 zc2 zb zv hK;refine Jg (Jc rfl) rfl (Jj ?_);exact hK zq zc zq2 zc2 zb zv
  ·
   intro gh gh' h
   rfl
  apply Ei 10 rfl
  iterate 3 focus (intros;(conv=>lhs;simp only [Jh,Ju,JV,Jx,JJ,eq_self,Nat.reduceEqDiff,reduceIte,Nat.reduceSub,Nat.reduceAdd,List.cons_append,List.nil_append]);all_goals rfl)
  ·
   intro gh X K zq zc zq2 zc2 zb zv hK;refine JB fn37 rfl rfl fun w hH=>hH.lend .z fun Hl1 hle1 hA1 hB1 hH=>(l03Vector_c (own_terms (by rw [mon_one];exact hds.wf (by omega)) hA1) (hxo17.le hle1) (by omega) (by rw [mon_one,ofS_len];omega) hmm1 hH).mono ?_;rintro _ w ⟨qo34,co34,rfl,hH⟩;replace hH:=hB1 _ _ hH;refine ⟨_,rfl,fun a hF=>JT hF hH ?_⟩;refine Jw .z (Jw (.s .z) (Jj ?_));exact hK qo34 co34 zq2 zc2 zb zv
  ·
   intro gh gh' h;refine ⟨?_,?_⟩ <;> (first | simp only [h 6 rfl,h 7 rfl] | rfl)
  apply Ei 11 rfl
  iterate 3 focus (intros;(conv=>lhs;simp only [Jh,Ju,JV,Jx,JJ,eq_self,Nat.reduceEqDiff,reduceIte,Nat.reduceSub,Nat.reduceAdd,List.cons_append,List.nil_append]);all_goals rfl)
  ·
   intro gh X K zq zc zq2 zc2 zb zv hK;refine J.mk (MK.lit1S u27 ze22 sz22 rfl rfl) rfl fun qo35 co35=>(Jj ?_);exact hK qo35 co35 zq2 zc2 zb zv
  ·
   intro gh gh' h;refine ⟨?_,?_⟩ <;> (first | simp only [h 6 rfl,h 7 rfl,h 9 rfl] | rfl)
  apply Ei 12 rfl
  iterate 3 focus (intros;(conv=>lhs;simp only [Jh,Ju,JV,Jx,JJ,eq_self,Nat.reduceEqDiff,reduceIte,Nat.reduceSub,Nat.reduceAdd,List.cons_append,List.nil_append]);all_goals rfl)
  ·
   intro gh X K zq zc zq2 zc2 zb zv hK;refine J.append1 u27 ze22 sz22 by22 rfl rfl rfl rfl (by omega) (.s .z) At.z (fun _ _=>At.z) rfl fun qo36 co36=>(Jw .z (Jw (.s .z) (Jj ?_)));exact hK qo36 co36 zq2 zc2 zb zv
  ·
   intro gh gh' h;refine ⟨?_,?_⟩ <;> (first | simp only [h 6 rfl,h 7 rfl,h 9 rfl,h 10 rfl] | rfl)
  apply Jr 13 rfl
  iterate 3 focus (intros;(conv=>lhs;simp only [Jh,Ju,JV,Jx,JJ,eq_self,Nat.reduceEqDiff,reduceIte,Nat.reduceSub,Nat.reduceAdd,List.cons_append,List.nil_append]);all_goals rfl)
  ·
   intro gh X K zq zc zq2 zc2 zb zv hK;refine Jg (Jd rfl) rfl (Jj ?_);exact hK zq zc zq2 zc2 zb zv
  ·
   intro gh gh' h
   first | simp only [h 6 rfl,h 7 rfl,h 9 rfl,h 10 rfl,h 11 rfl] | rfl
  apply Et [0,1,2,3,4,5,6,7,8,9,10,11,12] [0,1,2,3,4,5,6,7,8,9,10,11,12,14] foll0 rfl rfl rfl (by rfl)
  iterate 2 focus (intros;(conv=>lhs;simp only [Jh,Ju,JV,Jx,JJ,eq_self,Nat.reduceEqDiff,reduceIte,Nat.reduceSub,Nat.reduceAdd,List.cons_append,List.nil_append]);all_goals rfl)
  intro gh;generalize (gh 6).c=co31;generalize (gh 6).q=qo31;generalize (gh 7).c=co32;generalize (gh 7).q=qo32;generalize (gh 9).c=co34;generalize (gh 9).q=qo34;generalize (gh 10).c=co35;generalize (gh 10).q=qo35;generalize (gh 11).c=co36;generalize (gh 11).q=qo36;clear gh;refine EJ.fixA (.s (.s .z)) fun Ho34 hleo34 hAo34=>?_;replace had:=had.le hleo34;replace haf:=haf.le hleo34;replace hxo12:=hxo12.le hleo34;replace hxo17:=hxo17.le hleo34;replace hS:=hS.le hleo34;have hxo34:=own_ints hAo34;have hco34:=own_le hAo34;have hve:=dS_vec hA h8 hd hom hk1;rw [← mon_one] at hve;have hS2:=hS.snoc (hve ▸ hxo34) (by rw [hve]) hco34;rw [mon_one] at hS2;refine JD (Ja (hK7 (Jb (Jg (Jc rfl) rfl (Jg (JC rfl rfl (by first | exact nw _ (by omega) | rfl)) rfl (Jg (Jd rfl) rfl (Jf (Ja (JO .z (JO .z (JO .z ?_)))))))))));exact hAg0 (Ho34,qo36,co36,_,k+1) ⟨(hlk.trans hleo34),by rw [matK_succ hk1];exact hS2,by omega⟩ (by show (monL ad n).length - (k+1)<(monL ad n).length - k;omega) 22 rfl rfl ⟨rfl,⟨rfl,trivial⟩⟩ rfl rfl
 ·
  refine JG (Jk (Jk (JN (Ja (hK3 (Je fun _ hK8 _=>(Jb (Jg (Jc rfl) rfl (J.fixA .z fun Ho18 hleo18 hAo18=>?_)))))))));replace had:=had.le hleo18;replace haf:=haf.le hleo18;replace hxo12:=hxo12.le hleo18;replace hxo17:=hxo17.le hleo18;replace hS:=hS.le hleo18;have hxo18:=hS.rows (Le.refl _) hAo18;have hco18:=own_le hAo18;refine Jg (Jd rfl) rfl (Jf (Ja (hK8 (Jq (Jp rfl (Res.tmp rfl) fun w hH=>?_)))));replace hH:=hH.tail
  have hke:k=(monL ad n).length:=by omega
  rw [matK_end hke] at hxo18;exact ⟨_,q,c,(((hleo12.trans hleo17).trans hlk).trans hleo18),hxo18,by rw [matS_len,← hke];exact hco18,by rw [matS_len,hke],hH⟩
theorem wsum_nn0 {ws p:Pw} (hw : ∀j,0≤ws.getD j 0) (hp : ∀j,0≤p.getD j 0) : ∀k:Nat,0≤wsum ws p k
 | 0=>by simp [wsum]
 | k+1=>by have:=wsum_nn0 hw hp k;have:=Int.mul_nonneg (hw k) (hp k);simp only [wsum];omega
theorem degOk_wt {ds:List Int} {ts:List Term} {x:Int} (hn:ds.length≤8) (hd : ∀j,0≤ds.getD j 0∧ds.getD j 0≤12) (hw:Wfs ts) (h:degOk ds ts x=true) : ∀y∈toS ts,wsum ds y.1 ds.length=x:=by
 intro y hy;unfold degOk at h;obtain ⟨h1,h2⟩:=Bool.and_eq_true_iff.1 h;obtain ⟨t,ht,rfl⟩:=List.mem_map.1 hy;obtain ⟨j,hj,rfl⟩:=List.mem_iff_getElem.1 ht
 have h3:wd ds ts j=wd ds ts 0:=by simpa using List.all_eq_true.1 h1 j (by simpa using hj)
 have h4:=degF_neg hn hd hw h1
 have h5:degF ds ts=x:=by
  rcases (Bool.or_eq_true_iff.1 h2) with h | h
  ·exact absurd (of_decide_eq_true h) (fun e=>h4.1 e (by omega))
  ·exact of_decide_eq_true h
 unfold degF outAt at h5;rw [h1,if_pos rfl,if_neg (by omega)] at h5;rw [tm_eq hj]
 show wd ds ts j=x
 omega
theorem isAlg_im {ds:List Int} {fs:List (List Term)} (h:isAlg ds fs=true):imsOk ds fs=true:=by
 unfold isAlg at h;simp only [Bool.and_eq_true] at h;exact h.1.2
theorem leftP_get {p:Pw} {i j:Nat} (hi:i<8) (hj:j<8):(leftP p i).getD j 0=if j=i then p.getD i 0 - 1 else if j<i then p.getD j 0 else 0:=by
 unfold leftP;rw [getD_set8,show (aheadP p i).length=8 by simp,aheadP_get hj]
 by_cases e:i=j
 ·subst e;rw [if_pos ⟨rfl,hi⟩,if_pos rfl]
 ·rw [if_neg (fun h=>e h.1),if_neg (fun h:j=i=>e h.symm)]
theorem wsum_lb {ds p:Pw} {i:Nat} (hi:i<8) : ∀n:Nat,n≤8→wsum ds (leftP p i) n+wsum ds (behP p (i+1)) n=wsum ds p n - (if i<n then ds.getD i 0 else 0)
 | 0,_=>by simp [wsum]
 | n+1,h=>by
  have ih:=wsum_lb (ds:=ds) (p:=p) hi n (by omega)
  simp only [wsum]
  rw [leftP_get hi (by omega),behP_get (by omega)]
  rcases Nat.lt_trichotomy n i with h1 | h1 | h1
  ·rw [if_neg (by omega),if_pos h1,if_pos (by omega),if_neg (by omega)]
   rw [if_neg (by omega)] at ih
   rw [Int.mul_zero]
   omega
  ·subst h1
   rw [if_pos rfl,if_pos (by omega),if_pos (by omega)]
   rw [if_neg (by omega)] at ih
   rw [Int.mul_zero,Int.mul_sub,Int.mul_one]
   omega
  ·rw [if_neg (by omega),if_neg (by omega),if_neg (by omega),if_pos (by omega)]
   rw [if_pos h1] at ih
   rw [Int.mul_zero]
   omega
theorem wsF_cons (d:Int) (ds p:List Int) (i:Nat):wsF (d::ds) p i=d * p.getD i 0+wsF ds p (i+1):=rfl
theorem wsF_sum {p:List Int} : ∀(pre ds:List Int),wsF ds p pre.length+wsum (pre++ds) p pre.length=wsum (pre++ds) p (pre++ds).length
 | pre, []=>by simp [wsF]
 | pre,d::ds=>by
  have ih:=wsF_sum (p:=p) (pre++[d]) ds
  rw [List.length_append,List.append_assoc] at ih
  simp only [List.length_cons,List.length_nil,List.cons_append,List.nil_append,wsum,Nat.zero_add] at ih
  rw [wsF_cons]
  have e:(pre++d::ds).getD pre.length 0=d:=by simp [List.getD_eq_getElem?_getD]
  rw [e] at ih
  omega
theorem wsF_0 (ds p:List Int):wsF ds p 0=wsum ds p ds.length:=by
 have h:=wsF_sum (p:=p) [] ds
 simpa [wsum] using h
theorem mon_wt {ds:List Int} {n:Int} (h8:ds.length≤8) {p:Pw} (hp:p∈monS ds n):wsum ds p ds.length=n:=by
 rw [← wsF_0];exact (enumF_mem (by omega) rfl hp).2.2.2
theorem wsum_ge {ds p:Pw} (hd : ∀j,0≤ds.getD j 0) (hp : ∀j,0≤p.getD j 0) {j:Nat} : ∀n:Nat,j<n→ds.getD j 0 * p.getD j 0≤wsum ds p n
 | 0,h=>by omega
 | n+1,h=>by
  have h0:=wsum_nn0 hd hp n
  have h1:0≤ds.getD n 0 * p.getD n 0:=Int.mul_nonneg (hd n) (hp n)
  simp only [wsum]
  rcases Nat.lt_or_ge j n with hj | hj
  ·have:=wsum_ge hd hp (j:=j) n hj
   omega
  ·obtain rfl:j=n:=by omega
   omega
theorem mon_in {ds:List Int} (h8:ds.length≤8) (hd : ∀j,j<ds.length→1≤ds.getD j 0∧ds.getD j 0≤12) {n:Int} (hn:n≤41) {M:Int} {p:Pw} (hp:Pok M p) (hx:Ex ds p) (hw:wsum ds p ds.length=n):p∈monS ds n:=by
 have hd0 : ∀j,0≤ds.getD j 0:=fun j=>by
  by_cases hj:j<ds.length
  ·have:=hd j hj;omega
  ·rw [getD_ge (by omega)];omega
 have hp0 : ∀j,0≤p.getD j 0:=fun j=>(hp.bd j).1;refine enumF_in (by omega) rfl hp.len (fun t ht=>(hd t ht).1) (fun j hj=>?_) hp0 (fun t ht=>?_) (by rw [wsF_0];exact hw)
 ·rw [hx.out j (by omega),show zP=List.replicate 8 0 from rfl,rep_get]
 ·rw [Nat.zero_add];have hdt:=hd t ht;have htm:=tmod_two (d:=ds.getD t 0) (by omega);have hge:=wsum_ge hd0 hp0 (j:=t) ds.length ht;rw [hw] at hge;refine ⟨?_,fun h=>hx.odd t ht (by omega)⟩
  by_cases ho:(ds.getD t 0).tmod 2=1
  ·have:=hx.odd t ht (by omega)
   omega
  ·have h2:2≤ds.getD t 0:=by
    rcases (show ds.getD t 0=1∨2≤ds.getD t 0 by omega) with h | h
    ·rw [h] at ho;exact absurd (by decide) ho
    ·exact h
   have h3:2 * p.getD t 0≤ds.getD t 0 * p.getD t 0:=Int.mul_le_mul_of_nonneg_right h2 (hp0 t)
   omega
theorem dS_wt {ds:List Int} {fs:List (List Term)} (hG:isAlg ds fs=true) (hw:Wfss fs) {M:Int} {p:Pw} (hp:Pok M p) (hx:Ex ds p) {x:Pw × Int} (h:x∈dS ds fs [(p,1)]):Ex ds x.1∧wsum ds x.1 ds.length=wsum ds p ds.length+1:=by
 have hA:=isAlg_ok hG hw;have hn:=hA.hn
 rcases acc_mem h with h | ⟨z,hz,e⟩
 ·simp at h
 rw [e];unfold dAll at hz;simp only [List.flatMap_cons,List.flatMap_nil,List.append_nil] at hz;unfold dLk at hz;obtain ⟨i,hi,hz⟩:=List.mem_flatMap.1 hz;have hi8:=List.mem_range.1 hi;unfold dP at hz
 split at hz
 ·rename_i hpos
  have hid:i<ds.length:=by
   rcases Nat.lt_or_ge i ds.length with h | h
   ·exact h
   ·have h1:=hx.out i h;simp only at hpos
    omega
  obtain ⟨y,hy,ey⟩:=scl_key hz;rw [ey]
  have hif:i<fs.length:=by rw [hA.hl];exact hid
  have him:=(hA.fok i hif).1;have hlp:=leftP_pok hp hpos;have hbp:=behP_pok hp (i+1);have g1:Gok M [(leftP p i,1)]:=(Sok.one hlp (k:=1) (by omega)).g;have g3:Gok M [(behP p (i+1),1)]:=(Sok.one hbp (k:=1) (by omega)).g
  have k1:KEx ds [(leftP p i,1)]:=fun x hx'=>by rw [List.mem_singleton.1 hx'];exact leftP_ex hp hx hpos
  have k3:KEx ds [(behP p (i+1),1)]:=fun x hx'=>by rw [List.mem_singleton.1 hx'];exact behP_ex hp hx (i+1)
  have k2:=hA.kex i hif;have k12:=times_kex g1 him.g k1 k2;have g12:=gtimes (ds:=ds) g1 him.g;refine ⟨times_kex g12.g g3 k12 k3 y hy,?_⟩
  rcases acc_mem hy with h | ⟨a,ha,ea⟩
  ·simp at h
  obtain ⟨u,hu,v,hv,_,e2⟩:=mulL_mem ha;rw [List.mem_singleton.1 hv] at e2
  rcases acc_mem hu with h | ⟨b,hb,eb⟩
  ·simp at h
  obtain ⟨c,hc,d,hd',_,e3⟩:=mulL_mem hb;rw [List.mem_singleton.1 hc] at e3;have hdl:=(him.key d hd').len;have h1:=imsOk_at (isAlg_im hG) hif;unfold imOk at h1;have h2:=(Bool.and_eq_true_iff.1 h1).2;have hwd:=degOk_wt hn hA.hd (hw.fm i) h2 d hd';have hlb:=wsum_lb (ds:=ds) (p:=p) hi8 ds.length hn;rw [if_pos hid] at hlb;rw [ea,e2,wsum_add (by rw [eb,e3];simp [addp]) hbp.len,eb,e3,wsum_add hlp.len hdl,hwd]
  omega
 ·simp at hz
theorem hom_of {ds:List Int} {fs:List (List Term)} (hG:isAlg ds fs=true) (hw:Wfss fs) (h8:ds.length≤8) (hd : ∀j,j<ds.length→1≤ds.getD j 0∧ds.getD j 0≤12) {n:Int} (hn:n≤40) (hf:fit2 ds n):Hom1 ds fs n:=fun p hp x hx=>by
 have hp':=List.mem_of_mem_take hp
 have h1:=dS_wt hG hw (mon_pok h8 hp') (mon_ex h8 hp' hd) hx
 have hA:=isAlg_ok hG hw
 have h2:=dS_one hA h8 hd hp'
 rw [monL_fit hf.2]
 exact mon_in h8 hd (by omega) (h2.key x hx) h1.1 (by rw [h1.2,mon_wt h8 hp'])
theorem fn19:Fn Try.prog 19:=⟨_,Try.func19,by kernel_rfl,rfl⟩
theorem fn33:Fn Try.prog 33:=⟨_,Try.func33,by kernel_rfl,rfl⟩
theorem fn35:Fn Try.prog 35:=⟨_,Try.func35,by kernel_rfl,rfl⟩
theorem fn55:Fn Try.prog 55:=⟨_,Try.func55,by kernel_rfl,rfl⟩
theorem alg_112 {ds:List Int} {fs:List (List Term)} (h:isAlg ds fs=true) : ∀j,j<ds.length→1≤ds.getD j 0∧ds.getD j 0≤12:=fun j hj=>by
 have h1:=isDeg_bd (isAlg_deg h) j
 have h2:=isDeg_pos1 (isAlg_deg h) j hj
 omega
def askB (m:Int):Bool:=decide (0≤m) && decide (m≤20)
theorem askB_y {m:Int} (h:askB m=true):0≤m∧m≤20:=by unfold askB at h;simpa using h
def cdC (ds:List Int) (fs:List (List Term)) (n:Int):Int:=if isAlg ds fs then if askB n then if wiB ds (n - 1) (n+1) then 0 else 3 else 2 else 1
theorem wi_fit {ds:List Int} {a b k:Int} (h:wiB ds a b=true) (h1:max a 0≤k) (h2:k≤b):fitB ds k=true:=by
 have:=List.all_eq_true.1 h (k - max a 0).toNat (List.mem_range.2 (by omega))
 rwa [show max a 0+(((k - max a 0).toNat:Nat):Int)=k by omega] at this
theorem fit_neg {ds:List Int} {fs:List (List Term)} (hG:isAlg ds fs=true) {n:Int} (h:n<0):fitB ds n=true:=by
 unfold fitB;rw [monS_neg (alg_112 hG) (isDeg_len (isAlg_deg hG)) h]
 rfl
theorem wi_fit' {ds:List Int} {fs:List (List Term)} (hG:isAlg ds fs=true) {a b k:Int} (h:wiB ds a b=true) (h1:a≤k) (h2:k≤b):fitB ds k=true:=by
 by_cases hk:k<0
 ·exact fit_neg hG hk
 ·exact wi_fit h (by omega) h2
def rkS (ds:List Int) (fs:List (List Term)) (n:Int):Int:=if n<0 then 0 else ((redS (matS ds fs n)).length:Int)
theorem l03Rank_c {B:World} {H0 H:HP} {L:List SA} {w:World} {qad qaf:Option Addr} {cad caf:Nat} {ad:List Int} {af:List (List Term)} {n:Int} (had:Ints H qad ad) (haf:Forms H qaf af) (hG:isAlg ad af=true) (hn : -1000000≤n∧n≤40) (hfit:0≤n→fit2 ad n) (hH:Hp B H0 H L w):Calls Try.prog 30 [.agg [.slice qad ad.length cad,.slice qaf af.length caf].toArray,.int .i64 n].toArray w fun e w'=>e = .returned (.int .i64 (rkS ad af n))∧Hp B H0 H L w':=by
 refine Jv Try.func30 rfl 12 rfl rfl [(0,.agg [.slice qad ad.length cad,.slice qaf af.length caf].toArray),(1,.int .i64 n)] rfl hH ?_;have hw0:=hH.old;have hw1:=hH.le;clear hH;have hwf:=haf.wfss;have hA:=isAlg_ok hG hwf;have h8:=hA.hn;have hd:=alg_112 hG;have hml:=monL_len ad n;have hml1:=monL_len ad (n+1);refine Je fun _ hK1 _=>(Jb (Ee rfl rfl rfl fun g2=>(Jg (Jd rfl) rfl (Jf (Ja (hK1 (Je fun _ hK2 _=>(Je fun _ hK3 _=>(Jb (Jg (Jc rfl) rfl (Jg (JP rfl rfl) rfl (Jf (Ja (hK3 (Jn rfl (fun h6=>?_) (fun h6=>?_))))))))))))))))
 ·
  refine Je fun _ hK4 _=>(Jb (Jg (Jd rfl) rfl (Jf (Ja (hK4 (Jq (Ji (Jp rfl (Res.tmp rfl) fun w hH=>?_))))))));replace hH:=hH.tail;exact ⟨ri (by rw [rkS,if_pos h6]),hH⟩
 ·
  refine Jl (Ja (hK2 (Je fun _ hK5 _=>(Jb (Jg (JA rfl At.z (by simpa [*] using ag32)) rfl (Jg (Jc rfl) rfl (JB fn19 rfl rfl fun w hH=>(l03Matrix_c had haf hd h8 (by omega) hA (hfit (by omega)) (hom_of hG hwf h8 hd (by omega) (hfit (by omega))) hH).mono ?_)))))));rintro _ w ⟨Hf9,qf9,cf9,hlf9,hI9,hcc9,rfl,hH⟩;refine ⟨_,rfl,fun a hF=>JT hF hH ?_⟩;replace had:=had.le hlf9;replace haf:=haf.le hlf9;refine JB fn55 rfl rfl fun w hH=>(l03Reduce_c hI9 (matS_ok hA h8 hd) (by rw [matS_len];omega) (by omega) hH).mono ?_;rintro _ w ⟨Hf10,qf10,cf10,hlf10,hI10,hcc10,rfl,hH⟩;refine ⟨_,rfl,fun a hF=>JT hF hH ?_⟩;replace had:=had.le hlf10;replace haf:=haf.le hlf10;replace hI9:=hI9.le hlf10;refine Jg (Jo u27 rfl rfl) rfl (Jg (Jd rfl) rfl (Jf (Ja (hK5 (Jq (Jp rfl (Res.tmp rfl) fun w hH=>?_))))));replace hH:=hH.tail;exact ⟨ri (by rw [rkS,if_neg h6]),hH.weaken (hlf9.trans hlf10) hw0 hw1⟩
theorem l03Code_c {B:World} {H0 H:HP} {L:List SA} {w:World} {qad qaf:Option Addr} {cad caf:Nat} {ad:List Int} {af:List (List Term)} {n:Int} (had:Ints H qad ad) (haf:Forms H qaf af) (hn8:ad.length≤1048576) (hn9:af.length≤1048576) (hl9 : ∀i,i<af.length→(fm af i).length≤1048576) (hH:Hp B H0 H L w):Calls Try.prog 18 [.agg [.slice qad ad.length cad,.slice qaf af.length caf].toArray,.int .i64 n].toArray w fun e w'=>e = .returned (.int .i64 (cdC ad af n))∧Hp B H0 H L w':=by
 refine Jv Try.func18 rfl 21 rfl rfl [(0,.agg [.slice qad ad.length cad,.slice qaf af.length caf].toArray),(1,.int .i64 n)] rfl hH ?_;clear hH;refine Je fun _ hK1 _=>(Jb (Ee rfl rfl rfl fun g2=>(Jg (Jd rfl) rfl (Jf (Ja (hK1 (Je fun _ hK2 _=>(Jm (Je fun _ hK3 _=>(Jb (Jg (JA rfl At.z (by simpa [*] using ag32)) rfl (JB fn33 rfl rfl fun w hH=>(l02Is_c had haf (by omega) (by omega) hl9 hH).mono ?_))))))))))));rintro _ w ⟨rfl,hH⟩;refine ⟨_,rfl,fun a hF=>JT hF hH ?_⟩;refine Jg (El rfl) rfl (Jg (Jd rfl) rfl (Jf (Ja (hK3 (Eh rfl (fun h5=>?_) (fun h5=>?_))))))
 ·
  refine Je fun _ hK4 _=>(Jb (Jg (Jd rfl) rfl (Jf (Ja (hK4 (Jq (JM (Ji (Jp rfl (Res.tmp rfl) fun w hH=>?_)))))))));replace hH:=hH.tail;exact ⟨ri (by rw [cdC,if_neg (by rw [not_f h5];decide)]),hH⟩
 ·
  have hG:isAlg ad af=true:=not_t h5;have hwf:=haf.wfss;have hA:=isAlg_ok hG hwf;have h8:=hA.hn;have hd:=alg_112 hG;refine Je fun _ hK5 _=>(Jb (Jg (Jc rfl) rfl (JB fn34 rfl rfl fun w hH=>(l01In_c hH).mono ?_)));rintro _ w ⟨rfl,hH⟩;refine ⟨_,rfl,fun a hF=>JT hF hH ?_⟩;refine Jg (El rfl) rfl (Jg (Jd rfl) rfl (Jf (Ja (hK5 (Eh rfl (fun h9=>?_) (fun h9=>?_))))))
  ·
   refine Je fun _ hK6 _=>(Jb (Jg (Jd rfl) rfl (Jf (Ja (hK6 (Jq (JM (Ji (Jp rfl (Res.tmp rfl) fun w hH=>?_)))))))));replace hH:=hH.tail;exact ⟨ri (by rw [cdC,if_pos hG,if_neg (by rw [show askB n=false from not_f h9];decide)]),hH⟩
  ·
   have hk:=askB_y (not_t h9);refine Je fun _ hK7 _=>(Jb (Jg (JA rfl At.z (by simpa [*] using ag32)) rfl (Jg (Jc rfl) rfl (Jg (EH rfl rfl (by first | exact nw _ (by omega) | rfl)) rfl (Jg (Jc rfl) rfl (Jg (JC rfl rfl (by first | exact nw _ (by omega) | rfl)) rfl (JB fn35 rfl rfl fun w hH=>(l03Within_c had haf hd h8 (by omega) (by omega) hH).mono ?_)))))));rintro _ w ⟨rfl,hH⟩;refine ⟨_,rfl,fun a hF=>JT hF hH ?_⟩;refine Jg (El rfl) rfl (Jg (Jd rfl) rfl (Jf (Ja (hK7 (Eh rfl (fun h13=>?_) (fun h13=>?_))))))
   ·
    refine Je fun _ hK8 _=>(Jb (Jg (Jd rfl) rfl (Jf (Ja (hK8 (Jq (JM (Ji (Jp rfl (Res.tmp rfl) fun w hH=>?_)))))))));replace hH:=hH.tail;exact ⟨ri (by rw [cdC,if_pos hG,if_pos (show askB n=true from not_t h9),if_neg (by rw [not_f h13];decide)]),hH⟩
   ·
    refine Jl (JD (Ja (hK2 (Je fun _ hK9 _=>(Jb (Jg (Jd rfl) rfl (Jf (Ja (hK9 (Jq (Jp rfl (Res.tmp rfl) fun w hH=>?_)))))))))));replace hH:=hH.tail;exact ⟨ri (by rw [cdC,if_pos hG,if_pos (show askB n=true from not_t h9),if_pos (not_t h13)]),hH⟩
theorem bd93_0_1 : ∀(p0:Option Addr) (b1:Nat) w,(Instr.build 93 #[(0,.pointer p0),(1,.map (some b1))]).run Try.prog w = .ok (.agg [.pointer p0,.map (some b1)].toArray) w:=fun p0 b1 _=>by kernel_rfl
theorem lvO_cell : ∀{ls:List (Int × Lv)} {x:Int × Lv} {h:HP},x∈ls→(lvO ls).holds h→(lvB x.2).holds h
 | [],_,_,hx,_=>by simp at hx
 | y::ls,x,h,hx,hh=>by
  rcases List.mem_cons.1 hx with rfl | hx
  ·exact hh.1
  ·exact lvO_cell hx hh.2.1
theorem cpx_cell {lb:Nat} {ls:List (Int × Lv)} {n:Int} {x:Lv} {h:HP} {k:Nat} {v:Value} (hx:(n,x)∈ls) (hh:(cpx lb ls).holds h) (hk:x.cells[k]? = some v):cellO h (some ⟨x.b,0,none⟩) k=some v:=obj_cell (lvO_cell hx hh.2.1) hk
section
variable {P : Program} {ops : Array Oper} {Q : Exit → Act → World → Prop} {n : Nat} {B : World} {H0 H : HP} {rest : List Oper} {us : List (Nat × Value)} {L L' : List SA} {t : TypeId} {p : String} {af : Array Edge} {d : Nat} {x y : Operand}
theorem PR.loadCx {ty:TypeId} {lb k b:Nat} {ls:List (Int × Lv)} {m:Int} {lv:Lv} {v:Value} (hx:opv us x=some (ptr (some ⟨b,0,none⟩) k)) (hat:At L (cpx lb ls) (cpx lb ls) L) (hm:(m,lv)∈ls) (hb:lv.b=b) (hk:lv.cells[k]? = some v) (hp:Plain P ty):PR P n B H0 us H L (.load ty x) t v:=
 fun c' w' d' b' a w hF hH=>by
  subst hb
  exact JF (H:=G.hp w) (L:=[]) (B:=w) (H0:=G.hp w) hx (cpx_cell hm (hH.objs _ hat.mem).1 hk) hp c' w' d' b' a w hF (Hp.start fun _ _ h=>h)
end
theorem Hp.cpx0 {B:World} {H0 H:HP} {L:List SA} {w:World} {lb:Nat} (h:Hp B H0 H (lvM lb []::L) w):Hp B H0 H (cpx lb []::L) w:=(h.emp.front (.s .z)).star
theorem newComplex_c {B:World} {H0 H:HP} {L:List SA} {w:World} {ba:Nat} {qad qaf:Option Addr} {cad caf:Nat} {ad:List Int} {af:List (List Term)} (pad:CellAt H ba 0 (.slice qad ad.length cad)) (paf:CellAt H ba 1 (.slice qaf af.length caf)) (had:Ints H qad ad) (haf:Forms H qaf af) (hH:Hp B H0 H L w):Calls Try.prog 44 [.pointer (some ⟨ba,0,none⟩)].toArray w fun e w'=>∃H' b lc,Le H H' ∧CellAt H' b 0 (.pointer (some ⟨ba,0,none⟩))∧CellAt H' b 1 (.map (some lc))∧e = .returned (.pointer (some ⟨b,0,none⟩))∧Hp B H0 H' (cpx lc []::L) w':=by
 refine Jv Try.func44 rfl 7 rfl rfl [(0,.pointer (some ⟨ba,0,none⟩))] rfl hH ?_;clear hH;refine Je fun _ hK1 _=>(Jb (Jg (Jd rfl) rfl (Jf (Ja (hK1 (Je fun _ hK2 _=>(Jb (Jg (Jc rfl) rfl (EL ekI evB okI rfl fun bm4=>(Jg (PR.build2 rfl rfl (fun w=>bd93_0_1 _ _ w)) rfl (Ee rfl rfl rfl fun g6=>(J.freezeRow .z fun H6 hle6 hc6=>?_))))))))))));replace pad:=pad.le hle6;replace paf:=paf.le hle6;replace had:=had.le hle6;replace haf:=haf.le hle6;refine Jg (Jd rfl) rfl (Jf (Ja (hK2 (Jq (Jp rfl (Res.tmp rfl) fun w hH=>?_)))));replace hH:=hH.sublist (.cons_cons _ (List.Sublist.refl _));exact ⟨_,_,_,hle6,hc6 0 _ rfl,hc6 1 _ rfl,rfl,hH.cpx0⟩
theorem fn18:Fn Try.prog 18:=⟨_,Try.func18,by kernel_rfl,rfl⟩
theorem fn22:Fn Try.prog 22:=⟨_,Try.func22,by kernel_rfl,rfl⟩
theorem fn23:Fn Try.prog 23:=⟨_,Try.func23,by kernel_rfl,rfl⟩
theorem fn24:Fn Try.prog 24:=⟨_,Try.func24,by kernel_rfl,rfl⟩
theorem fn30:Fn Try.prog 30:=⟨_,Try.func30,by kernel_rfl,rfl⟩
theorem fn31:Fn Try.prog 31:=⟨_,Try.func31,by kernel_rfl,rfl⟩
theorem fn42:Fn Try.prog 42:=⟨_,Try.func42,by kernel_rfl,rfl⟩
theorem fn43:Fn Try.prog 43:=⟨_,Try.func43,by kernel_rfl,rfl⟩
theorem fn44:Fn Try.prog 44:=⟨_,Try.func44,by kernel_rfl,rfl⟩
theorem fn45:Fn Try.prog 45:=⟨_,Try.func45,by kernel_rfl,rfl⟩
theorem fn46:Fn Try.prog 46:=⟨_,Try.func46,by kernel_rfl,rfl⟩
theorem fn48:Fn Try.prog 48:=⟨_,Try.func48,by kernel_rfl,rfl⟩
theorem ar_wi (ds:List Int) (fs:List (List Term)) (hG:isAlg ds fs=true) (n:Int):arB ds n=wiB ds (n - 1) (n+1):=by
 cases h:wiB ds (n - 1) (n+1) with
 | true=>
  unfold arB;rw [wi_fit' hG h (by omega) (by omega),wi_fit' hG h (by omega) (by omega),wi_fit' hG h (by omega) (by omega)]
  rfl
 | false=>
  cases h2:arB ds n with
  | false=>rfl
  | true=>
   exfalso
   unfold arB at h2;simp only [Bool.and_eq_true] at h2;rw [wiB_yes fun k hk=>?_] at h
   ·cases h
   ·rcases (show max (n - 1) 0+(k:Int)=n - 1∨max (n - 1) 0+(k:Int)=n∨max (n - 1) 0+(k:Int)=n+1 by omega) with e | e | e <;> rw [e]
    ·exact h2.1
    ·exact h2.2.1
    ·exact h2.2.2
def asC (ds:List Int) (fs:List (List Term)) (ns:List Int):Int:=if isAlg ds fs then if ns.any fun x=>!askB x then 2 else arC ds ns else 1
def mdV (ds:List Int) (fs:List (List Term)) (n:Int):List (List Int):=if cdC ds fs n=0 then matS ds fs n else []
def rdV (ds:List Int) (fs:List (List Term)) (n:Int):Int:=if cdC ds fs n=0 then rkS ds fs n else 0
section
variable {ds : List Int} {fs : List (List Term)} {n : Int} {ns : List Int}
theorem first_as {b:Bool}:firstOf [codeA ds fs [],if b=true then 2 else 0]=if isAlg ds fs then if b then 2 else 0 else 1:=by
 rw [codeA_nil,firstOf_two];unfold algC
 cases isAlg ds fs <;> cases b <;> rfl
theorem asC_one:asC ds fs [n]=cdC ds fs n:=by
 unfold asC cdC arC
 cases hG:isAlg ds fs with
 | false=>rfl
 | true=>
  simp only [List.any_cons,List.any_nil,Bool.or_false,List.all_cons,List.all_nil,Bool.and_true,if_true];rw [ar_wi ds fs hG n]
  cases askB n <;> rfl
theorem as_y (h:(if isAlg ds fs then if (ns.any fun x=>!askB x)=true then (2:Int) else 0 else 1)=0):isAlg ds fs=true∧(ns.any fun x=>!askB x)=false:=by
 cases hG:isAlg ds fs with
 | false=>rw [hG] at h;simp at h
 | true=>
  refine ⟨rfl,?_⟩
  cases hh:(ns.any fun x=>!askB x) with
  | false=>rfl
  | true=>rw [hG,hh] at h;simp at h
theorem asC_y (hG:isAlg ds fs=true) (h:(ns.any fun x=>!askB x)=false):arC ds ns=asC ds fs ns:=by unfold asC;rw [hG,h];rfl
theorem asC_n (h : ¬(if isAlg ds fs then if (ns.any fun x=>!askB x)=true then (2:Int) else 0 else 1)=0):(if isAlg ds fs then if (ns.any fun x=>!askB x)=true then (2:Int) else 0 else 1)=asC ds fs ns:=by
 unfold asC
 cases hG:isAlg ds fs with
 | false=>rfl
 | true=>
  cases hh:(ns.any fun x=>!askB x) with
  | true=>rfl
  | false=>rw [hG,hh] at h;exact absurd rfl h
theorem as_ask (h:(ns.any fun x=>!askB x)=false) : ∀i,i<ns.length→0≤ns.getD i 0∧ns.getD i 0≤20:=fun i hi=>by
 have h1:(!askB ns[i])=false:=by
  have:=List.any_eq_false.1 h ns[i] (List.getElem_mem hi)
  simpa using this
 have h2:=askB_y (not_t h1)
 rw [List.getD_eq_getElem?_getD,List.getElem?_eq_getElem hi]
 exact h2
theorem cd_y (h:cdC ds fs n=0):isAlg ds fs=true∧(0≤n∧n≤20)∧fit2 ds n:=by
 unfold cdC at h
 cases hG:isAlg ds fs with
 | false=>rw [hG] at h;simp at h
 | true=>
  cases hk:askB n with
  | false=>rw [hG,hk] at h;simp at h
  | true=>
   cases hw:wiB ds (n - 1) (n+1) with
   | false=>rw [hG,hk,hw] at h;simp at h
   | true=>
    have ha:=askB_y hk;exact ⟨rfl,ha,wi_fit hw (by omega) (by omega),wi_fit hw (by omega) (by omega)⟩
theorem mdV_n (h:cdC ds fs n≠0):mdV ds fs n=[]:=if_neg h
theorem mdV_y (h:cdC ds fs n=0):mdV ds fs n=matS ds fs n:=if_pos h
theorem rdV_n (h:cdC ds fs n≠0):rdV ds fs n=0:=if_neg h
theorem rdV_y (h:cdC ds fs n=0):rdV ds fs n=rkS ds fs n:=if_pos h
theorem tup_jj {a b a' b':Int} (h1:a=a') (h2:b=b'):Ending.returned (.tuple #[.int .i64 a,.int .i64 b]) = .returned (.tuple #[.int .i64 a',.int .i64 b']):=by rw [h1,h2]
end
theorem isAsked_c {B:World} {H0 H:HP} {L:List SA} {w:World} {n:Int} (hH:Hp B H0 H L w):Calls Try.prog 43 [.int .i64 n].toArray w fun e w'=>e = .returned (.bool (askB n))∧Hp B H0 H L w':=by
 refine Jv Try.func43 rfl 5 rfl rfl [(0,.int .i64 n)] rfl hH ?_;clear hH;refine Je fun _ hK1 _=>(Jb (Jg (Jd rfl) rfl (Jf (Ja (hK1 (Je fun _ hK2 _=>(Jb (Jg (Jc rfl) rfl (JB fn68 rfl rfl fun w hH=>(within_c hH).mono ?_)))))))));rintro _ w ⟨rfl,hH⟩;refine ⟨_,rfl,fun a hF=>JT hF hH ?_⟩;refine Jg (Jd rfl) rfl (Jf (Ja (hK2 (Jq (Jp rfl (Res.tmp rfl) fun w hH=>?_)))));exact ⟨rfl,hH⟩
theorem asked1_c {B:World} {H0 H:HP} {L:List SA} {w:World} {n:Int} (hH:Hp B H0 H L w):Calls Try.prog 42 [.int .i64 n].toArray w fun e w'=>e = .returned (.bool (!askB n))∧Hp B H0 H L w':=by
 refine Jv Try.func42 rfl 6 rfl rfl [(0,.int .i64 n)] rfl hH ?_;clear hH;refine Je fun _ hK1 _=>(Jb (Jg (Jd rfl) rfl (Jf (Ja (hK1 (Je fun _ hK2 _=>(Jb (Jg (Jc rfl) rfl (JB fn43 rfl rfl fun w hH=>(isAsked_c hH).mono ?_)))))))));rintro _ w ⟨rfl,hH⟩;refine ⟨_,rfl,fun a hF=>JT hF hH ?_⟩;refine Jg (El rfl) rfl (Jg (Jd rfl) rfl (Jf (Ja (hK2 (Jq (Jp rfl (Res.tmp rfl) fun w hH=>?_))))));exact ⟨rfl,hH⟩
theorem copyRows_c {B:World} {H0 H:HP} {L:List SA} {w:World} {qrs:Option Addr} {crs:Nat} {rs:List (List Int)} (hrs:RowsR H qrs rs) (hn:rs.length≤1000000) (hl : ∀i,i<rs.length→(rw_ rs i).length≤1048576) (hH:Hp B H0 H L w):Calls Try.prog 23 [.slice qrs rs.length crs].toArray w fun e w'=>∃q c vs,e = .returned (.slice q (rs).length c)∧Hp B H0 H (ownRs 22 2 q c vs (rs)::L) w':=by
 refine Jv Try.func23 rfl 20 rfl rfl [(0,.slice qrs rs.length crs)] rfl hH ?_;clear hH;refine Je fun _ hK1 _=>(Jb (Jg (Jd rfl) rfl (Jf (Ja (hK1 (Je fun _ hK2 _=>(Jb (J.mk (MK.lit0 u27 sz22) rfl fun qo6 co6=>(J.is0 2 (Jg (Jd rfl) rfl (Jf (Ja (hK2 (Je fun _ hK3 _=>(Je fun _ hK4 _=>(Jb ?_))))))))))))))));refine Jg (Jc rfl) rfl (Jg (Jo u27 rfl rfl) rfl (Jg (Jc rfl) rfl (Jf (Ja (hK4 (Jm (JE (σ:=Option Addr × Nat × Vs × Nat) (fun ⟨q,c,vs,k⟩=>[(9,.int .i64 (k:Int)),(3,.slice q k c)]) (fun ⟨q,c,vs,k⟩=>H) (fun ⟨q,c,vs,k⟩=>ownIs 2 vs (rs.take k)::own 22 1 q k c (slicesI vs (rs.take k))::L) (fun ⟨q,c,vs,k⟩=>k≤rs.length) (fun ⟨q,c,vs,k⟩=>rs.length - k) (qo6,co6,nilVs,0) (by show 0≤rs.length;omega) ⟨rfl,⟨rfl,trivial⟩⟩ rfl rfl ?_)))))));rintro ⟨q,c,vs,k⟩ hk _ hAg0;refine Je fun _ hK5 _=>(Jb (Jg (JP rfl rfl) rfl (Jf (Ja (hK5 (Je fun _ hK6 _=>(Jn rfl (fun h10=>?_) (fun h10=>?_))))))))
 ·
  have hk1:k<rs.length:=by omega
  have hl1:=hl k hk1;refine Jl (Ja (hK6 (Je fun _ hK7 _=>(Jm (Je fun _ hK8 _=>(Jb (Jg (JU u27 sz22 rfl rfl rfl hk1 hrs.sm) rfl ?_)))))));obtain ⟨qe12,ce12,he12,le12,Fe12⟩:=hrs k hk1;refine Jg (JF rfl he12 pl22) rfl (Jg (Jd rfl) rfl (Jf (Ja (hK8 (Jb (Jg (Jc rfl) rfl (Jg (Jc rfl) rfl (JB fn49 rfl rfl fun w hH=>(CloneI_c Fe12 (by omega) hH).mono ?_))))))));rintro _ w ⟨qo15,co15,rfl,hH⟩;refine ⟨_,rfl,fun a hF=>JT hF hH ?_⟩;refine J.mk (MK.lit1S u27 ze22 sz22 rfl rfl) rfl fun qo16 co16=>(J.append1 u27 ze22 sz22 by22 rfl rfl rfl rfl (by omega) .z (.s (.s .z)) (fun _ _=>(.s (.s .z))) rfl fun qo17 co17=>(Jg (Jd rfl) rfl (Jf (JD (Ja (hK7 (Jb (Jg (JC rfl rfl (by first | exact nw _ (by omega) | rfl)) rfl (Jg (Jc rfl) rfl (Jf (Ja (Jw (.s (.s (.s .z))) (Jw (.s .z) (Jw (.s (.s (.s .z))) (Jw (.s (.s (.s .z))) ?_)))))))))))))));refine EJ.isSnoc (rs:=rs.take k) (List.length_take_of_le hk) rfl (JO (.s .z) ?_);exact hAg0 (qo17,co17,setV vs k (qo15,co15),k+1) (by show k+1≤rs.length;omega) (by show rs.length - (k+1)<rs.length - k;omega) 14 rfl rfl ⟨rfl,⟨rfl,trivial⟩⟩ rfl (by dsimp only;rw [rw_take hk1,slicesI_set (List.length_take_of_le hk)])
 ·
  refine JG (Jk (Jk (JN (Ja (hK3 (Je fun _ hK9 _=>(Jb (Jg (Jc rfl) rfl (Jg (Jd rfl) rfl (Jf (Ja (hK9 (Jq (Jp rfl (Res.tmp rfl) fun w hH=>?_))))))))))))));replace hH:=hH.sublist (.cons_cons _ (.cons_cons _ (List.Sublist.refl _)))
  obtain rfl:k=rs.length:=by omega
  rw [List.take_length] at hH;exact ⟨q,c,vs,rfl,by unfold ownRs;exact (hH.front (.s .z)).star⟩
theorem asked_c {B:World} {H0 H:HP} {L:List SA} {w:World} {ba:Nat} {qad qaf:Option Addr} {cad caf:Nat} {ad:List Int} {af:List (List Term)} {qns:Option Addr} {cns:Nat} {ns:List Int} (pad:CellAt H ba 0 (.slice qad ad.length cad)) (paf:CellAt H ba 1 (.slice qaf af.length caf)) (had:Ints H qad ad) (haf:Forms H qaf af) (hns:Ints H qns ns) (hn8:ad.length≤1048576) (hn9:af.length≤1048576) (hl9 : ∀i,i<af.length→(fm af i).length≤1048576) (hnl:ns.length≤1000) (hH:Hp B H0 H L w):Calls Try.prog 22 [.pointer (some ⟨ba,0,none⟩),.slice qns ns.length cns].toArray w fun e w'=>∃H' b lc,Le H H' ∧CellAt H' b 0 (.pointer (some ⟨ba,0,none⟩))∧CellAt H' b 1 (.map (some lc))∧e = .returned (.tuple #[.pointer (some ⟨b,0,none⟩),.int .i64 (asC ad af ns)])∧Hp B H0 H' (cpx lc []::L) w':=by
 refine Jv Try.func22 rfl 26 rfl rfl [(0,.pointer (some ⟨ba,0,none⟩)),(1,.slice qns ns.length cns)] rfl hH ?_;have hw0:=hH.old;have hw1:=hH.le;clear hH;refine Je fun _ hK1 _=>(Jb (Jg (Jd rfl) rfl (Jg (Jd rfl) rfl (Jf (Ja (hK1 (Je fun _ hK2 _=>(Jb (Jg (Jc rfl) rfl (JB fn41 rfl rfl fun w hH=>(ContainsFuncI_c hns fn42 (fun x w hH=>by simpa only [Array.append_empty,Array.empty_append] using asked1_c hH) (by omega) hH).mono ?_))))))))));rintro _ w ⟨rfl,hH⟩;refine ⟨_,rfl,fun a hF=>JT hF hH ?_⟩;refine Jg (Jd rfl) rfl (Jf (Ja (hK2 (Je fun _ hK3 _=>(Jb (Jg (Jc rfl) rfl (JB fn44 rfl rfl fun w hH=>(newComplex_c pad paf had haf hH).mono ?_)))))));rintro _ w ⟨Hf12,bn12,ln12,hlf12,pn120,pn121,rfl,hH⟩;refine ⟨_,rfl,fun a hF=>JT hF hH ?_⟩;replace pad:=pad.le hlf12;replace paf:=paf.le hlf12;replace had:=had.le hlf12;replace haf:=haf.le hlf12;replace hns:=hns.le hlf12;refine Jg (Jc rfl) rfl (JB fn46 rfl rfl fun w hH=>(algebraCode_c pad paf had haf (forms_nil Hf12) hn8 hn9 hl9 (by simp) (fun i hi=>by simp at hi) hH).mono ?_);rintro _ w ⟨rfl,hH⟩;refine ⟨_,rfl,fun a hF=>JT hF hH ?_⟩;refine Jg (Jc rfl) rfl (JB fn47 rfl rfl fun w hH=>(when_c hH).mono ?_);rintro _ w ⟨rfl,hH⟩;refine ⟨_,rfl,fun a hF=>JT hF hH ?_⟩;refine J.litI2 u22 ze2 sz2 rfl rfl rfl fun g17=>(JB fn45 rfl rfl fun w hH=>hH.lend .z fun Hl1 hle1 hA1 hB1 hH=>(first_c (own_ints hA1) (by simp) hH).mono ?_);rintro _ w ⟨rfl,hH⟩;replace hH:=hB1 _ _ hH;refine ⟨_,rfl,fun a hF=>JT hF hH ?_⟩;refine Jg (Jd rfl) rfl (Jg (Jd rfl) rfl (Jf (Ja (hK3 (CJ.cutU (σ:=Unit) (fun (_:Unit)=>[(8,.int .i64 (asC ad af ns))]) (fun (_:Unit)=>Hf12) (fun (_:Unit)=>cpx ln12 []::L) (fun (_:Unit)=>True) ?_ ?_)))))
 ·
  intro _ hMt1;refine Je fun _ hK4 _=>(Jb (Jg (Jc rfl) rfl (Jg (EC rfl rfl) rfl (Jf (Ja (hK4 (Jn rfl (fun h20=>?_) (fun h20=>?_))))))))
  ·
   rw [first_as] at h20;obtain ⟨hG,hany⟩:=as_y h20;have hA:=isAlg_ok hG haf.wfss;have hd:=alg_112 hG;have h8:=hA.hn;have hb9:=as_ask hany;refine Jb (Jg (Jc rfl) rfl (Jg (Jc rfl) rfl (JB fn48 rfl rfl fun w hH=>(around_c pn120 pn121 pad paf had haf hns hd h8 (fun i hi=>by have:=hb9 i hi;omega) (by omega) hH).mono ?_)));rintro _ w ⟨rfl,hH⟩;refine ⟨_,rfl,fun a hF=>JT hF hH ?_⟩;refine Jg (Jd rfl) rfl (Jf (Ja (JO .z ?_)));exact hMt1 () trivial 6 rfl rfl ⟨(vi (asC_y hG hany)),trivial⟩ rfl rfl
  ·
   rw [first_as] at h20;refine Jl (Ja (JO .z ?_));exact hMt1 () trivial 2 rfl rfl ⟨(vi (first_as.trans (asC_n h20))),trivial⟩ rfl rfl
 ·
  rintro _ _;refine Je fun _ hK5 _=>(Jb (Jg (Jc rfl) rfl (Jg (Jc rfl) rfl (Jg (Jd rfl) rfl (Jg (Jd rfl) rfl (Jf (Ja (hK5 (Jq (Eu rfl (Res.tmp rfl) (Res.tmp rfl) fun w hH=>?_))))))))));replace hH:=hH.sublist (.cons_cons _ (List.Sublist.refl _));exact ⟨_,_,_,hlf12,pn120,pn121,rfl,hH⟩
theorem MatrixOfD_c {B:World} {H0 H:HP} {L:List SA} {w:World} {qad qaf:Option Addr} {cad caf:Nat} {ad:List Int} {af:List (List Term)} {n:Int} (had:Ints H qad ad) (haf:Forms H qaf af) (hn8:ad.length≤1048576) (hn9:af.length≤1048576) (hl9 : ∀i,i<af.length→(fm af i).length≤1048576) (hH:Hp B H0 H L w):Calls Try.prog 8 [.agg [.slice qad ad.length cad,.slice qaf af.length caf].toArray,.int .i64 n].toArray w fun e w'=>∃q c vs,e = .returned (.tuple #[.slice q (mdV ad af n).length c,.int .i64 (cdC ad af n)])∧Hp B H0 H (ownRs 22 2 q c vs (mdV ad af n)::L) w':=by
 refine Jv Try.func8 rfl 24 rfl rfl [(0,.agg [.slice qad ad.length cad,.slice qaf af.length caf].toArray),(1,.int .i64 n)] rfl hH ?_;have hw0:=hH.old;have hw1:=hH.le;clear hH;refine Je fun _ hK1 _=>(Jb (Ee rfl rfl rfl fun g2=>(J.freezeRow .z fun Hz2 hlez2 hcz2=>?_)));replace had:=had.le hlez2;replace haf:=haf.le hlez2;have pad:CellAt Hz2 g2 0 (.slice qad ad.length cad):=hcz2 0 _ rfl;have paf:CellAt Hz2 g2 1 (.slice qaf af.length caf):=hcz2 1 _ rfl;refine Jg (Jd rfl) rfl (Jg (Jd rfl) rfl (Jf (Ja (hK1 (Je fun _ hK2 _=>(Jb (Jg (Jc rfl) rfl (J.mk (MK.lit1I u22 ze2 sz2 rfl) rfl fun qo10 co10=>(J.fixA .z fun Ho10 hleo10 hAo10=>?_)))))))));replace had:=had.le hleo10;replace haf:=haf.le hleo10;replace pad:=pad.le hleo10;replace paf:=paf.le hleo10;have hxo10:=own_ints hAo10;have hco10:=own_le hAo10;refine JB fn22 rfl rfl fun w hH=>(asked_c pad paf had haf hxo10 hn8 hn9 hl9 (by simp) hH).mono ?_;rintro _ w ⟨Hf11,bn11,ln11,hlf11,pn110,pn111,rfl,hH⟩;refine ⟨_,rfl,fun a hF=>JT hF hH ?_⟩;replace had:=had.le hlf11;replace haf:=haf.le hlf11;replace pad:=pad.le hlf11;replace paf:=paf.le hlf11;replace hxo10:=hxo10.le hlf11;refine Jg (Jc rfl) rfl (Jg (JK rfl rfl) rfl (Jg (JK rfl rfl) rfl (Jg (Jd rfl) rfl (Jg (Jd rfl) rfl (Jf (Ja (hK2 (Je fun _ hK3 _=>(Je fun _ hK4 _=>(Jb (Jg (Jc rfl) rfl (Jg (Ej rfl rfl) rfl (Jf (Ja (hK4 (Jn rfl (fun h15=>?_) (fun h15=>?_)))))))))))))))))
 ·
  rw [asC_one] at h15 ⊢;refine Je fun _ hK5 _=>(Jb (Jg (Jc rfl) rfl (Jg (Jd rfl) rfl (Jg (Jd rfl) rfl (Jf (Ja (hK5 (Jq (Ji (Eu rfl (Res.tmp rfl) (Res.tmp rfl) fun w hH=>?_))))))))));replace hH:=hH.sublist (.cons _ (List.Sublist.refl _));rw [mdV_n h15];exact ⟨none,0,nilVs,rfl,(Hp.rsNil 22 2 (hH.own0 22 1)).weaken ((hlez2.trans hleo10).trans hlf11) hw0 hw1⟩
 ·
  rw [asC_one] at h15;have h0:cdC ad af n=0:=Decidable.not_not.1 h15;obtain ⟨hG,hnn,hft⟩:=cd_y h0;have hA:=isAlg_ok hG haf.wfss;have hd:=alg_112 hG;have h8:=hA.hn;have hom:=hom_of hG haf.wfss h8 hd (by omega) hft;have hmok:=matS_ok (n:=n) hA h8 hd;have hmlen:=matS_len ad af n;have hml:=monL_len ad n;have hml1:=monL_len ad (n+1)
  have hrl : ∀i,i<(matS ad af n).length→(rw_ (matS ad af n) i).length≤1048576:=fun i hi=>by have:=(hmok _ (rw_mem hi)).len;omega
  refine Jl (Ja (hK3 (Je fun _ hK6 _=>(Jb (Jg (Jc rfl) rfl (Jg (Jc rfl) rfl (JB fn24 rfl rfl fun w hH=>(withMatrix_c (n:=n) (X:=fun _=>False) pn110 pn111 pad paf had haf hd h8 (by omega) hA (fun h=>h) hft hom CpxOk.nil (Nxt.nil _) (hH.front .z)).mono ?_)))))));rintro _ w ⟨Hf19,ls19,⟨b19,p19,⟨ql19,kl19,cl19⟩,⟨qm19,km19,cm19⟩,⟨qz19,kz19,cz19⟩,⟨qy19,ky19,cy19⟩,⟨qx19,kx19,cx19⟩⟩,hlf19,hC19,hx19,hsub19,hN19,hk19,⟨hm19,hkp19⟩,rfl,hH⟩;refine ⟨_,rfl,fun a hF=>JT hF hH ?_⟩;obtain ⟨rfl,hmr19⟩:km19=(matS ad af n).length∧RowsR Hf19 qm19 (matS ad af n):=hm19;replace had:=had.le hlf19;replace haf:=haf.le hlf19;replace pad:=pad.le hlf19;replace paf:=paf.le hlf19;replace hxo10:=hxo10.le hlf19;replace pn110:=pn110.le hlf19;replace pn111:=pn111.le hlf19;refine Jg (JL rfl) rfl (Jg (Js u55 rfl sz27 rfl) rfl (Jg (PR.loadCx (b:=b19) (k:=2) (v:=.slice qm19 (matS ad af n).length cm19) rfl At.z hx19 rfl rfl pl27) rfl (JB fn23 rfl rfl fun w hH=>(copyRows_c hmr19 (by omega) hrl hH).mono ?_)));rintro _ w ⟨qo23,co23,vso23,rfl,hH⟩;refine ⟨_,rfl,fun a hF=>JT hF hH ?_⟩;refine Jg (Jd rfl) rfl (Jg (Jd rfl) rfl (Jf (Ja (hK6 (Jq (Eu rfl (Res.tmp rfl) (Res.tmp rfl) fun w hH=>?_))))));replace hH:=hH.sublist (.cons_cons _ (.cons _ (List.Sublist.refl _)));rw [mdV_y h0,h0];exact ⟨_,_,_,rfl,hH.weaken (((hlez2.trans hleo10).trans hlf11).trans hlf19) hw0 hw1⟩
theorem RankOfD_c {B:World} {H0 H:HP} {L:List SA} {w:World} {qad qaf:Option Addr} {cad caf:Nat} {ad:List Int} {af:List (List Term)} {n:Int} (had:Ints H qad ad) (haf:Forms H qaf af) (hn8:ad.length≤1048576) (hn9:af.length≤1048576) (hl9 : ∀i,i<af.length→(fm af i).length≤1048576) (hH:Hp B H0 H L w):Calls Try.prog 15 [.agg [.slice qad ad.length cad,.slice qaf af.length caf].toArray,.int .i64 n].toArray w fun e w'=>e = .returned (.tuple #[.int .i64 (rdV ad af n),.int .i64 (cdC ad af n)])∧Hp B H0 H L w':=by
 refine Jv Try.func15 rfl 24 rfl rfl [(0,.agg [.slice qad ad.length cad,.slice qaf af.length caf].toArray),(1,.int .i64 n)] rfl hH ?_;have hw0:=hH.old;have hw1:=hH.le;clear hH;refine Je fun _ hK1 _=>(Jb (Ee rfl rfl rfl fun g2=>(J.freezeRow .z fun Hz2 hlez2 hcz2=>?_)));replace had:=had.le hlez2;replace haf:=haf.le hlez2;have pad:CellAt Hz2 g2 0 (.slice qad ad.length cad):=hcz2 0 _ rfl;have paf:CellAt Hz2 g2 1 (.slice qaf af.length caf):=hcz2 1 _ rfl;refine Jg (Jd rfl) rfl (Jg (Jd rfl) rfl (Jf (Ja (hK1 (Je fun _ hK2 _=>(Jb (Jg (Jc rfl) rfl (J.mk (MK.lit1I u22 ze2 sz2 rfl) rfl fun qo10 co10=>(J.fixA .z fun Ho10 hleo10 hAo10=>?_)))))))));replace had:=had.le hleo10;replace haf:=haf.le hleo10;replace pad:=pad.le hleo10;replace paf:=paf.le hleo10;have hxo10:=own_ints hAo10;have hco10:=own_le hAo10;refine JB fn22 rfl rfl fun w hH=>(asked_c pad paf had haf hxo10 hn8 hn9 hl9 (by simp) hH).mono ?_;rintro _ w ⟨Hf11,bn11,ln11,hlf11,pn110,pn111,rfl,hH⟩;refine ⟨_,rfl,fun a hF=>JT hF hH ?_⟩;replace had:=had.le hlf11;replace haf:=haf.le hlf11;replace pad:=pad.le hlf11;replace paf:=paf.le hlf11;replace hxo10:=hxo10.le hlf11;refine Jg (Jc rfl) rfl (Jg (JK rfl rfl) rfl (Jg (JK rfl rfl) rfl (Jg (Jd rfl) rfl (Jg (Jd rfl) rfl (Jf (Ja (hK2 (Je fun _ hK3 _=>(Je fun _ hK4 _=>(Jb (Jg (Jc rfl) rfl (Jg (Ej rfl rfl) rfl (Jf (Ja (hK4 (Jn rfl (fun h15=>?_) (fun h15=>?_)))))))))))))))))
 ·
  rw [asC_one] at h15 ⊢;refine Je fun _ hK5 _=>(Jb (Jg (Jc rfl) rfl (Jg (Jd rfl) rfl (Jg (Jd rfl) rfl (Jf (Ja (hK5 (Jq (Ji (Eu rfl (Res.tmp rfl) (Res.tmp rfl) fun w hH=>?_))))))))));replace hH:=hH.tail;exact ⟨tup_jj (rdV_n h15).symm rfl,hH.weaken ((hlez2.trans hleo10).trans hlf11) hw0 hw1⟩
 ·
  rw [asC_one] at h15;have h0:cdC ad af n=0:=Decidable.not_not.1 h15;obtain ⟨hG,hnn,hft⟩:=cd_y h0;have hA:=isAlg_ok hG haf.wfss;have hd:=alg_112 hG;have h8:=hA.hn;have hom:=hom_of hG haf.wfss h8 hd (by omega) hft;have hmok:=matS_ok (n:=n) hA h8 hd;have hmlen:=matS_len ad af n;have hml:=monL_len ad n;have hml1:=monL_len ad (n+1)
  have hrl : ∀i,i<(matS ad af n).length→(rw_ (matS ad af n) i).length≤1048576:=fun i hi=>by have:=(hmok _ (rw_mem hi)).len;omega
  refine Jl (Ja (hK3 (Je fun _ hK6 _=>(Jb (Jg (Jc rfl) rfl (Jg (Jc rfl) rfl (JB fn24 rfl rfl fun w hH=>(withMatrix_c (n:=n) (X:=fun _=>False) pn110 pn111 pad paf had haf hd h8 (by omega) hA (fun h=>h) hft hom CpxOk.nil (Nxt.nil _) (hH.front .z)).mono ?_)))))));rintro _ w ⟨Hf19,ls19,⟨b19,p19,⟨ql19,kl19,cl19⟩,⟨qm19,km19,cm19⟩,⟨qz19,kz19,cz19⟩,⟨qy19,ky19,cy19⟩,⟨qx19,kx19,cx19⟩⟩,hlf19,hC19,hx19,hsub19,hN19,hk19,⟨hm19,hkp19⟩,rfl,hH⟩;refine ⟨_,rfl,fun a hF=>JT hF hH ?_⟩;obtain ⟨rfl,hmr19⟩:km19=(matS ad af n).length∧RowsR Hf19 qm19 (matS ad af n):=hm19;replace had:=had.le hlf19;replace haf:=haf.le hlf19;replace pad:=pad.le hlf19;replace paf:=paf.le hlf19;replace hxo10:=hxo10.le hlf19;replace pn110:=pn110.le hlf19;replace pn111:=pn111.le hlf19;refine Jg (JL rfl) rfl (Jg (Js u55 rfl sz27 rfl) rfl (Jg (PR.loadCx (b:=b19) (k:=2) (v:=.slice qm19 (matS ad af n).length cm19) rfl At.z hx19 rfl rfl pl27) rfl (JB fn31 rfl rfl fun w hH=>(rankOf_c (W:=(monL ad (n+1)).length) hmr19 hmok (by omega) (by omega) hH).mono ?_)));rintro _ w ⟨rfl,hH⟩;refine ⟨_,rfl,fun a hF=>JT hF hH ?_⟩;refine Jg (Jd rfl) rfl (Jg (Jd rfl) rfl (Jf (Ja (hK6 (Jq (Eu rfl (Res.tmp rfl) (Res.tmp rfl) fun w hH=>?_))))));replace hH:=hH.tail;exact ⟨tup_jj (by rw [rdV_y h0];unfold rkS;first | rw [if_pos (by omega)] | rw [if_neg (by omega)] | rfl) h0.symm,hH.weaken (((hlez2.trans hleo10).trans hlf11).trans hlf19) hw0 hw1⟩
theorem sMatrixOfD_c {B:World} {H0 H:HP} {L:List SA} {w:World} {qad qaf:Option Addr} {cad caf:Nat} {ad:List Int} {af:List (List Term)} {n:Int} (had:Ints H qad ad) (haf:Forms H qaf af) (hn8:ad.length≤1048576) (hn9:af.length≤1048576) (hl9 : ∀i,i<af.length→(fm af i).length≤1048576) (hH:Hp B H0 H L w):Calls Try.prog 6 [.agg [.slice qad ad.length cad,.slice qaf af.length caf].toArray,.int .i64 n].toArray w fun e w'=>∃H' q c,Le H H' ∧RowsR H' q (mdV ad af n)∧(mdV ad af n).length≤c∧e = .returned (.tuple #[.slice q (mdV ad af n).length c,.int .i64 (cdC ad af n)])∧Hp B H0 H' L w':=by
 refine Jv Try.func6 rfl 16 rfl rfl [(0,.agg [.slice qad ad.length cad,.slice qaf af.length caf].toArray),(1,.int .i64 n)] rfl hH ?_;have hw0:=hH.old;have hw1:=hH.le;clear hH;refine Je fun _ hK1 _=>(Jb (Ee rfl rfl rfl fun g2=>(Jg (Jd rfl) rfl (Jg (Jd rfl) rfl (Jf (Ja (hK1 (Je fun _ hK2 _=>(Je fun _ hK3 _=>(Jb (Jg (JA rfl At.z (by simpa [*] using ag32)) rfl (Jg (Jc rfl) rfl (JB fn18 rfl rfl fun w hH=>(l03Code_c had haf (by omega) (by omega) hl9 hH).mono ?_)))))))))))));rintro _ w ⟨rfl,hH⟩;refine ⟨_,rfl,fun a hF=>JT hF hH ?_⟩;refine Jg (Jd rfl) rfl (Jf (Ja (hK3 (Je fun _ hK4 _=>(Jb (Jg (Jc rfl) rfl (Jg (Ej rfl rfl) rfl (Jf (Ja (hK4 (Jn rfl (fun h11=>?_) (fun h11=>?_))))))))))))
 ·
  refine Je fun _ hK5 _=>(Jb (Jg (Jc rfl) rfl (Jg (Jd rfl) rfl (Jg (Jd rfl) rfl (Jf (Ja (hK5 (Jq (Ji (Eu rfl (Res.tmp rfl) (Res.tmp rfl) fun w hH=>?_))))))))));replace hH:=hH.tail;rw [mdV_n h11];exact ⟨_,none,0,(Le.refl _),RowsR.nil _ _,Nat.zero_le _,rfl,hH⟩
 ·
  have h0:cdC ad af n=0:=Decidable.not_not.1 h11;obtain ⟨hG,hnn,hft⟩:=cd_y h0;have hA:=isAlg_ok hG haf.wfss;have hd:=alg_112 hG;have h8:=hA.hn;have hom:=hom_of hG haf.wfss h8 hd (by omega) hft;have hmok:=matS_ok (n:=n) hA h8 hd;have hmlen:=matS_len ad af n;have hml:=monL_len ad n;have hml1:=monL_len ad (n+1)
  have hrl : ∀i,i<(matS ad af n).length→(rw_ (matS ad af n) i).length≤1048576:=fun i hi=>by have:=(hmok _ (rw_mem hi)).len;omega
  refine Jl (Ja (hK2 (Je fun _ hK6 _=>(Jb (Jg (JA rfl At.z (by simpa [*] using ag32)) rfl (Jg (Jc rfl) rfl (JB fn19 rfl rfl fun w hH=>(l03Matrix_c had haf hd h8 (by omega) hA hft hom hH).mono ?_)))))));rintro _ w ⟨Hf15,qf15,cf15,hlf15,hI15,hcc15,rfl,hH⟩;refine ⟨_,rfl,fun a hF=>JT hF hH ?_⟩;replace had:=had.le hlf15;replace haf:=haf.le hlf15;refine Jg (Jd rfl) rfl (Jg (Jd rfl) rfl (Jf (Ja (hK6 (Jq (Eu rfl (Res.tmp rfl) (Res.tmp rfl) fun w hH=>?_))))));replace hH:=hH.tail;rw [mdV_y h0,h0];exact ⟨_,_,_,hlf15,hI15,hcc15,rfl,hH⟩
theorem sRankOfD_c {B:World} {H0 H:HP} {L:List SA} {w:World} {qad qaf:Option Addr} {cad caf:Nat} {ad:List Int} {af:List (List Term)} {n:Int} (had:Ints H qad ad) (haf:Forms H qaf af) (hn8:ad.length≤1048576) (hn9:af.length≤1048576) (hl9 : ∀i,i<af.length→(fm af i).length≤1048576) (hH:Hp B H0 H L w):Calls Try.prog 14 [.agg [.slice qad ad.length cad,.slice qaf af.length caf].toArray,.int .i64 n].toArray w fun e w'=>e = .returned (.tuple #[.int .i64 (rdV ad af n),.int .i64 (cdC ad af n)])∧Hp B H0 H L w':=by
 refine Jv Try.func14 rfl 16 rfl rfl [(0,.agg [.slice qad ad.length cad,.slice qaf af.length caf].toArray),(1,.int .i64 n)] rfl hH ?_;have hw0:=hH.old;have hw1:=hH.le;clear hH;refine Je fun _ hK1 _=>(Jb (Ee rfl rfl rfl fun g2=>(Jg (Jd rfl) rfl (Jg (Jd rfl) rfl (Jf (Ja (hK1 (Je fun _ hK2 _=>(Je fun _ hK3 _=>(Jb (Jg (JA rfl At.z (by simpa [*] using ag32)) rfl (Jg (Jc rfl) rfl (JB fn18 rfl rfl fun w hH=>(l03Code_c had haf (by omega) (by omega) hl9 hH).mono ?_)))))))))))));rintro _ w ⟨rfl,hH⟩;refine ⟨_,rfl,fun a hF=>JT hF hH ?_⟩;refine Jg (Jd rfl) rfl (Jf (Ja (hK3 (Je fun _ hK4 _=>(Jb (Jg (Jc rfl) rfl (Jg (Ej rfl rfl) rfl (Jf (Ja (hK4 (Jn rfl (fun h11=>?_) (fun h11=>?_))))))))))))
 ·
  refine Je fun _ hK5 _=>(Jb (Jg (Jc rfl) rfl (Jg (Jd rfl) rfl (Jg (Jd rfl) rfl (Jf (Ja (hK5 (Jq (Ji (Eu rfl (Res.tmp rfl) (Res.tmp rfl) fun w hH=>?_))))))))));replace hH:=hH.tail;exact ⟨tup_jj (rdV_n h11).symm rfl,hH⟩
 ·
  have h0:cdC ad af n=0:=Decidable.not_not.1 h11;obtain ⟨hG,hnn,hft⟩:=cd_y h0;have hA:=isAlg_ok hG haf.wfss;have hd:=alg_112 hG;have h8:=hA.hn;have hom:=hom_of hG haf.wfss h8 hd (by omega) hft;have hmok:=matS_ok (n:=n) hA h8 hd;have hmlen:=matS_len ad af n;have hml:=monL_len ad n;have hml1:=monL_len ad (n+1)
  have hrl : ∀i,i<(matS ad af n).length→(rw_ (matS ad af n) i).length≤1048576:=fun i hi=>by have:=(hmok _ (rw_mem hi)).len;omega
  refine Jl (Ja (hK2 (Je fun _ hK6 _=>(Jb (Jg (JA rfl At.z (by simpa [*] using ag32)) rfl (Jg (Jc rfl) rfl (JB fn30 rfl rfl fun w hH=>(l03Rank_c had haf hG (by omega) (fun _=>hft) hH).mono ?_)))))));rintro _ w ⟨rfl,hH⟩;refine ⟨_,rfl,fun a hF=>JT hF hH ?_⟩;refine Jg (Jd rfl) rfl (Jg (Jd rfl) rfl (Jf (Ja (hK6 (Jq (Eu rfl (Res.tmp rfl) (Res.tmp rfl) fun w hH=>?_))))));replace hH:=hH.tail;exact ⟨tup_jj (rdV_y h0).symm h0.symm,hH⟩
theorem ag25:Agg Try.prog 25 2:=⟨_,u25,rfl,by kernel_rfl⟩
theorem fn10:Fn Try.prog 10:=⟨_,Try.func10,by kernel_rfl,rfl⟩
theorem fn14:Fn Try.prog 14:=⟨_,Try.func14,by kernel_rfl,rfl⟩
theorem fn15:Fn Try.prog 15:=⟨_,Try.func15,by kernel_rfl,rfl⟩
theorem fn5:Fn Try.prog 5:=⟨_,Try.func5,by kernel_rfl,rfl⟩
theorem fn7:Fn Try.prog 7:=⟨_,Try.func7,by kernel_rfl,rfl⟩
theorem lawRankOfD_c {B:World} {H0 H:HP} {L:List SA} {w:World} {qad qaf:Option Addr} {cad caf:Nat} {ad:List Int} {af:List (List Term)} {n:Int} (had:Ints H qad ad) (haf:Forms H qaf af) (hn:ad.length≤9223372036854775807∧af.length≤9223372036854775807) (hl : ∀i,i<af.length→(fm af i).length≤9223372036854775807) (hH:Hp B H0 H L w):Calls Try.prog 4 [.agg [.slice qad ad.length cad,.slice qaf af.length caf].toArray,.int .i64 n].toArray w fun e w'=>e = .returned (.bool true)∧Below B.heap.size B w':=by
 refine Jv Try.func4 rfl 44 rfl rfl [(0,.agg [.slice qad ad.length cad,.slice qaf af.length caf].toArray),(1,.int .i64 n)] rfl hH ?_;clear hH;refine Je fun _ hK1 _=>(Jb (Ee rfl rfl rfl fun g2=>(Jg (Jd rfl) rfl (Jf (Ja (hK1 (Je fun _ hK2 _=>(Jb (Jg (Jd rfl) rfl (Jf (Ja (hK2 (Je fun _ hK3 _=>(Jb (Jg (JA rfl At.z (by simpa [*] using ag25)) rfl (Jg (Jc rfl) rfl ?_))))))))))))))));refine JB fn5 rfl rfl fun w hH=>(szAlgebra_c had haf (by omega) hl hH).mono ?_;rintro _ w ⟨rfl,hH⟩;refine ⟨_,rfl,fun a hF=>JT hF hH ?_⟩;refine Jg (Jd rfl) rfl (Jf (Ja (hK3 (Je fun _ hK4 _=>(Je fun _ hK5 _=>(Jb (Jg (Jc rfl) rfl (Jg (JP rfl rfl) rfl (Jf (Ja (hK5 (Jn rfl (fun h11=>?_) (fun h11=>?_)))))))))))))
 ·
  refine Je fun _ hK6 _=>(Jb (Jg (Jd rfl) rfl (Jf (Ja (hK6 (Jq (Ji (Jp rfl (Res.tmp rfl) fun w hH=>?_))))))));replace hH:=hH.tail
  first | exact ⟨rfl,hH.below⟩ | exact absurd rfl h11p | exact absurd rfl h11 | (exfalso;omega) | (simp at h11;done)
 ·
  have hsz:ad.length+af.length+tot af≤1048576:=by unfold szv at h11;split at h11 <;> omega
  have hl6 : ∀i,i<af.length→(fm af i).length≤1048576:=fun i hi=>by have:=tot_fm hi;omega
  refine Jl (Ja (hK4 (Je fun _ hK7 _=>(Jb (Jg (JA rfl At.z (by simpa [*] using ag25)) rfl (JB fn7 rfl rfl fun w hH=>(toAlgebra_c had haf (by omega) hl6 hH).mono ?_))))));rintro _ w ⟨qdo18,cdo18,qfo18,cfo18,vso18,rfl,hH⟩;refine ⟨_,rfl,fun a hF=>JT hF hH ?_⟩;refine Jg (Jc rfl) rfl (JB fn14 rfl rfl fun w hH=>hH.lend .z fun Hl1 hle1 hA1 hB1 hH=>hH.lend .z fun Hl2 hle2 hA2 hB2 hH=>(sRankOfD_c ((own_ints hA1).le hle2) (own_forms haf.wfss hA2) (by omega) (by omega) hl6 hH).mono ?_);rintro _ w ⟨rfl,hH⟩;replace hH:=hB2 _ _ hH;replace hH:=hB1 _ _ hH;refine ⟨_,rfl,fun a hF=>JT hF hH ?_⟩;refine Jg (Jc rfl) rfl (Jg (JK rfl rfl) rfl (Jg (JK rfl rfl) rfl (Jg (Jd rfl) rfl (Jg (Jd rfl) rfl (Jf (Ja (hK7 (Je fun _ hK8 _=>(Jb (Jg (JA rfl (.s (.s .z)) (by simpa [*] using ag25)) rfl (JB fn7 rfl rfl fun w hH=>(toAlgebra_c had haf (by omega) hl6 hH).mono ?_)))))))))));rintro _ w ⟨qdo24,cdo24,qfo24,cfo24,vso24,rfl,hH⟩;refine ⟨_,rfl,fun a hF=>JT hF hH ?_⟩;refine JW ze32 rfl fun g8=>(JH rfl rfl (by first | exact bytesC_one _ | exact intsC_one _ | exact Term.c_one _ | simp [Value.oneCell']) (by simpa [*] using sz32) (by simp [*]) At.z (Jf (Ja (hK8 (Je fun _ hK9 _=>(Jb (Jg (JA rfl At.z (by simpa [*] using ag32)) rfl (Jg (Jc rfl) rfl (JB fn15 rfl rfl fun w hH=>hH.lend (.s .z) fun Hl1 hle1 hA1 hB1 hH=>hH.lend (.s .z) fun Hl2 hle2 hA2 hB2 hH=>(RankOfD_c ((own_ints hA1).le hle2) (own_forms haf.wfss hA2) (by omega) (by omega) hl6 hH).mono ?_)))))))));rintro _ w ⟨rfl,hH⟩;replace hH:=hB2 _ _ hH;replace hH:=hB1 _ _ hH;refine ⟨_,rfl,fun a hF=>JT hF hH ?_⟩;refine Jg (Jc rfl) rfl (Jg (JK rfl rfl) rfl (Jg (JK rfl rfl) rfl (Jg (Jd rfl) rfl (Jg (Jd rfl) rfl (Jf (Ja (hK9 (Je fun _ hK10 _=>(Je fun _ hK11 _=>(Jb (Jg (Jc rfl) rfl (Jg (Jc rfl) rfl (Jg (Ej rfl rfl) rfl (Jg (Jc rfl) rfl (Eg (jd:=34) rfl (fun hg34=>?_) (fun hg34=>?_))))))))))))))))
  ·
   try have hg34p:=of_decide_eq_true hg34
   refine JQ rfl rfl rfl hg34 (JQ rfl rfl rfl hg34 (JQ rfl rfl rfl hg34 (Jg (JZ rfl hg34 rfl) rfl (Jf (Ja (hK11 (Ev rfl (Je fun _ hK12 _=>(Jb (Jg (Jd rfl) rfl (Jf (Ja (hK12 (Jq (Ji (Jp rfl (Res.tmp rfl) fun w hH=>?_))))))))))))))));replace hH:=hH.tail;replace hH:=hH.tail;replace hH:=hH.tail;replace hH:=hH.tail;replace hH:=hH.tail;replace hH:=hH.tail
   first | exact ⟨rfl,hH.below⟩ | exact absurd rfl hg34p | exact absurd rfl hg34 | (exfalso;omega) | (simp at hg34;done)
  ·
   try have hg34p:=of_decide_eq_false hg34
   refine JX (Jc rfl) rfl rfl rfl hg34 (JX (Jc rfl) rfl rfl rfl hg34 (JX (Ej rfl rfl) rfl rfl rfl hg34 (Jg (JY rfl hg34 rfl) rfl (Jf (Ja (hK11 (Jn rfl (fun hc38=>?_) (fun hc38=>?_))))))))
   ·
    refine Je fun _ hK13 _=>(Jb (Jg (Jd rfl) rfl (Jf (Ja (hK13 (Jq (Ji (Jp rfl (Res.tmp rfl) fun w hH=>?_))))))));replace hH:=hH.tail;replace hH:=hH.tail;replace hH:=hH.tail;replace hH:=hH.tail;replace hH:=hH.tail;replace hH:=hH.tail
    first | exact ⟨rfl,hH.below⟩ | exact absurd rfl hc38p | exact absurd rfl hc38 | (exfalso;omega) | (simp at hc38;done)
   ·
    refine Jl (Ja (hK10 (Je fun _ hK14 _=>(Je fun _ hK15 _=>(Es (Rs:=[_,_,_,_,_,_]) 5 [[], [], [1], [0,1,2], [0,1,2,3]] [[7], [10], [], [2,5,6], []] [[], [], [], [], []] rfl rfl (by kernel_rfl) ?_)))));apply Jr 1 rfl
    iterate 3 focus (intros;(conv=>lhs;simp only [Jh,Ju,JV,Jx,JJ,eq_self,Nat.reduceEqDiff,reduceIte,Nat.reduceSub,Nat.reduceAdd,List.cons_append,List.nil_append]);all_goals rfl)
    ·
     intro gh X K zq zc zq2 zc2 zb zv hK;refine Jg (JA rfl At.z (by simpa [*] using ag32)) rfl (Jj ?_);exact hK zq zc zq2 zc2 zb zv
    ·
     intro gh gh' h
     rfl
    apply Jr 2 rfl
    iterate 3 focus (intros;(conv=>lhs;simp only [Jh,Ju,JV,Jx,JJ,eq_self,Nat.reduceEqDiff,reduceIte,Nat.reduceSub,Nat.reduceAdd,List.cons_append,List.nil_append]);all_goals rfl)
    ·
     intro gh X K zq zc zq2 zc2 zb zv hK;refine Jg (JA rfl At.z (by simpa [*] using ag25)) rfl (Jj ?_);exact hK zq zc zq2 zc2 zb zv
    ·
     intro gh gh' h
     rfl
    apply GJ.st2 3 rfl
    iterate 3 focus (intros;(conv=>lhs;simp only [Jh,Ju,JV,Jx,JJ,eq_self,Nat.reduceEqDiff,reduceIte,Nat.reduceSub,Nat.reduceAdd,List.cons_append,List.nil_append]);all_goals rfl)
    ·
     intro gh X K zq zc zq2 zc2 zb zv hK;refine JB fn7 rfl rfl fun w hH=>(toAlgebra_c had haf (by omega) hl6 hH).mono ?_;rintro _ w ⟨qdo41,cdo41,qfo41,cfo41,vso41,rfl,hH⟩;refine ⟨_,rfl,fun a hF=>JT hF hH ?_⟩;refine Jj ?_;exact hK qdo41 cdo41 qfo41 cfo41 zb vso41
    ·
     intro gh gh' h;refine ⟨?_,?_,?_⟩ <;> rfl
    apply Jr 4 rfl
    iterate 3 focus (intros;(conv=>lhs;simp only [Jh,Ju,JV,Jx,JJ,eq_self,Nat.reduceEqDiff,reduceIte,Nat.reduceSub,Nat.reduceAdd,List.cons_append,List.nil_append]);all_goals rfl)
    ·
     intro gh X K zq zc zq2 zc2 zb zv hK;refine JB fn10 rfl rfl fun w hH=>hH.lend (.s (.s .z)) fun Hl1 hle1 hA1 hB1 hH=>hH.lend (.s (.s .z)) fun Hl2 hle2 hA2 hB2 hH=>hH.lend .z fun Hl3 hle3 hA3 hB3 hH=>hH.lend .z fun Hl4 hle4 hA4 hB4 hH=>(eqAlgebra_c ((((own_ints hA1).le hle2).le hle3).le hle4) (((own_forms haf.wfss hA2).le hle3).le hle4) ((own_ints hA3).le hle4) (own_forms haf.wfss hA4) (by omega) (by omega) hl hH).mono ?_;rintro _ w ⟨rfl,hH⟩;replace hH:=hB4 _ _ hH;replace hH:=hB3 _ _ hH;replace hH:=hB2 _ _ hH;replace hH:=hB1 _ _ hH;refine ⟨_,rfl,fun a hF=>JT hF hH ?_⟩;refine Jw (.s .z) (Jw (.s .z) (Jw (.s (.s (.s .z))) (Jw (.s (.s (.s .z))) (Jj ?_))));exact hK zq zc zq2 zc2 zb zv
    ·
     intro gh gh' h
     first | simp only [h 2 rfl] | rfl
    apply Jr 5 rfl
    iterate 3 focus (intros;(conv=>lhs;simp only [Jh,Ju,JV,Jx,JJ,eq_self,Nat.reduceEqDiff,reduceIte,Nat.reduceSub,Nat.reduceAdd,List.cons_append,List.nil_append]);all_goals rfl)
    ·
     intro gh X K zq zc zq2 zc2 zb zv hK;refine Jg (El rfl) rfl (Jj ?_);exact hK zq zc zq2 zc2 zb zv
    ·
     intro gh gh' h
     first | simp only [h 2 rfl] | rfl
    apply Et [0,1,2,3,4] [0,1,2,3,4,5,6,7,8,9,10] foll0 rfl rfl rfl (by rfl)
    iterate 2 focus (intros;(conv=>lhs;simp only [Jh,Ju,JV,Jx,JJ,eq_self,Nat.reduceEqDiff,reduceIte,Nat.reduceSub,Nat.reduceAdd,List.cons_append,List.nil_append]);all_goals rfl)
    intro gh;generalize (gh 2).c=cdo41;generalize (gh 2).c2=cfo41;generalize (gh 2).q=qdo41;generalize (gh 2).q2=qfo41;generalize (gh 2).vs=vso41;clear gh;refine Ja (hK15 (Eh rfl (fun hc43=>?_) (fun hc43=>?_)))
    ·
     refine Je fun _ hK16 _=>(Jb (Jg (Jd rfl) rfl (Jf (Ja (hK16 (Jq (Ji (Jp rfl (Res.tmp rfl) fun w hH=>?_))))))));replace hH:=hH.tail;replace hH:=hH.tail;replace hH:=hH.tail;replace hH:=hH.tail;replace hH:=hH.tail;replace hH:=hH.tail;replace hH:=hH.tail;replace hH:=hH.tail
     first | exact ⟨rfl,hH.below⟩ | exact absurd rfl hc43p | exact absurd rfl hc43 | (exfalso;omega) | (simp at hc43;done)
    ·
     refine Jl (Ja (hK14 (Je fun _ hK17 _=>(Jb (Jg (Jd rfl) rfl (Jf (Ja (hK17 (Jq (Jp rfl (Res.tmp rfl) fun w hH=>?_))))))))));replace hH:=hH.tail;replace hH:=hH.tail;replace hH:=hH.tail;replace hH:=hH.tail;replace hH:=hH.tail;replace hH:=hH.tail;replace hH:=hH.tail;replace hH:=hH.tail
     first | exact ⟨rfl,hH.below⟩ | exact absurd rfl hc43p | exact absurd rfl hc43 | (exfalso;omega) | (simp at hc43;done)
end Go.Proofs.Ythenedanhcnccaa.G
namespace Go.Proofs.Ythenedanhcnccaa.fnExactRankOfD
open Go.ChangeShapes Go.WideShapes Go.ChangeAt Go.RowKit
open Go.Proofs.Ythenedanhcnccaa.G
theorem u25:Try.prog.underlying 25=some (TypeDesc.struct #[{name:="Degrees",type:=22,offset:=0,embedded:=false,tag:="",pkgPath:="",byteOffset:=0},{name:="Images",type:=23,offset:=1,embedded:=false,tag:="",pkgPath:="",byteOffset:=24}]):=by kernel_rfl
theorem u22:Try.prog.underlying 22=some (TypeDesc.slice 2):=by kernel_rfl
theorem u2:Try.prog.underlying 2=some (TypeDesc.int .i64):=by kernel_rfl
theorem u23:Try.prog.underlying 23=some (TypeDesc.slice 65):=by kernel_rfl
theorem u65:Try.prog.underlying 65=some (TypeDesc.struct #[{name:="Terms",type:=63,offset:=0,embedded:=false,tag:="",pkgPath:="",byteOffset:=0}]):=by kernel_rfl
theorem u63:Try.prog.underlying 63=some (TypeDesc.slice 129):=by kernel_rfl
theorem u129:Try.prog.underlying 129=some (TypeDesc.struct #[{name:="Monomial",type:=77,offset:=0,embedded:=false,tag:="",pkgPath:="",byteOffset:=0},{name:="Factor",type:=2,offset:=8,embedded:=false,tag:="",pkgPath:="",byteOffset:=8}]):=by kernel_rfl
theorem u77:Try.prog.underlying 77=some (TypeDesc.array 8 5):=by kernel_rfl
theorem u5:Try.prog.underlying 5=some (TypeDesc.int .u8):=by kernel_rfl
theorem u4:Try.prog.underlying 4=some (TypeDesc.bool):=by kernel_rfl
theorem own:ownKnob Try.prog.godebug=none:=by kernel_rfl
theorem lifted (os:Os) (started:os.Started) (H:Type) (enc:TypeId × Value→H):ReturnsInHanded {} Try.checked os 4 .any (Rows.fnExactRankOfDSpec.pre6 enc Try.prog Try.f4 Rows.fnExactRankOfDRow.domain false) (Rows.fnExactRankOfDSpec.post enc Try.prog Try.f4 false true false false):=by
 refine returnsInHanded_of_change_sized (C:=Try.checked) own started (by kernel_rfl) Try.func4
  (ChangeSpec.witness6 (enc:=enc) (C:=Try.checked) false ⟨#[],#[.agg #[.slice none 0 0,.slice none 0 0],.int .i64 0], []⟩ 12 (by kernel_rfl) (by kernel_rfl) (by kernel_rfl) (by kernel_rfl)) ?_
 intro W base args ds gs before hval0 hW hcnd hsz0 _;have hval : ∀(j:Nat) t v,Try.f4.params[j]? = some t→args[j]? = some v→Value.okWide Try.prog W .any base t v:=hval0;have hW':=hW;obtain ⟨p,q,hA0,hV,rfl,hfz,hnd⟩:=hW;have hA:DataW.TrodAll enc Try.prog W 0 (fun _=>true) true Try.f4.params.toList args.toList ds p:=hA0;rw [Try.params4] at hA hval;obtain ⟨v0,JV,d0,ds0,p0,q0,hargs,rfl,rfl,h0,r0⟩:=trodAll_cons hA;obtain ⟨v1,vs1,d1,ds1,p1,q1,rfl,rfl,rfl,h1,r1⟩:=trodAll_cons r0;obtain ⟨rfl,rfl,rfl⟩:=trodAll_nil r1
 obtain rfl:args = #[v0,v1]:=by cases args;simp_all
 obtain ⟨rfl,rfl⟩:=trodVars_none hV;obtain ⟨q0d,c0d,ds0,q0f,c0f,fs0,rfl,X0,F0,le0,fl0⟩:=openV_alg u25 rfl rfl rfl rfl (by kernel_rfl) (by kernel_rfl) (by kernel_rfl) u22 u2 (by kernel_rfl) u23 (by kernel_rfl) (fun n l y hy=>tr_form u65 rfl rfl (by kernel_rfl) (by kernel_rfl) u63 (by kernel_rfl) u129 rfl rfl rfl rfl u77 u5 (by kernel_rfl) (by kernel_rfl) u2 (by kernel_rfl) hy) (hval 0 25 v0 rfl rfl) h0;obtain ⟨a1,rfl,lo1,hi1⟩:=openV_int u2 (hval 1 2 v1 rfl rfl) h1;clear hA0 hval0 hsz0;refine ((lawRankOfD_c X0 F0 le0 fl0 (Hp.start (H:=hp W) fun _ _ h=>h)).mono fun e W' ⟨he,bel⟩=>?_);subst he;exact ⟨_,rfl,law_post (f:=Try.f4) (by kernel_rfl) (by kernel_rfl) rfl rfl u4 rfl hW' bel⟩
theorem joined:joinedFacts Try.prog 4 Try.f4 Rows.fnExactRankOfDSpec Rows.fnExactRankOfDRow=true:=by
 unfold joinedFacts;simp only [Bool.and_eq_true]
 repeat' apply And.intro
 all_goals first
  | with_reducible exact Facts.fEnter
  | with_reducible exact Facts.fLaid
  | with_reducible exact Facts.fMaps
  | with_reducible exact Facts.fHeard
  | (rw [Facts.fMake];rfl)
  | (rw [Facts.fLift];rfl)
  | (rw [Facts.fKeys];rfl)
  | (rw [Facts.fStops];rfl)
  | (rw [Facts.fStopK];rfl)
  | as_aux_lemma=>kernel_rfl
theorem over:Rows.fnExactRankOfDRow.holds Try.pinned (OpenSpec.ofChange Rows.fnExactRankOfDSpec):=
 OpenClaim.holds_of_wide 4 Try.f4 rfl rfl rfl rfl rfl rfl rfl ⟨rfl,rfl,rfl,rfl,rfl⟩ rfl rfl rfl rfl rfl (by as_aux_lemma=>kernel_rfl) Try.func4 joined
  (of_decide_eq_true (by as_aux_lemma=>kernel_rfl)) (by unfold Func.isWrapper;first | (rw [if_pos (by decide +kernel)];kernel_rfl) | (rw [if_neg (by decide +kernel)];exact ⟨rfl,rfl⟩))
  (fun os started H enc _=>lifted os started H enc)
theorem proved:Rows.FnExactRankOfDSaid:=over
#print axioms proved
end Go.Proofs.Ythenedanhcnccaa.fnExactRankOfD
namespace Go.Proofs.Ythenedanhcnccaa
theorem fnExactRankOfD_holds:Rows.FnExactRankOfDSaid:=fnExactRankOfD.proved
end Go.Proofs.Ythenedanhcnccaa
