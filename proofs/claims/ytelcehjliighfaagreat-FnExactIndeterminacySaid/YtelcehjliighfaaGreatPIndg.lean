/- A part of the walk of one law: what the functions compute. No condition. -/
import Derived.Test.YtelcehjliighfaaGreatRows
import Derived.Test.YtelcehjliighfaaGreatProg
import Derived.WalkKit
import Derived.KernelRfl
import Derived.JoinedOf
import Derived.Maps.AppendAt
import Derived.Still
import Derived.ProofKit
import Derived.OpenShut
import Derived.StillTail
import Derived.Deep.Upon
import Derived.WalkSpells
import Derived.Maps.Range
import Derived.DeepKeys4
import Derived.Maps.Keyed
import Derived.ChangeOld
import Derived.Below
import Derived.SizedLaws
import Derived.Test.YtelcehjliighfaaGreatPIndf
set_option linter.unusedVariables false
set_option linter.unusedSimpArgs false
set_option maxRecDepth 10000
set_option maxHeartbeats 8000000
open Nat (reduceEqDiff reduceSub reduceAdd)
namespace Go.Proofs.YtelcehjliighfaaGreat.G
open Go Go.RowKit
theorem eg105:Tryz.prog.eqGuardType Tryz.prog.depth 105=false:=by kernel_rfl
def vec:List Term→List Pw→List Int
 | _, []=>[]
 | [],_::ps=>0::vec [] ps
 | t::ts,p::ps=>if t.mono=p then t.fac::vec ts ps else 0::vec (t::ts) ps
theorem vec_nil : ∀ps:List Pw,vec [] ps=List.replicate ps.length 0
 | []=>rfl
 | p::ps=>by rw [vec,vec_nil ps];rfl
theorem vec_end (f:List Term):vec f []=[]:=by cases f <;> rfl
theorem tm_drop {f:List Term} {j:Nat} (hj:j<f.length):f.drop j=tm f j::f.drop (j+1):=by
 rw [List.drop_eq_getElem_cons hj]
 simp [tm,List.getD_eq_getElem?_getD,List.getElem?_eq_getElem hj]
theorem rw_drop1 {ps:List Pw} {k:Nat} (hk:k<ps.length):ps.drop k=rw_ ps k::ps.drop (k+1):=by
 rw [List.drop_eq_getElem_cons hk]
 simp [rw_,List.getD_eq_getElem?_getD,List.getElem?_eq_getElem hk]
theorem vec_yes {f:List Term} {ps:List Pw} {j k:Nat} (hj:j<f.length) (hk:k<ps.length) (h:(tm f j).mono=rw_ ps k):vec (f.drop j) (ps.drop k)=(tm f j).fac::vec (f.drop (j+1)) (ps.drop (k+1)):=by
 rw [tm_drop hj,rw_drop1 hk,vec,if_pos h]
theorem vec_no {f:List Term} {ps:List Pw} {j k:Nat} (hj:j<f.length) (hk:k<ps.length) (h : ¬(tm f j).mono=rw_ ps k):vec (f.drop j) (ps.drop k)=0::vec (f.drop j) (ps.drop (k+1)):=by
 rw [tm_drop hj,rw_drop1 hk,vec,if_neg h]
theorem vec_out1 {f:List Term} {ps:List Pw} {A:List Int} {j k:Nat} (h:A++vec (f.drop j) (ps.drop k)=vec f ps) (hk : ¬k<ps.length):A++List.replicate (ps.length - k) 0=vec f ps:=by
 rw [← h,List.drop_of_length_le (show ps.length≤k by omega),vec_end,show ps.length - k=0 by omega]
 rfl
theorem vec_out2 {f:List Term} {ps:List Pw} {A:List Int} {j k:Nat} (h:A++vec (f.drop j) (ps.drop k)=vec f ps) (hj : ¬j<f.length):A++List.replicate (ps.length - k) 0=vec f ps:=by
 rw [← h,List.drop_of_length_le (show f.length≤j by omega),vec_nil,List.length_drop]
theorem rep_set {A:List Int} {n k:Nat} {v:Int} (hA:A.length=k) (hk:k<n):(A++List.replicate (n - k) 0).set k v=(A++[v])++List.replicate (n - (k+1)) 0:=by
 subst hA;rw [List.set_append,if_neg (by omega),Nat.sub_self,show n - A.length=(n - (A.length+1))+1 by omega,List.replicate_succ]
 simp
theorem rep_one {A:List Int} {n k:Nat} (hk:k<n):A++List.replicate (n - k) 0=(A++[0])++List.replicate (n - (k+1)) 0:=by
 rw [show n - k=(n - (k+1))+1 by omega,List.replicate_succ]
 simp
theorem vec_len : ∀(f:List Term) (ps:List Pw),(vec f ps).length=ps.length
 | f, []=>by rw [vec_end];rfl
 | [],p::ps=>by rw [vec_nil];simp
 | t::ts,p::ps=>by
  rw [vec]
  split
  ·simp [vec_len ts ps]
  ·simp [vec_len (t::ts) ps]
theorem vec_cf : ∀{ps:List Pw} {f:List Term},(toS f).Pairwise (fun x y=>before x.1 y.1=true)→ps.Pairwise (fun p q=>before p q=true)→(∀x∈toS f,x.1∈ps)→vec f ps=ps.map (cf (toS f))
 | [],f,_,_,_=>by rw [vec_end];rfl
 | p::ps, [],_,_,_=>by
  rw [vec_nil]
  simp only [toS,List.map_nil,List.map_cons,List.length_cons,List.replicate_succ,cf]
  congr 1
  exact map_zero ps
 | p::ps,t::ts,hf,hp,hm=>by
  have hf':=List.pairwise_cons.1 (show ((t.mono,t.fac)::toS ts).Pairwise _ from hf)
  have hp':=List.pairwise_cons.1 hp
  rw [vec]
  by_cases e:t.mono=p
  ·rw [if_pos e,List.map_cons]
   have hts : ∀x∈toS ts,x.1∈ps:=fun x hx=>by
    rcases List.mem_cons.1 (hm x (by show x∈(t.mono,t.fac)::toS ts;exact List.mem_cons_of_mem _ hx)) with h | h
    ·have:=before_ne (hf'.1 x hx)
     exact absurd (e.trans h.symm) this
    ·exact h
   rw [vec_cf hf'.2 hp'.2 hts]
   congr 1
   ·show t.fac=cf ((t.mono,t.fac)::toS ts) p
    simp only [cf]
    rw [if_pos e]
   ·refine List.map_congr_left fun q hq=>?_
    show cf (toS ts) q=cf ((t.mono,t.fac)::toS ts) q
    simp only [cf]
    rw [if_neg (fun h=>before_ne (hp'.1 q hq) (e.symm.trans h))]
  ·rw [if_neg e,List.map_cons]
   have ht:t.mono∈ps:=by
    rcases List.mem_cons.1 (hm (t.mono,t.fac) (by show _∈(t.mono,t.fac)::toS ts;simp)) with h | h
    ·exact absurd h e
    ·exact h
   have hne : ∀x∈toS (t::ts),x.1≠p:=fun x hx hh=>by
    rcases List.mem_cons.1 (show x∈(t.mono,t.fac)::toS ts from hx) with rfl | hx
    ·exact e hh
    ·have h1:=hf'.1 x hx
     rw [hh] at h1
     have h2:=before_as (hp'.1 _ ht)
     rw [h1] at h2
     cases h2
   rw [cf_none hne,vec_cf hf hp'.2 fun x hx=>(List.mem_cons.1 (hm x hx)).resolve_left (hne x hx)]
def fmK (ps:List Pw) (row:List Int) (k:Nat):List Term:=((List.range k).filter fun i=>decide (row.getD i 0≠0)).map fun i=>⟨rw_ ps i,row.getD i 0⟩
def fmS (ps:List Pw) (row:List Int):List Term:=fmK ps row ps.length
theorem fmK_yes {ps:List Pw} {row:List Int} {k:Nat} (h:row.getD k 0≠0):fmK ps row (k+1)=fmK ps row k++[⟨rw_ ps k,row.getD k 0⟩]:=by
 unfold fmK;rw [List.range_succ,List.filter_append,List.map_append];simp only [List.filter_cons,decide_eq_true h,if_true,List.filter_nil,List.map_cons,List.map_nil]
theorem fmK_no {ps:List Pw} {row:List Int} {k:Nat} (h : ¬row.getD k 0≠0):fmK ps row (k+1)=fmK ps row k:=by
 unfold fmK;rw [List.range_succ,List.filter_append,List.map_append];simp only [List.filter_cons,decide_eq_false h,Bool.false_eq_true,if_false,List.filter_nil,List.map_nil,List.append_nil]
theorem fmK_len (ps:List Pw) (row:List Int) (k:Nat):(fmK ps row k).length≤k:=by
 unfold fmK;rw [List.length_map];exact Nat.le_trans (List.length_filter_le _ _) (by simp)
theorem fmK_wf {ps:List Pw} {row:List Int} (hp : ∀p∈ps,Mono p) (hr : ∀j,0≤row.getD j 0∧row.getD j 0≤10006) {k:Nat} (hk:k≤ps.length):Wfs (fmK ps row k):=fun t ht=>by
 obtain ⟨i,hi,rfl⟩:=List.mem_map.1 ht
 have hi':=List.mem_range.1 (List.mem_filter.1 hi).1
 have:=hr i
 exact Term.wf.of (hp _ (rw_mem (by omega))) (show _≤row.getD i 0∧row.getD i 0≤_ by omega)
theorem tot_filter : ∀(l:Sm) (p:Pw),tot_ (l.filter fun x=>decide (x.2≠0)) p=tot_ l p
 | [],_=>rfl
 | x::l,p=>by
  have ih:=tot_filter l p
  by_cases h:x.2≠0
  ·rw [List.filter_cons_of_pos (by simpa using h)]
   simp only [tot_]
   rw [ih]
  ·rw [List.filter_cons_of_neg (by simpa using h)]
   simp only [tot_]
   rw [ih]
   have h0:x.2=0:=Decidable.not_not.1 h
   rw [h0]
   split <;> omega
theorem acc_ord {M:Int} {l:Sm} (hs:l.Pairwise fun x y=>before x.1 y.1=true) (hk : ∀x∈l,Pok M x.1) (hv : ∀x∈l,0≤x.2∧x.2≤10006):acc [] l=l.filter fun x=>decide (x.2≠0):=by
 have h2:Sok M (l.filter fun x=>decide (x.2≠0)):=⟨hs.filter _,fun x hx=>hk x (List.mem_filter.1 hx).1,fun x hx=>by
  have h1:=List.mem_filter.1 hx;have h3:=hv x h1.1
  have h4:x.2≠0:=by simpa using h1.2
  omega⟩
 refine Sok.ext (Sok.nil.acc hk) h2 fun p=>?_;rw [cf_acc p Sok.nil hk,← acc_self h2,cf_acc p Sok.nil h2.key,tot_filter]
theorem rowK_srt {ps:List Pw} {row:List Int} (hp:ps.Pairwise fun p q=>before p q=true) {k:Nat} (hk:k≤ps.length):(rowK ps row k).Pairwise fun x y=>before x.1 y.1=true:=by
 unfold rowK;rw [List.pairwise_map];refine List.pairwise_lt_range.imp_of_mem fun {a b} ha hb hab=>?_;have ha':=List.mem_range.1 ha;have hb':=List.mem_range.1 hb;have h:=List.pairwise_iff_getElem.1 hp a b (by omega) (by omega) hab
 simpa [rw_,List.getD_eq_getElem?_getD,List.getElem?_eq_getElem (show a<ps.length by omega),List.getElem?_eq_getElem (show b<ps.length by omega)] using h
theorem fmS_sum {M:Int} {ps:List Pw} {row:List Int} (hp:ps.Pairwise fun p q=>before p q=true) (hk : ∀p∈ps,Pok M p) (hr : ∀j,0≤row.getD j 0∧row.getD j 0≤10006) (hl:row.length=ps.length):fmS ps row=ofS (sumR ps row):=by
 unfold sumR
 rw [acc_ord (rowK_srt hp (by omega)) (fun x hx=>by
  obtain ⟨i,hi,rfl⟩:=List.mem_map.1 hx
  exact hk _ (rw_mem (by have:=List.mem_range.1 hi;omega))) (fun x hx=>by
  obtain ⟨i,hi,rfl⟩:=List.mem_map.1 hx
  exact hr i)]
 unfold rowK fmS fmK ofS;rw [List.filter_map,List.map_map,hl]
 rfl
theorem l03Vector_c {B:World} {H0 H:HP} {L:List SA} {w:World} {qf:Option Addr} {cf:Nat} {f:List Term} {qps:Option Addr} {cps:Nat} {ps:List (List Int)} (hf:Terms H qf f) (hps:Monos H qps ps) (hn:ps.length≤1000000) (hfl:f.length≤1000000) (hpm : ∀p∈ps,Mono p) (hH:Hp B H0 H L w):Calls Tryz.prog 71 [.agg [.slice qf f.length cf].toArray,.slice qps ps.length cps].toArray w fun e w'=>∃q c,e = .returned (.slice q (vec f ps).length c)∧Hp B H0 H (own 2 1 q (vec f ps).length c (intsC (vec f ps))::L) w':=by
 refine Jx Tryz.func71 rfl 47 rfl rfl [(0,.agg [.slice qf f.length cf].toArray),(1,.slice qps ps.length cps)] rfl hH ?_;clear hH;refine Je fun _ hK1 _=>(Jb (JW rfl rfl rfl fun g2=>(Jg (Jd rfl) rfl (Jf (Ja (hK1 (Je fun _ hK2 _=>(Jb (Jg (Jc rfl) rfl (Jg (Jo u135 rfl rfl) rfl (EI (MK.makeI (m:=ps.length) u22 ze2 sz2 by2 rfl rfl rfl rfl (by omega)) rfl fun qo10 co10=>(Jg (Ep (v':=.slice qo10 ps.length co10) (by rw [List.length_replicate]) (Jd rfl)) rfl (Jg (Jd rfl) rfl (Jf (Ja (hK2 ?_))))))))))))))));refine Je fun _ hK3 _=>(Je fun _ hK4 _=>(Jb (Jg (Jd rfl) rfl (Jf (Ja (hK4 (Jp (JD (σ:=List Int × Nat × Nat) (fun ⟨A,k,j⟩=>[(7,.int .i64 (k:Int)),(6,.int .i64 (j:Int))]) (fun ⟨A,k,j⟩=>H) (fun ⟨A,k,j⟩=>own 2 1 qo10 ps.length co10 (intsC (A++List.replicate (ps.length - k) 0))::obj g2 (.cells [.slice qf f.length cf].toArray 40 (0,0))::L) (fun ⟨A,k,j⟩=>A.length=k∧k≤ps.length∧j≤f.length∧A++vec (f.drop j) (ps.drop k)=vec f ps) (fun ⟨A,k,j⟩=>ps.length - k) ([],0,0) ⟨rfl,by omega,by omega,rfl⟩ ⟨rfl,⟨rfl,trivial⟩⟩ rfl (by rw [List.length_replicate];rfl) ?_))))))));rintro ⟨A,k,j⟩ ⟨hA,hk,hj,hV⟩ _ hAg0;refine Je fun _ hK5 _=>(Je fun _ hK6 _=>(Jb (Jg (Jc rfl) rfl (Jg (Jc rfl) rfl (Jg (Jo u135 rfl rfl) rfl (Jg (JJ rfl rfl) rfl (Jg (Jc rfl) rfl (Ek (jd:=15) rfl (fun hg15=>?_) (fun hg15=>?_)))))))))
 ·
  try have hg15p:=of_decide_eq_true hg15
  refine JV (Jc rfl) rfl rfl rfl hg15 (JV (Jl u40 rfl sz38 rfl) rfl rfl rfl hg15 (JV (Js rfl (.s .z) rfl pl38) rfl rfl rfl hg15 (JV (Jo u38 rfl rfl) rfl rfl rfl hg15 (JV (JJ rfl rfl) rfl rfl rfl hg15 (Jg (JY rfl hg15 rfl) rfl (Jf (Ja (hK6 (Jq rfl (fun h21=>?_) (fun h21=>?_))))))))))
  ·
   have hk1:k<ps.length:=by omega
   have hj1:j<f.length:=by omega
   refine Jn (Ja (hK5 (Je fun _ hK7 _=>(Jp (Je fun _ hK8 _=>(EC foll0 (by kernel_rfl) (JC (Jl u40 rfl sz38 rfl) rfl (JC (Js rfl (.s .z) rfl pl38) rfl (JC (Jc rfl) rfl (JC (Ey u38 sz107 rfl rfl rfl hj1 hf.sm) rfl (JC (EM u107 rfl sz105 rfl (hf.sm (i:=j) hj1)) rfl (JC (JM rfl (hf.mono hj1) (hf.sm (i:=j) hj1) (by rw [bytesC_length,(hf.wf _ hj1).mono.len];exact ag105)) rfl (JC (Jc rfl) rfl (JC (Jc rfl) rfl (JC (Ey u135 sz105 rfl rfl rfl hk1 hps.sm) rfl ?_)))))))))))))));refine JC (JM rfl (hps.cell _ hk1) (hps.sm (i:=k) hk1) (by rw [bytesC_length,hps.len _ hk1];exact ag105)) rfl (JC (PR.eqlM u105 u5 sz5 eg105 rfl rfl (hf.wf j hj1).mono.len (rw_all hpm hk1).len) rfl (Ed (Ja (hK8 (Jq rfl (fun h34=>?_) (fun h34=>?_))))))
   ·
    refine Je fun _ hK9 _=>(Jb (Jg (Jc rfl) rfl (Jg (Jc rfl) rfl (Jg (Jl u40 rfl sz38 rfl) rfl (Jg (Js rfl (.s .z) rfl pl38) rfl (Jg (Jc rfl) rfl (Jg (Ey u38 sz107 rfl rfl rfl hj1 hf.sm) rfl (Jg (EM u107 rfl sz2 rfl (hf.sm (i:=j) hj1)) rfl (Jg (JE rfl (hf.fac hj1) pl2) rfl (Jg (Eu u22 sz2 rfl rfl rfl hk1 At.z) rfl (ET rfl rfl sz2 hk1 At.z (Jf (Ja (hK9 (Jb ?_)))))))))))))));refine Jg (Jc rfl) rfl (Jg (Jz rfl rfl (by first | exact nw _ (by omega) | rfl)) rfl (Jg (Jd rfl) rfl (Jf (JF (Ja (hK7 (Jb (Jg (Jc rfl) rfl (Jg (Jz rfl rfl (by first | exact nw _ (by omega) | rfl)) rfl (Jg (Jd rfl) rfl (Jf (Ja ?_))))))))))));exact hAg0 (A++[(tm f j).fac],k+1,j+1) ⟨by simp [hA],by omega,by omega,by rw [← hV,vec_yes hj1 hk1 h34];simp⟩ (by show ps.length - (k+1)<ps.length - k;omega) 39 rfl rfl ⟨rfl,⟨rfl,trivial⟩⟩ rfl (by dsimp only;rw [rep_set hA hk1])
   ·
    refine Jn (JF (Ja (hK7 (Jb (Jg (Jc rfl) rfl (Jg (Jz rfl rfl (by first | exact nw _ (by omega) | rfl)) rfl (Jg (Jd rfl) rfl (Jf (Ja ?_)))))))));exact hAg0 (A++[0],k+1,j) ⟨by simp [hA],by omega,by omega,by rw [← hV,vec_no hj1 hk1 h34];simp⟩ (by show ps.length - (k+1)<ps.length - k;omega) 27 rfl rfl ⟨rfl,⟨rfl,trivial⟩⟩ rfl (by dsimp only;rw [rep_one hk1])
  ·
   refine JG (Jj (Jj (JK (Ja (hK3 (Je fun _ hK10 _=>(Jb (Jg (Jc rfl) rfl (Jg (Jd rfl) rfl (Jf (Ja (hK10 (Jt (Jr rfl (Res.tmp rfl) fun w hH=>?_))))))))))))));replace hH:=hH.sublist (.cons_cons _ (.cons _ (List.Sublist.refl _)));rw [vec_out2 hV (by omega)] at hH;exact ⟨_,_,by rw [vec_len],by rw [vec_len];exact hH⟩
 ·
  try have hg15p:=of_decide_eq_false hg15
  refine JQ rfl rfl rfl hg15 (JQ rfl rfl rfl hg15 (JQ rfl rfl rfl hg15 (JQ rfl rfl rfl hg15 (JQ rfl rfl rfl hg15 (Jg (JX rfl hg15 rfl) rfl (Jf (Ja (hK6 (EE rfl (JG (Jj (Jj (JK (Ja (hK3 (Je fun _ hK11 _=>?_))))))))))))))));refine Jb (Jg (Jc rfl) rfl (Jg (Jd rfl) rfl (Jf (Ja (hK11 (Jt (Jr rfl (Res.tmp rfl) fun w hH=>?_)))))));replace hH:=hH.sublist (.cons_cons _ (.cons _ (List.Sublist.refl _)));rw [vec_out1 hV (by omega)] at hH;exact ⟨_,_,by rw [vec_len],by rw [vec_len];exact hH⟩
theorem l03Form_c {B:World} {H0 H:HP} {L:List SA} {w:World} {qrow:Option Addr} {crow:Nat} {row:List Int} {qps:Option Addr} {cps:Nat} {ps:List (List Int)} (hrow:Ints H qrow row) (hps:Monos H qps ps) (hl:row.length=ps.length) (hn:ps.length≤1000000) (hpm : ∀p∈ps,Mono p) (hr : ∀j,0≤row.getD j 0∧row.getD j 0≤10006) (hH:Hp B H0 H L w):Calls Tryz.prog 116 [.slice qrow row.length crow,.slice qps ps.length cps].toArray w fun e w'=>∃q c,e = .returned (.agg [.slice q (fmS ps row).length c].toArray)∧Hp B H0 H (own 107 9 q (fmS ps row).length c (tsC (fmS ps row))::L) w':=by
 refine Jx Tryz.func116 rfl 34 rfl rfl [(0,.slice qrow row.length crow),(1,.slice qps ps.length cps)] rfl hH ?_;clear hH;have hw9 : ∀k,k≤ps.length→Wfs (fmK ps row k):=fun k hk=>fmK_wf hpm hr hk;refine Je fun _ hK1 _=>(Jb (JP ze40 rfl fun g4=>(Jf (Ja (hK1 (Je fun _ hK2 _=>(Jb (J.own0 107 9 (Jg (EB bz40) rfl (JP ze40 rfl fun g5=>(JB rfl rfl (by first | exact bytesC_one _ | exact intsC_one _ | exact Term.c_one _ | simp [Value.oneCell']) (by simpa [*] using sz40) (by simp [*]) At.z (Jf (Ja (hK2 (Je fun _ hK3 _=>(Je fun _ hK4 _=>?_))))))))))))))));refine Jb (Jg (Jd rfl) rfl (Jf (Ja (hK4 (Jp (JD (σ:=Option Addr × Nat × Nat) (fun ⟨q,c,k⟩=>[(6,.int .i64 (k:Int))]) (fun ⟨q,c,k⟩=>H) (fun ⟨q,c,k⟩=>obj g5 (.cells [.slice q (fmK ps row k).length c].toArray 40 (0,0))::own 107 9 q (fmK ps row k).length c (tsC (fmK ps row k))::obj g4 (.cells [.slice none 0 0].toArray 40 (0,0))::L) (fun ⟨q,c,k⟩=>k≤ps.length) (fun ⟨q,c,k⟩=>ps.length - k) (none,0,0) (by show 0≤ps.length;omega) ⟨rfl,trivial⟩ rfl rfl ?_))))));rintro ⟨q,c,k⟩ hk _ hAg0;have wfO:=hw9 k hk;have hfl:=fmK_len ps row k;refine Je fun _ hK5 _=>(Je fun _ hK6 _=>(Jb (Jg (Jc rfl) rfl (Jg (Jc rfl) rfl (Jg (Jo u135 rfl rfl) rfl (Jg (JJ rfl rfl) rfl (Jf (Ja (hK6 (Jq rfl (fun h11=>?_) (fun h11=>?_)))))))))))
 ·
  have hk1:k<ps.length:=by omega
  have hrk:=hr k;refine Jn (Ja (hK5 (Je fun _ hK7 _=>(Jp (Je fun _ hK8 _=>(Jb (Jg (Jc rfl) rfl (Jg (Jc rfl) rfl (Jg (JL u22 sz2 rfl rfl rfl (by omega) hrow.sm) rfl (Jg (JE rfl (hrow _ (by omega)) pl2) rfl (Jg (Eo rfl rfl) rfl (Jf (Ja (hK8 (Jq rfl (fun h18=>?_) (fun h18=>?_))))))))))))))))
  ·
   refine Er [[], [0], [], [], [2,3], [4], [], [], [6,7], [8], [5,9], [10]] (by kernel_rfl) (JA (fun gh=>Jl u40 rfl sz38 rfl) (JA (fun gh=>Js rfl At.z rfl pl38) (JA (fun gh=>Jc rfl) (JA (fun gh=>Jc rfl) (JA (fun gh=>Ey u135 sz105 rfl rfl rfl hk1 hps.sm) (JA (fun gh=>JM rfl (hps.cell _ hk1) (hps.sm (i:=k) hk1) (by rw [bytesC_length,hps.len _ hk1];exact ag105)) (JA (fun gh=>Jc rfl) (JA (fun gh=>Jc rfl) (JA (fun gh=>JL u22 sz2 rfl rfl rfl (by omega) hrow.sm) (JA (fun gh=>JE rfl (hrow _ (by omega)) pl2) (JA (fun gh=>PR.build2 rfl rfl (fun w=>bt107 _ _ (rw_all hpm hk1).len w)) (HJ.mk (fun gh=>MK.lit1T u38 ze107 sz107 (Term.wf.of (rw_all hpm hk1) (by omega)) rfl) (Ec 12 3 foll0 (by kernel_rfl) rfl rfl fun gh=>(En (us':=(19,_)::(20,_)::(21,_)::(22,_)::(23,_)::(24,_)::(25,_)::(26,_)::(27,_)::(28,_)::(29,_)::(30,_)::_) (L':=_::_) rfl rfl ?_))))))))))))));refine J.appendOT u38 ze107 sz107 by107 rfl rfl (by simp only [List.length_cons,List.length_nil];omega) .z (.s .z) (fun _ _=>(.s .z)) rfl fun qo31 co31=>(Jg (Jl u40 rfl sz38 rfl) rfl (Et rfl rfl rfl rfl sz38 (by simp [*]) (.s .z) (Jf (Eb (Ed (JF (Ja (hK7 (Jb (Jg (Jc rfl) rfl (Jg (Jz rfl rfl (by first | exact nw _ (by omega) | rfl)) rfl (Jg (Jd rfl) rfl (Jf (Ja (JN .z ?_)))))))))))))));exact hAg0 (qo31,co31,k+1) (by show k+1≤ps.length;omega) (by show ps.length - (k+1)<ps.length - k;omega) 27 rfl rfl ⟨rfl,trivial⟩ rfl (by dsimp only;rw [fmK_yes h18];rfl)
  ·
   refine Jn (JF (Ja (hK7 (Jb (Jg (Jc rfl) rfl (Jg (Jz rfl rfl (by first | exact nw _ (by omega) | rfl)) rfl (Jg (Jd rfl) rfl (Jf (Ja ?_)))))))));exact hAg0 (q,c,k+1) (by show k+1≤ps.length;omega) (by show ps.length - (k+1)<ps.length - k;omega) 13 rfl rfl ⟨rfl,trivial⟩ rfl (by dsimp only;rw [fmK_no h18])
 ·
  refine JG (Jj (Jj (JK (Ja (hK3 (Je fun _ hK9 _=>(Jb (Jg (Jm rfl At.z (by simpa [*] using ag40)) rfl (JB rfl rfl (by first | exact bytesC_one _ | exact intsC_one _ | exact Term.c_one _ | simp [Value.oneCell']) (by simpa [*] using sz40) (by simp [*]) (.s (.s .z)) (Jf (Ja (hK9 (Jt (Jr rfl (Res.agg rfl (.s (.s .z)) (by simpa [*] using ag40)) fun w hH=>?_))))))))))))));replace hH:=hH.sublist (.cons _ (.cons_cons _ (.cons _ (List.Sublist.refl _))))
  obtain rfl:k=ps.length:=by omega
  exact ⟨_,_,rfl,hH⟩
theorem fn71:Fn Tryz.prog 71:=⟨_,Tryz.func71,by kernel_rfl,rfl⟩
theorem mon_mn {ds:List Int} {n:Int} {m:Nat} (h8:ds.length≤8) : ∀p∈(monS ds n).take m,Mono p:=fun p hp=>(mon_pok h8 (List.mem_of_mem_take hp)).mn (by omega)
theorem monL_mn {ds:List Int} {n:Int} (h8:ds.length≤8) : ∀p∈monL ds n,Mono p:=mon_mn h8
theorem monT_8 {ds:List Int} {n:Int} (h8:ds.length≤8) : ∀p∈monT ds n,p.length=8:=mon_8 h8
theorem mon_srt (ds:List Int) (n:Int) (h8:ds.length≤8):(monS ds n).Pairwise fun p q=>before p q=true:=enumF_srt (by omega) rfl
theorem monL_srt (ds:List Int) (n:Int) (h8:ds.length≤8):(monL ds n).Pairwise fun p q=>before p q=true:=(mon_srt ds n h8).sublist (List.take_sublist _ _)
theorem monT_L {ds:List Int} {n:Int} (h:fitB ds n=true):monT ds n=monL ds n:=by rw [monT_eq h,monL_fit h]
theorem mon_one {p:Pw}:toS (ofS (addS [] p 1))=[(p,1)]:=by rw [toS_ofS,addS_one]
theorem dS_one {ds:List Int} {fs:List (List Term)} (hA:AlgOk ds fs) (h8:ds.length≤8) (hd : ∀j,j<ds.length→1≤ds.getD j 0∧ds.getD j 0≤12) {n:Int} {p:Pw} (hp:p∈monS ds n):Sok 60 (dS ds fs [(p,1)]):=
 dS_sok (ds:=ds) (Sok.one (k:=1) (mon_pok h8 hp) (by omega)) hA.fok (mon_occ h8 hp hd hA.hl)
theorem dS_one_len {ds:List Int} {fs:List (List Term)} (hA:AlgOk ds fs) (h8:ds.length≤8) (hd : ∀j,j<ds.length→1≤ds.getD j 0∧ds.getD j 0≤12) {n:Int} {p:Pw} (hp:p∈monS ds n):(dS ds fs [(p,1)]).length≤80000:=by
 have h1:=dAll_len (ds:=ds) hA.len (mon_occ h8 hp hd hA.hl);have h2:=acc_len (dAll ds fs [(p,1)]) [];simp only [List.length_cons,List.length_nil] at h1 h2;unfold dS
 omega
theorem dS_vec {ds:List Int} {fs:List (List Term)} {n:Int} (hA:AlgOk ds fs) (h8:ds.length≤8) (hd : ∀j,j<ds.length→1≤ds.getD j 0∧ds.getD j 0≤12) (hom:Hom1 ds fs n) {k:Nat} (hk:k<(monL ds n).length):vec (ofS (dS ds fs [(rw_ (monL ds n) k,1)])) (monL ds (n+1))=(monL ds (n+1)).map (cf (dS ds fs [(rw_ (monL ds n) k,1)])):=by
 have h:=vec_cf (ps:=monL ds (n+1)) (f:=ofS (dS ds fs [(rw_ (monL ds n) k,1)])) (by rw [toS_ofS];exact (dS_one hA h8 hd (monL_mem hk)).srt) (monL_srt ds (n+1) h8) (by rw [toS_ofS];exact hom _ (rw_mem hk))
 rwa [toS_ofS] at h
theorem l03Matrix_c {B:World} {H0 H:HP} {L:List SA} {w:World} {qad qaf:Option Addr} {cad caf:Nat} {ad:List Int} {af:List (List Term)} {n:Int} (had:Ints H qad ad) (haf:Forms H qaf af) (hd : ∀j,j<ad.length→1≤ad.getD j 0∧ad.getD j 0≤12) (h8:ad.length≤8) (hn : -1≤n∧n≤100000) (hA:AlgOk ad af) (hfit:fit2 ad n) (hom:Hom1 ad af n) (hH:Hp B H0 H L w):Calls Tryz.prog 120 [.agg [.slice qad ad.length cad,.slice qaf af.length caf].toArray,.int .i64 n].toArray w fun e w'=>∃H' q c,Le H H' ∧RowsR H' q (matS ad af n)∧(matS ad af n).length≤c∧e = .returned (.slice q (matS ad af n).length c)∧Hp B H0 H' L w':=by
 refine Jx Tryz.func120 rfl 38 rfl rfl [(0,.agg [.slice qad ad.length cad,.slice qaf af.length caf].toArray),(1,.int .i64 n)] rfl hH ?_;have hw0:=hH.old;have hw1:=hH.le;have hmT0:=monT_L hfit.1;have hmT1:=monT_L hfit.2;have hml:=monL_len ad n;have hml1:=monL_len ad (n+1);clear hH;refine Je fun _ hK1 _=>(Jb (JW rfl rfl rfl fun g2=>(Jg (Jd rfl) rfl (Jf (Ja (hK1 (Je fun _ hK2 _=>(Ea (Rs:=[_]) 13 [[], [0], [], [0,1,2], [], [4], [], [6], [0,1,2,3,4,5,6,7], [], [0,1,2,3,4,5,6,7,8], [0,1,2,3,4,5,6,7,8,10], [0,1,2,3,4,5,6,7,8,9,10,11]] [[], [13], [], [], [], [13], [], [], [], [], [], [], []] [[], [], [], [], [], [], [], [], [], [], [], [], []] rfl rfl (by kernel_rfl) ?_))))))));apply Ji 1 rfl rfl rfl
 ·intros;conv=>lhs;simp only [Jh,reduceEqDiff,reduceAdd]
 ·exact Jl u36 rfl sz22 rfl
 apply Ji 2 rfl rfl rfl
 ·intros;conv=>lhs;simp only [Jh,reduceEqDiff,reduceAdd]
 ·exact Js rfl At.z rfl pl22
 apply Ji 3 rfl rfl rfl
 ·intros;conv=>lhs;simp only [Jh,reduceEqDiff,reduceAdd]
 ·exact Jc rfl
 apply JR 4 rfl
 ·intros;conv=>lhs;simp only [Jh,reduceEqDiff,reduceAdd]
 ·
  intro gh X K zq zc zq2 zc2 zb zv hK;refine Ju fn68 rfl rfl fun w hH=>(l01Monomials_c had hd h8 (by omega) hH).mono ?_;rintro _ w ⟨qo12,co12,rfl,hH⟩;refine ⟨_,rfl,fun a hF=>JH hF hH ?_⟩;refine Jy ?_;exact hK qo12 co12 zq2 zc2 zb zv
 ·intro gh gh' h;refine ⟨?_,?_⟩ <;> rfl
 apply Ji 5 rfl rfl rfl
 ·intros;conv=>lhs;simp only [Jh,reduceEqDiff,reduceAdd]
 ·exact Jl u36 rfl sz22 rfl
 apply Ji 6 rfl rfl rfl
 ·intros;conv=>lhs;simp only [Jh,reduceEqDiff,reduceAdd]
 ·exact Js rfl At.z rfl pl22
 apply Ji 7 rfl rfl rfl
 ·intros;conv=>lhs;simp only [Jh,reduceEqDiff,reduceAdd]
 ·exact Jc rfl
 apply Ji 8 rfl rfl rfl
 ·intros;conv=>lhs;simp only [Jh,reduceEqDiff,reduceAdd]
 ·exact Jz rfl rfl (by first | exact nw _ (by omega) | rfl)
 apply JR 9 rfl
 ·intros;conv=>lhs;simp only [Jh,reduceEqDiff,reduceAdd]
 ·
  intro gh X K zq zc zq2 zc2 zb zv hK;refine Ju fn68 rfl rfl fun w hH=>(l01Monomials_c had hd h8 (by omega) hH).mono ?_;rintro _ w ⟨qo17,co17,rfl,hH⟩;refine ⟨_,rfl,fun a hF=>JH hF hH ?_⟩;refine Jy ?_;exact hK qo17 co17 zq2 zc2 zb zv
 ·intro gh gh' h;refine ⟨?_,?_⟩ <;> (first | simp only [h 3 rfl] | rfl)
 apply JR 10 rfl
 ·intros;conv=>lhs;simp only [Jh,reduceEqDiff,reduceAdd]
 ·
  intro gh X K zq zc zq2 zc2 zb zv hK;refine EI (EP u31 sz22) rfl fun qo18 co18=>(Jy ?_);exact hK qo18 co18 zq2 zc2 zb zv
 ·intro gh gh' h;refine ⟨?_,?_⟩ <;> rfl
 apply Ef 11 rfl rfl rfl
 ·intros;conv=>lhs;simp only [Jh,reduceEqDiff,reduceAdd]
 ·exact Jd rfl
 ·intro gh gh' h;first | simp only [h 3 rfl,h 8 rfl] | rfl
 apply Ef 12 rfl rfl rfl
 ·intros;conv=>lhs;simp only [Jh,reduceEqDiff,reduceAdd]
 ·exact Jd rfl
 ·intro gh gh' h;first | simp only [h 3 rfl,h 8 rfl] | rfl
 apply Ef 13 rfl rfl rfl
 ·intros;conv=>lhs;simp only [Jh,reduceEqDiff,reduceAdd]
 ·exact Jd rfl
 ·intro gh gh' h;first | simp only [h 3 rfl,h 8 rfl,h 9 rfl] | rfl
 apply JZ [0,1,2,3,4,5,6,7,8,9,10,11,12] [0,1,2,3,4,5,6,7,8,9,10,11,12,13] foll0 rfl rfl rfl (by rfl)
 iterate 2 focus (intros;(conv=>lhs;simp only [JU,Ej,Ka,El,Es,eq_self,reduceEqDiff,reduceIte,reduceSub,reduceAdd,JxA,JxB]);all_goals rfl)
 intro gh;generalize (gh 3).c=co12;generalize (gh 3).q=qo12;generalize (gh 8).c=co17;generalize (gh 8).q=qo17;generalize (gh 9).c=co18;generalize (gh 9).q=qo18;clear gh;refine EA .z fun Ho12 hleo12 hAo12=>?_;replace had:=had.le hleo12;replace haf:=haf.le hleo12;have hxo12:=own_monos (monT_8 h8) hAo12;have hco12:=own_le hAo12;refine EA .z fun Ho17 hleo17 hAo17=>?_;replace had:=had.le hleo17;replace haf:=haf.le hleo17;replace hxo12:=hxo12.le hleo17;have hxo17:=own_monos (monT_8 h8) hAo17;have hco17:=own_le hAo17;rw [hmT0] at hxo12;rw [hmT1] at hxo17;rw [hmT0,hmT1];have hmm:=monL_mn (n:=n) h8;have hmm1:=monL_mn (n:=n+1) h8;refine Ja (hK2 (Je fun _ hK3 _=>(Je fun _ hK4 _=>(Jb (Jg (Jd rfl) rfl (Jf (Ja (hK4 (Jp (JD (σ:=HP × Option Addr × Nat × List Value × Nat) (fun ⟨Hk,q,c,vals,k⟩=>[(8,.int .i64 (k:Int)),(7,.slice q k c)]) (fun ⟨Hk,q,c,vals,k⟩=>Hk) (fun ⟨Hk,q,c,vals,k⟩=>own 22 1 q k c vals::obj g2 (.cells [.slice qad ad.length cad,.slice qaf af.length caf].toArray 36 (0,0))::L) (fun ⟨Hk,q,c,vals,k⟩=>Le Ho17 Hk∧SlF Hk vals (matK ad af n k)∧k≤(monL ad n).length) (fun ⟨Hk,q,c,vals,k⟩=>(monL ad n).length - k) (Ho17,qo18,co18, [],0) ⟨Le.refl _,SlF.nil _,by omega⟩ ⟨rfl,⟨rfl,trivial⟩⟩ rfl rfl ?_))))))))));rintro ⟨Hk,q,c,vals,k⟩ ⟨hlk,hS,hk⟩ _ hAg0;replace had:=had.le hlk;replace haf:=haf.le hlk;replace hxo12:=hxo12.le hlk;replace hxo17:=hxo17.le hlk;refine Je fun _ hK5 _=>(Je fun _ hK6 _=>(Jb (Jg (Jc rfl) rfl (Jg (Jc rfl) rfl (Jg (Jo u135 rfl rfl) rfl (Jg (JJ rfl rfl) rfl (Jf (Ja (hK6 (Jq rfl (fun h22=>?_) (fun h22=>?_)))))))))))
 ·
  have hk1:k<(monL ad n).length:=by omega
  have hpm:=monL_mem hk1;have hpk:=mon_pok h8 hpm;have hdl:=dS_one_len hA h8 hd hpm;have hds:=dS_one hA h8 hd hpm;refine Jn (Ja (hK5 (Je fun _ hK7 _=>(Jp (Ea (Rs:=[_,_]) 13 [[], [], [], [], [2,3], [2,3,4], [2,3,4,5], [1,2,3,4,5,6], [], [1,2,3,4,5,6,7,8], [1,2,3,4,5,6,7,8,9], [0,1,2,3,4,5,6,7,8,9,10], [0,1,2,3,4,5,6,7,8,9,10,11]] [[], [14], [], [], [], [], [], [6], [], [7], [], [10], []] [[], [], [], [], [], [], [], [], [], [], [], [13], []] rfl rfl (by kernel_rfl) ?_)))));apply Ji 1 rfl rfl rfl
  ·intros;conv=>lhs;simp only [Jh,reduceEqDiff,reduceAdd]
  ·exact Jc rfl
  apply Ji 2 rfl rfl rfl
  ·intros;conv=>lhs;simp only [Jh,reduceEqDiff,reduceAdd]
  ·exact Jm rfl At.z (by simpa [*] using ag36)
  apply Ji 3 rfl rfl rfl
  ·intros;conv=>lhs;simp only [Jh,reduceEqDiff,reduceAdd]
  ·exact Jc rfl
  apply Ji 4 rfl rfl rfl
  ·intros;conv=>lhs;simp only [Jh,reduceEqDiff,reduceAdd]
  ·exact Jc rfl
  apply Ji 5 rfl rfl rfl
  ·intros;conv=>lhs;simp only [Jh,reduceEqDiff,reduceAdd]
  ·exact Ey u135 sz105 rfl rfl rfl hk1 hxo12.sm
  apply Ji 6 rfl rfl rfl
  ·intros;conv=>lhs;simp only [Jh,reduceEqDiff,reduceAdd]
  ·exact JM rfl (hxo12.cell _ hk1) (hxo12.sm (i:=k) hk1) (by rw [bytesC_length,hxo12.len _ hk1];exact ag105)
  apply JR 7 rfl
  ·intros;conv=>lhs;simp only [Jh,reduceEqDiff,reduceAdd]
  ·
   intro gh X K zq zc zq2 zc2 zb zv hK;refine Ju fn130 rfl rfl fun w hH=>(l01Single_c (rw_all hmm hk1) (by omega) hH).mono ?_;rintro _ w ⟨qo31,co31,rfl,hH⟩;refine ⟨_,rfl,fun a hF=>JH hF hH ?_⟩;refine Jy ?_;exact hK qo31 co31 zq2 zc2 zb zv
  ·intro gh gh' h;refine ⟨?_,?_⟩ <;> rfl
  apply JR 8 rfl
  ·intros;conv=>lhs;simp only [Jh,reduceEqDiff,reduceAdd]
  ·
   intro gh X K zq zc zq2 zc2 zb zv hK;refine Ju fn93 rfl rfl fun w hH=>hH.lend .z fun Hl1 hle1 hA1 hB1 hH=>(l02D_c (Mi:=20) (Ms:=20) (had.le hle1) (haf.le hle1) (own_terms (one_wf (rw_all hmm hk1)) hA1) hA.hn hA.hd hA.fok hA.hl hA.kex (by rw [mon_one];exact Sok.one hpk (by omega)) (one_kex (mon_ex h8 hpm hd)) (by omega) hA.len (by rw [one_len];omega) hH).mono ?_;rintro _ w ⟨qo32,co32,rfl,hH⟩;replace hH:=hB1 _ _ hH;refine ⟨_,rfl,fun a hF=>JH hF hH ?_⟩;refine Jw .z (Jw (.s .z) (Jy ?_));exact hK qo32 co32 zq2 zc2 zb zv
  ·intro gh gh' h;refine ⟨?_,?_⟩ <;> (first | simp only [h 6 rfl] | rfl)
  apply Ji 9 rfl rfl rfl
  ·intros;conv=>lhs;simp only [Jh,reduceEqDiff,reduceAdd]
  ·exact Jc rfl
  apply JR 10 rfl
  ·intros;conv=>lhs;simp only [Jh,reduceEqDiff,reduceAdd]
  ·
   intro gh X K zq zc zq2 zc2 zb zv hK;refine Ju fn71 rfl rfl fun w hH=>hH.lend .z fun Hl1 hle1 hA1 hB1 hH=>(l03Vector_c (own_terms (by rw [mon_one];exact hds.wf (by omega)) hA1) (hxo17.le hle1) (by omega) (by rw [mon_one,ofS_len];omega) hmm1 hH).mono ?_;rintro _ w ⟨qo34,co34,rfl,hH⟩;replace hH:=hB1 _ _ hH;refine ⟨_,rfl,fun a hF=>JH hF hH ?_⟩;refine Jw .z (Jw (.s .z) (Jy ?_));exact hK qo34 co34 zq2 zc2 zb zv
  ·intro gh gh' h;refine ⟨?_,?_⟩ <;> (first | simp only [h 6 rfl,h 7 rfl] | rfl)
  apply JR 11 rfl
  ·intros;conv=>lhs;simp only [Jh,reduceEqDiff,reduceAdd]
  ·
   intro gh X K zq zc zq2 zc2 zb zv hK;refine EI (EN u31 ze22 sz22 rfl rfl) rfl fun qo35 co35=>(Jy ?_);exact hK qo35 co35 zq2 zc2 zb zv
  ·intro gh gh' h;refine ⟨?_,?_⟩ <;> (first | simp only [h 6 rfl,h 7 rfl,h 9 rfl] | rfl)
  apply JR 12 rfl
  ·intros;conv=>lhs;simp only [Jh,reduceEqDiff,reduceAdd]
  ·
   intro gh X K zq zc zq2 zc2 zb zv hK;refine EG u31 ze22 sz22 by22 rfl rfl rfl rfl (by omega) (.s .z) At.z (fun _ _=>At.z) rfl fun qo36 co36=>(Jw .z (Jw (.s .z) (Jy ?_)));exact hK qo36 co36 zq2 zc2 zb zv
  ·intro gh gh' h;refine ⟨?_,?_⟩ <;> (first | simp only [h 6 rfl,h 7 rfl,h 9 rfl,h 10 rfl] | rfl)
  apply Ef 13 rfl rfl rfl
  ·intros;conv=>lhs;simp only [Jh,reduceEqDiff,reduceAdd]
  ·exact Jd rfl
  ·intro gh gh' h;first | simp only [h 6 rfl,h 7 rfl,h 9 rfl,h 10 rfl,h 11 rfl] | rfl
  apply JZ [0,1,2,3,4,5,6,7,8,9,10,11,12] [0,1,2,3,4,5,6,7,8,9,10,11,12,14] foll0 rfl rfl rfl (by rfl)
  iterate 2 focus (intros;(conv=>lhs;simp only [JU,Ej,Ka,El,Es,eq_self,reduceEqDiff,reduceIte,reduceSub,reduceAdd,JxA,JxB]);all_goals rfl)
  intro gh;generalize (gh 6).c=co31;generalize (gh 6).q=qo31;generalize (gh 7).c=co32;generalize (gh 7).q=qo32;generalize (gh 9).c=co34;generalize (gh 9).q=qo34;generalize (gh 10).c=co35;generalize (gh 10).q=qo35;generalize (gh 11).c=co36;generalize (gh 11).q=qo36;clear gh;refine EA (.s (.s .z)) fun Ho34 hleo34 hAo34=>?_;replace had:=had.le hleo34;replace haf:=haf.le hleo34;replace hxo12:=hxo12.le hleo34;replace hxo17:=hxo17.le hleo34;replace hS:=hS.le hleo34;have hxo34:=own_ints hAo34;have hco34:=own_le hAo34;have hve:=dS_vec hA h8 hd hom hk1;rw [← mon_one] at hve;have hS2:=hS.snoc (hve ▸ hxo34) (by rw [hve]) hco34;rw [mon_one] at hS2;refine JF (Ja (hK7 (Jb (Jg (Jc rfl) rfl (Jg (Jz rfl rfl (by first | exact nw _ (by omega) | rfl)) rfl (Jg (Jd rfl) rfl (Jf (Ja (JN .z (JN .z (JN .z ?_)))))))))));exact hAg0 (Ho34,qo36,co36,_,k+1) ⟨(hlk.trans hleo34),by rw [matK_succ hk1];exact hS2,by omega⟩ (by show (monL ad n).length - (k+1)<(monL ad n).length - k;omega) 22 rfl rfl ⟨rfl,⟨rfl,trivial⟩⟩ rfl rfl
 ·
  refine JG (Jj (Jj (JK (Ja (hK3 (Je fun _ hK8 _=>(Jb (Jg (Jc rfl) rfl (Ev .z fun Ho18 hleo18 hAo18=>?_)))))))));replace had:=had.le hleo18;replace haf:=haf.le hleo18;replace hxo12:=hxo12.le hleo18;replace hxo17:=hxo17.le hleo18;replace hS:=hS.le hleo18;have hxo18:=hS.rows (Le.refl _) hAo18;have hco18:=own_le hAo18;refine Jg (Jd rfl) rfl (Jf (Ja (hK8 (Jt (Jr rfl (Res.tmp rfl) fun w hH=>?_)))));replace hH:=hH.tail
  have hke:k=(monL ad n).length:=by omega
  rw [matK_end hke] at hxo18;exact ⟨_,q,c,(((hleo12.trans hleo17).trans hlk).trans hleo18),hxo18,by rw [matS_len,← hke];exact hco18,by rw [matS_len,hke],hH⟩
theorem leftP_get {p:Pw} {i j:Nat} (hi:i<8) (hj:j<8):(leftP p i).getD j 0=if j=i then p.getD i 0 - 1 else if j<i then p.getD j 0 else 0:=by
 unfold leftP;rw [getD_set8,show (aheadP p i).length=8 by simp,aheadP_get hj]
 by_cases e:i=j
 ·subst e;rw [if_pos ⟨rfl,hi⟩,if_pos rfl]
 ·rw [if_neg (fun h=>e h.1),if_neg (fun h:j=i=>e h.symm)]
theorem wsum_lb {ds p:Pw} {i:Nat} (hi:i<8) : ∀n:Nat,n≤8→wsum ds (leftP p i) n+wsum ds (behP p (i+1)) n=wsum ds p n - (if i<n then ds.getD i 0 else 0)
 | 0,_=>by simp [wsum]
 | n+1,h=>by
  have ih:=wsum_lb (ds:=ds) (p:=p) hi n (by omega)
  simp only [wsum]
  rw [leftP_get hi (by omega),behP_get (by omega)]
  rcases Nat.lt_trichotomy n i with h1 | h1 | h1
  ·rw [if_neg (by omega),if_pos h1,if_pos (by omega),if_neg (by omega)]
   rw [if_neg (by omega)] at ih
   rw [Int.mul_zero]
   omega
  ·subst h1
   rw [if_pos rfl,if_pos (by omega),if_pos (by omega)]
   rw [if_neg (by omega)] at ih
   rw [Int.mul_zero,Int.mul_sub,Int.mul_one]
   omega
  ·rw [if_neg (by omega),if_neg (by omega),if_neg (by omega),if_pos (by omega)]
   rw [if_pos h1] at ih
   rw [Int.mul_zero]
   omega
theorem wsF_cons (d:Int) (ds p:List Int) (i:Nat):wsF (d::ds) p i=d * p.getD i 0+wsF ds p (i+1):=rfl
theorem wsF_sum {p:List Int} : ∀(pre ds:List Int),wsF ds p pre.length+wsum (pre++ds) p pre.length=wsum (pre++ds) p (pre++ds).length
 | pre, []=>by simp [wsF]
 | pre,d::ds=>by
  have ih:=wsF_sum (p:=p) (pre++[d]) ds
  rw [List.length_append,List.append_assoc] at ih
  simp only [List.length_cons,List.length_nil,JxA,JxB,wsum,Nat.zero_add] at ih
  rw [wsF_cons]
  have e:(pre++d::ds).getD pre.length 0=d:=by simp [List.getD_eq_getElem?_getD]
  rw [e] at ih
  omega
theorem wsF_0 (ds p:List Int):wsF ds p 0=wsum ds p ds.length:=by
 have h:=wsF_sum (p:=p) [] ds
 simpa [wsum] using h
theorem mon_wt {ds:List Int} {n:Int} (h8:ds.length≤8) {p:Pw} (hp:p∈monS ds n):wsum ds p ds.length=n:=by
 rw [← wsF_0];exact (enumF_mem (by omega) rfl hp).2.2.2
theorem wsum_ge {ds p:Pw} (hd : ∀j,0≤ds.getD j 0) (hp : ∀j,0≤p.getD j 0) {j:Nat} : ∀n:Nat,j<n→ds.getD j 0 * p.getD j 0≤wsum ds p n
 | 0,h=>by omega
 | n+1,h=>by
  have h0:=wsum_nn0 hd hp n
  have h1:0≤ds.getD n 0 * p.getD n 0:=Int.mul_nonneg (hd n) (hp n)
  simp only [wsum]
  rcases Nat.lt_or_ge j n with hj | hj
  ·have:=wsum_ge hd hp (j:=j) n hj
   omega
  ·obtain rfl:j=n:=by omega
   omega
theorem mon_in {ds:List Int} (h8:ds.length≤8) (hd : ∀j,j<ds.length→1≤ds.getD j 0∧ds.getD j 0≤12) {n:Int} (hn:n≤41) {M:Int} {p:Pw} (hp:Pok M p) (hx:Ex ds p) (hw:wsum ds p ds.length=n):p∈monS ds n:=by
 have hd0 : ∀j,0≤ds.getD j 0:=fun j=>by
  by_cases hj:j<ds.length
  ·have:=hd j hj;omega
  ·rw [getD_ge (by omega)];omega
 have hp0 : ∀j,0≤p.getD j 0:=fun j=>(hp.bd j).1;refine enumF_in (by omega) rfl hp.len (fun t ht=>(hd t ht).1) (fun j hj=>?_) hp0 (fun t ht=>?_) (by rw [wsF_0];exact hw)
 ·rw [hx.out j (by omega),show zP=List.replicate 8 0 from rfl,rep_get]
 ·rw [Nat.zero_add];have hdt:=hd t ht;have htm:=tmod_two (d:=ds.getD t 0) (by omega);have hge:=wsum_ge hd0 hp0 (j:=t) ds.length ht;rw [hw] at hge;refine ⟨?_,fun h=>hx.odd t ht (by omega)⟩
  by_cases ho:(ds.getD t 0).tmod 2=1
  ·have:=hx.odd t ht (by omega)
   omega
  ·have h2:2≤ds.getD t 0:=by
    rcases (show ds.getD t 0=1∨2≤ds.getD t 0 by omega) with h | h
    ·rw [h] at ho;exact absurd (by decide) ho
    ·exact h
   have h3:2 * p.getD t 0≤ds.getD t 0 * p.getD t 0:=Int.mul_le_mul_of_nonneg_right h2 (hp0 t)
   omega
theorem dS_wt {ds:List Int} {fs:List (List Term)} (hG:isAlg ds fs=true) (hw:Wfss fs) {M:Int} {p:Pw} (hp:Pok M p) (hx:Ex ds p) {x:Pw × Int} (h:x∈dS ds fs [(p,1)]):Ex ds x.1∧wsum ds x.1 ds.length=wsum ds p ds.length+1:=by
 have hA:=isAlg_ok hG hw;have hn:=hA.hn
 rcases acc_mem h with h | ⟨z,hz,e⟩
 ·simp at h
 rw [e];unfold dAll at hz;simp only [List.flatMap_cons,List.flatMap_nil,List.append_nil] at hz;unfold dLk at hz;obtain ⟨i,hi,hz⟩:=List.mem_flatMap.1 hz;have hi8:=List.mem_range.1 hi;unfold dP at hz
 split at hz
 ·rename_i hpos
  have hid:i<ds.length:=by
   rcases Nat.lt_or_ge i ds.length with h | h
   ·exact h
   ·have h1:=hx.out i h;simp only at hpos
    omega
  obtain ⟨y,hy,ey⟩:=scl_key hz;rw [ey]
  have hif:i<fs.length:=by rw [hA.hl];exact hid
  have him:=(hA.fok i hif).1;have hlp:=leftP_pok hp hpos;have hbp:=behP_pok hp (i+1);have g1:Gok M [(leftP p i,1)]:=(Sok.one hlp (k:=1) (by omega)).g;have g3:Gok M [(behP p (i+1),1)]:=(Sok.one hbp (k:=1) (by omega)).g
  have k1:KEx ds [(leftP p i,1)]:=fun x hx'=>by rw [List.mem_singleton.1 hx'];exact leftP_ex hp hx hpos
  have k3:KEx ds [(behP p (i+1),1)]:=fun x hx'=>by rw [List.mem_singleton.1 hx'];exact behP_ex hp hx (i+1)
  have k2:=hA.kex i hif;have k12:=times_kex g1 him.g k1 k2;have g12:=gtimes (ds:=ds) g1 him.g;refine ⟨times_kex g12.g g3 k12 k3 y hy,?_⟩
  rcases acc_mem hy with h | ⟨a,ha,ea⟩
  ·simp at h
  obtain ⟨u,hu,v,hv,_,e2⟩:=mulL_mem ha;rw [List.mem_singleton.1 hv] at e2
  rcases acc_mem hu with h | ⟨b,hb,eb⟩
  ·simp at h
  obtain ⟨c,hc,d,hd',_,e3⟩:=mulL_mem hb;rw [List.mem_singleton.1 hc] at e3;have hdl:=(him.key d hd').len;have h1:=imsOk_at (isAlg_im hG) hif;unfold imOk at h1;have h2:=(Bool.and_eq_true_iff.1 h1).2;have hwd:=degOk_wt hn hA.hd (hw.fm i) h2 d hd';have hlb:=wsum_lb (ds:=ds) (p:=p) hi8 ds.length hn;rw [if_pos hid] at hlb;rw [ea,e2,wsum_add (by rw [eb,e3];simp [addp]) hbp.len,eb,e3,wsum_add hlp.len hdl,hwd]
  omega
 ·simp at hz
theorem hom_of {ds:List Int} {fs:List (List Term)} (hG:isAlg ds fs=true) (hw:Wfss fs) (h8:ds.length≤8) (hd : ∀j,j<ds.length→1≤ds.getD j 0∧ds.getD j 0≤12) {n:Int} (hn:n≤40) (hf:fit2 ds n):Hom1 ds fs n:=fun p hp x hx=>by
 have hp':=List.mem_of_mem_take hp
 have h1:=dS_wt hG hw (mon_pok h8 hp') (mon_ex h8 hp' hd) hx
 have hA:=isAlg_ok hG hw
 have h2:=dS_one hA h8 hd hp'
 rw [monL_fit hf.2]
 exact mon_in h8 hd (by omega) (h2.key x hx) h1.1 (by rw [h1.2,mon_wt h8 hp'])
theorem fn120:Fn Tryz.prog 120:=⟨_,Tryz.func120,by kernel_rfl,rfl⟩
theorem fn142:Fn Tryz.prog 142:=⟨_,Tryz.func142,by kernel_rfl,rfl⟩
theorem fn63:Fn Tryz.prog 63:=⟨_,Tryz.func63,by kernel_rfl,rfl⟩
theorem fn65:Fn Tryz.prog 65:=⟨_,Tryz.func65,by kernel_rfl,rfl⟩
theorem alg_112 {ds:List Int} {fs:List (List Term)} (h:isAlg ds fs=true) : ∀j,j<ds.length→1≤ds.getD j 0∧ds.getD j 0≤12:=fun j hj=>by
 have h1:=isDeg_bd (isAlg_deg h) j
 have h2:=isDeg_pos1 (isAlg_deg h) j hj
 omega
def askB (m:Int):Bool:=decide (0≤m) && decide (m≤20)
theorem wi_fit {ds:List Int} {a b k:Int} (h:wiB ds a b=true) (h1:max a 0≤k) (h2:k≤b):fitB ds k=true:=by
 have:=List.all_eq_true.1 h (k - max a 0).toNat (List.mem_range.2 (by omega))
 rwa [show max a 0+(((k - max a 0).toNat:Nat):Int)=k by omega] at this
def clV (ds:List Int) (fs:List (List Term)) (n:Int) (v:List Int):List Int:=(csS ds fs n).map fun r=>(byS v (bdS ds fs n)).getD (ldR r) 0
theorem clS_len {ds:List Int} {fs:List (List Term)} {n:Int} (hA:AlgOk ds fs) (h8:ds.length≤8) (hd : ∀j,j<ds.length→1≤ds.getD j 0∧ds.getD j 0≤12):(clS ds fs n).length≤121:=Nat.le_trans (clS_red hA h8 hd).count (monL_len ds n)
theorem bdS_len {ds:List Int} {fs:List (List Term)} {n:Int} (hA:AlgOk ds fs) (h8:ds.length≤8) (hd : ∀j,j<ds.length→1≤ds.getD j 0∧ds.getD j 0≤12):(bdS ds fs n).length≤121:=Nat.le_trans (bdS_red hA h8 hd).count (monL_len ds n)
theorem csS_len {ds:List Int} {fs:List (List Term)} {n:Int} (hA:AlgOk ds fs) (h8:ds.length≤8) (hd : ∀j,j<ds.length→1≤ds.getD j 0∧ds.getD j 0≤12):(csS ds fs n).length≤121:=Nat.le_trans (csS_red hA h8 hd).count (monL_len ds n)
theorem Hp.kerM {B:World} {H0 H:HP} {L:List SA} {w:World} {q:Option Addr} {c:Nat} {rs:List (List Int)} {vs:Vs} {W:Nat} (hW : ∀r∈rs,RowOk W r) (hn:rs.length+W≤100000) (hH:Hp B H0 H (mlt (RwK q c rs) H vs::L) w) :
 Calls Tryz.prog 142 [.slice q rs.length c,.int .i64 (W:Int)].toArray w fun e w'=>∃q c vs,e = .returned (.slice q (kerS rs W).length c)∧Hp B H0 H (mlt (RwK q c (kerS rs W)) H vs::L) w':=
 hH.lend .z fun H1 hle hA _ hH1=>(l03Kernel_c (crs:=c) (mlt_rows hle hA).1 hW hn hH1).mono fun e w' h=>by
  obtain ⟨H',q',c',hle',hI,hc,he,hH'⟩:=h
  obtain ⟨vs',h2⟩:=hH.melt (K:=RwK q' c' (kerS rs W)) hH' (hle.trans hle') ⟨hI,hc⟩
  exact ⟨q',c',vs',he,h2⟩
theorem l03Matrix_m {B:World} {H0 H:HP} {L:List SA} {w:World} {qad qaf:Option Addr} {cad caf:Nat} {ad:List Int} {af:List (List Term)} {n:Int} (had:Ints H qad ad) (haf:Forms H qaf af) (hd : ∀j,j<ad.length→1≤ad.getD j 0∧ad.getD j 0≤12) (h8:ad.length≤8) (hn : -1≤n∧n≤100000) (hA:AlgOk ad af) (hfit:fit2 ad n) (hom:Hom1 ad af n) (hH:Hp B H0 H L w) :
 Calls Tryz.prog 120 [.agg [.slice qad ad.length cad,.slice qaf af.length caf].toArray,.int .i64 n].toArray w fun e w'=>∃q c vs,e = .returned (.slice q (matS ad af n).length c)∧Hp B H0 H (mlt (RwK q c (matS ad af n)) H vs::L) w':=(l03Matrix_c had haf hd h8 hn hA hfit hom hH).mono fun e w' h=>by
 obtain ⟨H',q,c,hle,hI,hc,he,hH'⟩:=h
 obtain ⟨vs,h2⟩:=hH.melt (K:=RwK q c (matS ad af n)) hH' hle ⟨hI,hc⟩
 exact ⟨q,c,vs,he,h2⟩
theorem l03Bounds_c {B:World} {H0 H:HP} {L:List SA} {w:World} {qad qaf:Option Addr} {cad caf:Nat} {ad:List Int} {af:List (List Term)} {n:Int} (had:Ints H qad ad) (haf:Forms H qaf af) (hG:isAlg ad af=true) (hn:0≤n∧n≤40) (hfit:0<n→fit2 ad (n - 1)) (hH:Hp B H0 H L w):Calls Tryz.prog 69 [.agg [.slice qad ad.length cad,.slice qaf af.length caf].toArray,.int .i64 n].toArray w fun e w'=>∃H' q c,Le H H' ∧RowsR H' q (bdS ad af n)∧(bdS ad af n).length≤c∧e = .returned (.slice q (bdS ad af n).length c)∧Hp B H0 H' L w':=by
 refine Jx Tryz.func69 rfl 13 rfl rfl [(0,.agg [.slice qad ad.length cad,.slice qaf af.length caf].toArray),(1,.int .i64 n)] rfl hH ?_;have hw0:=hH.old;have hw1:=hH.le;clear hH;have hwf:=haf.wfss;have hA:=isAlg_ok hG hwf;have h8:=hA.hn;have hd:=alg_112 hG;have hml:=monL_len ad n;have hml1:=monL_len ad (n+1);have hml0:=monL_len ad (n - 1);have hml2:=monL_len ad (n - 1+1);refine Je fun _ hK1 _=>(Jb (JW rfl rfl rfl fun g2=>(Jg (Jd rfl) rfl (Jf (Ja (hK1 (Je fun _ hK2 _=>(Je fun _ hK3 _=>(Jb (Jg (Jc rfl) rfl (Jg (EL rfl rfl) rfl (Jf (Ja (hK3 (Jq rfl (fun h6=>?_) (fun h6=>?_))))))))))))))))
 ·
  refine Je fun _ hK4 _=>(Jb (EI (EP u31 sz22) rfl fun qo7 co7=>?_));have hnil:=SlF.nil H;refine Ev .z fun Ho7 hleo7 hAo7=>?_;replace had:=had.le hleo7;replace haf:=haf.le hleo7;replace hnil:=hnil.le hleo7;have hxo7:=hnil.rows (Le.refl _) hAo7;have hco7:=own_le hAo7;refine Jg (Jd rfl) rfl (Jf (Ja (hK4 (Jt (Jk (Jr rfl (Res.tmp rfl) fun w hH=>?_))))));replace hH:=hH.tail;rw [show bdS ad af n=[] from if_neg (by omega)];exact ⟨_,_,_,hleo7,hxo7,hco7,rfl,hH⟩
 ·
  refine Jn (Ja (hK2 (Je fun _ hK5 _=>(Jb (Jg (Jm rfl At.z (by simpa [*] using ag36)) rfl (Jg (Jc rfl) rfl (Jg (EH rfl rfl (by first | exact nw _ (by omega) | rfl)) rfl (Ju fn120 rfl rfl fun w hH=>(l03Matrix_c had haf hd h8 (by omega) hA (hfit (by omega)) (hom_of hG hwf h8 hd (by omega) (hfit (by omega))) hH).mono ?_))))))));rintro _ w ⟨Hf11,qf11,cf11,hlf11,hI11,hcc11,rfl,hH⟩;refine ⟨_,rfl,fun a hF=>JH hF hH ?_⟩;replace had:=had.le hlf11;replace haf:=haf.le hlf11;refine Ju fn119 rfl rfl fun w hH=>(l03Reduce_c (W:=(monL ad (n - 1+1)).length) hI11 (matS_ok hA h8 hd) (by rw [matS_len];omega) (by omega) hH).mono ?_;rintro _ w ⟨Hf12,qf12,cf12,hlf12,hI12,hcc12,rfl,hH⟩;refine ⟨_,rfl,fun a hF=>JH hF hH ?_⟩;replace had:=had.le hlf12;replace haf:=haf.le hlf12;replace hI11:=hI11.le hlf12;refine Jg (Jd rfl) rfl (Jf (Ja (hK5 (Jt (Jr rfl (Res.tmp rfl) fun w hH=>?_)))));replace hH:=hH.tail;rw [show bdS ad af n=redS (matS ad af (n - 1)) from if_pos (by omega)];exact ⟨_,_,_,(hlf11.trans hlf12),hI12,hcc12,rfl,hH⟩
theorem l03Bounds_m {B:World} {H0 H:HP} {L:List SA} {w:World} {qad qaf:Option Addr} {cad caf:Nat} {ad:List Int} {af:List (List Term)} {n:Int} (had:Ints H qad ad) (haf:Forms H qaf af) (hG:isAlg ad af=true) (hn:0≤n∧n≤40) (hfit:0<n→fit2 ad (n - 1)) (hH:Hp B H0 H L w) :
 Calls Tryz.prog 69 [.agg [.slice qad ad.length cad,.slice qaf af.length caf].toArray,.int .i64 n].toArray w fun e w'=>∃q c vs,e = .returned (.slice q (bdS ad af n).length c)∧Hp B H0 H (mlt (RwK q c (bdS ad af n)) H vs::L) w':=(l03Bounds_c had haf hG hn hfit hH).mono fun e w' h=>by
 obtain ⟨H',q,c,hle,hI,hc,he,hH'⟩:=h
 obtain ⟨vs,h2⟩:=hH.melt (K:=RwK q c (bdS ad af n)) hH' hle ⟨hI,hc⟩
 exact ⟨q,c,vs,he,h2⟩
theorem l03Closed_c {B:World} {H0 H:HP} {L:List SA} {w:World} {qad qaf:Option Addr} {cad caf:Nat} {ad:List Int} {af:List (List Term)} {n:Int} (had:Ints H qad ad) (haf:Forms H qaf af) (hG:isAlg ad af=true) (hn:0≤n∧n≤40) (hfit:fit2 ad n) (hH:Hp B H0 H L w):Calls Tryz.prog 117 [.agg [.slice qad ad.length cad,.slice qaf af.length caf].toArray,.int .i64 n].toArray w fun e w'=>∃H' q c,Le H H' ∧RowsR H' q (clS ad af n)∧(clS ad af n).length≤c∧e = .returned (.slice q (clS ad af n).length c)∧Hp B H0 H' L w':=by
 refine Jx Tryz.func117 rfl 15 rfl rfl [(0,.agg [.slice qad ad.length cad,.slice qaf af.length caf].toArray),(1,.int .i64 n)] rfl hH ?_;have hw0:=hH.old;have hw1:=hH.le;clear hH;have hwf:=haf.wfss;have hA:=isAlg_ok hG hwf;have h8:=hA.hn;have hd:=alg_112 hG;have hml:=monL_len ad n;have hml1:=monL_len ad (n+1);have hmT1:=monT_L hfit.2;have hmlen:=matS_len ad af n;refine Je fun _ hK1 _=>(Jb (JW rfl rfl rfl fun g2=>(Jg (Jd rfl) rfl (Jf (Ja (hK1 (Je fun _ hK2 _=>(Ea (Rs:=[_]) 11 [[], [], [0,1], [], [3], [], [5], [0,1,2,3,4,5,6], [0,1,2,3,4,5,6,7], [0,1,2,3,4,5,6,7,8], [0,1,2,3,4,5,6,7,8,9]] [[11], [], [], [], [11], [], [], [], [], [], []] [[], [], [], [], [], [], [], [], [], [2], []] rfl rfl (by kernel_rfl) ?_))))))));apply Ji 1 rfl rfl rfl
 ·intros;conv=>lhs;simp only [Jh,reduceEqDiff,reduceAdd]
 ·exact Jm rfl At.z (by simpa [*] using ag36)
 apply Ji 2 rfl rfl rfl
 ·intros;conv=>lhs;simp only [Jh,reduceEqDiff,reduceAdd]
 ·exact Jc rfl
 apply JR 3 rfl
 ·intros;conv=>lhs;simp only [Jh,reduceEqDiff,reduceAdd]
 ·
  intro gh X K zq zc zq2 zc2 zb zv hK;refine Ju fn120 rfl rfl fun w hH=>(l03Matrix_m had haf hd h8 (by omega) hA hfit (hom_of hG hwf h8 hd (by omega) hfit) hH).mono ?_;rintro _ w ⟨qo7,co7,vso7,rfl,hH⟩;refine ⟨_,rfl,fun a hF=>JH hF hH ?_⟩;refine Jy ?_;exact hK qo7 co7 zq2 zc2 zb vso7
 ·intro gh gh' h;refine ⟨?_,?_⟩ <;> rfl
 apply Ji 4 rfl rfl rfl
 ·intros;conv=>lhs;simp only [Jh,reduceEqDiff,reduceAdd]
 ·exact Jl u36 rfl sz22 rfl
 apply Ji 5 rfl rfl rfl
 ·intros;conv=>lhs;simp only [Jh,reduceEqDiff,reduceAdd]
 ·exact Js rfl At.z rfl pl22
 apply Ji 6 rfl rfl rfl
 ·intros;conv=>lhs;simp only [Jh,reduceEqDiff,reduceAdd]
 ·exact Jc rfl
 apply Ji 7 rfl rfl rfl
 ·intros;conv=>lhs;simp only [Jh,reduceEqDiff,reduceAdd]
 ·exact Jz rfl rfl (by first | exact nw _ (by omega) | rfl)
 apply JR 8 rfl
 ·intros;conv=>lhs;simp only [Jh,reduceEqDiff,reduceAdd]
 ·
  intro gh X K zq zc zq2 zc2 zb zv hK;refine Ju fn68 rfl rfl fun w hH=>(l01Monomials_c had hd h8 (by omega) hH).mono ?_;rintro _ w ⟨qo12,co12,rfl,hH⟩;refine ⟨_,rfl,fun a hF=>JH hF hH ?_⟩;refine Jy ?_;exact hK qo12 co12 zq2 zc2 zb zv
 ·intro gh gh' h;refine ⟨?_,?_⟩ <;> (first | simp only [h 2 rfl] | rfl)
 apply Ef 9 rfl rfl rfl
 ·intros;conv=>lhs;simp only [Jh,reduceEqDiff,reduceAdd]
 ·exact Ep (v':=.int .i64 (((monL ad (n+1)).length:Nat):Int)) (by rw [hmT1]) (Jo u135 rfl rfl)
 ·intro gh gh' h;first | simp only [h 2 rfl,h 7 rfl] | rfl
 apply JR 10 rfl
 ·intros;conv=>lhs;simp only [Jh,reduceEqDiff,reduceAdd]
 ·
  intro gh X K zq zc zq2 zc2 zb zv hK;refine Ju fn142 rfl rfl fun w hH=>(Hp.kerM (matS_ok hA h8 hd) (by omega) (hH.front .z)).mono ?_;rintro _ w ⟨qo14,co14,vso14,rfl,hH⟩;refine ⟨_,rfl,fun a hF=>JH hF hH ?_⟩;refine Jy ?_;exact hK qo14 co14 zq2 zc2 zb vso14
 ·intro gh gh' h;refine ⟨?_,?_⟩ <;> (first | simp only [h 2 rfl,h 7 rfl] | rfl)
 apply Ef 11 rfl rfl rfl
 ·intros;conv=>lhs;simp only [Jh,reduceEqDiff,reduceAdd]
 ·exact Jd rfl
 ·intro gh gh' h;first | simp only [h 2 rfl,h 7 rfl,h 9 rfl] | rfl
 apply JZ [0,1,2,3,4,5,6,7,8,9,10] [0,1,3,4,5,6,7,8,9,10,11] foll0 rfl rfl rfl (by rfl)
 iterate 2 focus (intros;(conv=>lhs;simp only [JU,Ej,Ka,El,Es,eq_self,reduceEqDiff,reduceIte,reduceSub,reduceAdd,JxA,JxB]);all_goals rfl)
 intro gh;generalize (gh 2).c=co7;generalize (gh 2).q=qo7;generalize (gh 2).vs=vso7;generalize (gh 7).c=co12;generalize (gh 7).q=qo12;generalize (gh 9).c=co14;generalize (gh 9).q=qo14;generalize (gh 9).vs=vso14;clear gh;refine EA (.s .z) fun Ho14 hleo14 hAo14=>?_;replace had:=had.le hleo14;replace haf:=haf.le hleo14;obtain ⟨hxo14,hco14⟩:=mlt_rows hleo14 hAo14;refine Ja (hK2 (Jt (Jr rfl (Res.tmp rfl) fun w hH=>?_)));replace hH:=hH.tail;replace hH:=hH.tail;exact ⟨_,_,_,hleo14,hxo14,hco14,rfl,hH⟩
theorem l03Closed_m {B:World} {H0 H:HP} {L:List SA} {w:World} {qad qaf:Option Addr} {cad caf:Nat} {ad:List Int} {af:List (List Term)} {n:Int} (had:Ints H qad ad) (haf:Forms H qaf af) (hG:isAlg ad af=true) (hn:0≤n∧n≤40) (hfit:fit2 ad n) (hH:Hp B H0 H L w) :
 Calls Tryz.prog 117 [.agg [.slice qad ad.length cad,.slice qaf af.length caf].toArray,.int .i64 n].toArray w fun e w'=>∃q c vs,e = .returned (.slice q (clS ad af n).length c)∧Hp B H0 H (mlt (RwK q c (clS ad af n)) H vs::L) w':=(l03Closed_c had haf hG hn hfit hH).mono fun e w' h=>by
 obtain ⟨H',q,c,hle,hI,hc,he,hH'⟩:=h
 obtain ⟨vs,h2⟩:=hH.melt (K:=RwK q c (clS ad af n)) hH' hle ⟨hI,hc⟩
 exact ⟨q,c,vs,he,h2⟩
theorem fn117:Fn Tryz.prog 117:=⟨_,Tryz.func117,by kernel_rfl,rfl⟩
theorem fn67:Fn Tryz.prog 67:=⟨_,Tryz.func67,by kernel_rfl,rfl⟩
theorem fn69:Fn Tryz.prog 69:=⟨_,Tryz.func69,by kernel_rfl,rfl⟩
theorem csK_succ {ds:List Int} {fs:List (List Term)} {n:Int} {k:Nat} (hk:k<(clS ds fs n).length):redS (lfK ds fs n (k+1))=putS (redS (lfK ds fs n k)) (byS (rw_ (clS ds fs n) k) (bdS ds fs n)):=by
 unfold redS;rw [lfK_succ hk,List.foldl_append]
 rfl
theorem Hp.byM {B:World} {H0 H:HP} {L:List SA} {w:World} {q q2:Option Addr} {c c2 W:Nat} {row:List Int} {rs:List (List Int)} {vs:Vs} (hw:RowOk W row) (hW : ∀r∈rs,RowOk W r∧ldR r<W) (hn:rs.length≤1000000) (hWn:W≤1000000) (hH:Hp B H0 H (mlt (RwK q2 c2 rs) H vs::own 2 1 q row.length c (intsC row)::L) w) :
 Calls Tryz.prog 70 [.slice q row.length c,.slice q2 rs.length c2].toArray w fun e w'=>∃q c vs,e = .returned (.slice q (byS row rs).length c)∧Hp B H0 H (mlt (InK q c (byS row rs)) H vs::L) w':=
 hH.lend .z fun H1 hle hA _ hH1=>hH1.lend .z fun H2 hle2 hA2 _ hH2=>(l03By_c (crow:=c) (crs:=c2) (own_ints hA2) ((mlt_rows hle hA).1.le hle2) hw hW hn hWn (own_le hA2) hH2).mono fun e w' h=>by
  obtain ⟨H',q',c',hle',hI,hc,he,hH'⟩:=h
  obtain ⟨vs',h2⟩:=hH.melt (K:=InK q' c' (byS row rs)) hH' ((hle.trans hle2).trans hle') ⟨hI,hc⟩
  exact ⟨q',c',vs',he,h2⟩
theorem l03Classes_c {B:World} {H0 H:HP} {L:List SA} {w:World} {qad qaf:Option Addr} {cad caf:Nat} {ad:List Int} {af:List (List Term)} {n:Int} (had:Ints H qad ad) (haf:Forms H qaf af) (hG:isAlg ad af=true) (hn:0≤n∧n≤40) (hfit:fit3 ad n) (hH:Hp B H0 H L w):Calls Tryz.prog 67 [.agg [.slice qad ad.length cad,.slice qaf af.length caf].toArray,.int .i64 n].toArray w fun e w'=>∃H' q c,Le H H' ∧RowsR H' q (csS ad af n)∧(csS ad af n).length≤c∧e = .returned (.slice q (csS ad af n).length c)∧Hp B H0 H' L w':=by
 refine Jx Tryz.func67 rfl 31 rfl rfl [(0,.agg [.slice qad ad.length cad,.slice qaf af.length caf].toArray),(1,.int .i64 n)] rfl hH ?_;have hw0:=hH.old;have hw1:=hH.le;clear hH;have hwf:=haf.wfss;have hA:=isAlg_ok hG hwf;have h8:=hA.hn;have hd:=alg_112 hG;have hml:=monL_len ad n;have hml1:=monL_len ad (n+1);have hclR:=clS_red (n:=n) hA h8 hd;have hbdR:=bdS_red (n:=n) hA h8 hd;have hcll:=clS_len (n:=n) hA h8 hd;have hbdl:=bdS_len (n:=n) hA h8 hd;have hcsR:=csS_red (n:=n) hA h8 hd;have hcsl:=csS_len (n:=n) hA h8 hd;refine Je fun _ hK1 _=>(Jb (JW rfl rfl rfl fun g2=>(Jg (Jd rfl) rfl (Jf (Ja (hK1 (Je fun _ hK2 _=>(Ea (Rs:=[_]) 10 [[], [], [0,1], [], [], [0,1,2,3,4], [], [0,1,2,3,4,5], [0,1,2,3,4,5,7], [0,1,2,3,4,5,6,7,8]] [[10], [], [], [10], [], [], [], [], [], []] [[], [], [], [], [], [], [], [], [], []] rfl rfl (by kernel_rfl) ?_))))))));apply Ji 1 rfl rfl rfl
 ·intros;conv=>lhs;simp only [Jh,reduceEqDiff,reduceAdd]
 ·exact Jm rfl At.z (by simpa [*] using ag36)
 apply Ji 2 rfl rfl rfl
 ·intros;conv=>lhs;simp only [Jh,reduceEqDiff,reduceAdd]
 ·exact Jc rfl
 apply JR 3 rfl
 ·intros;conv=>lhs;simp only [Jh,reduceEqDiff,reduceAdd]
 ·
  intro gh X K zq zc zq2 zc2 zb zv hK;refine Ju fn117 rfl rfl fun w hH=>(l03Closed_m had haf hG (by omega) hfit.1 hH).mono ?_;rintro _ w ⟨qo11,co11,vso11,rfl,hH⟩;refine ⟨_,rfl,fun a hF=>JH hF hH ?_⟩;refine Jy ?_;exact hK qo11 co11 zq2 zc2 zb vso11
 ·intro gh gh' h;refine ⟨?_,?_⟩ <;> rfl
 apply Ji 4 rfl rfl rfl
 ·intros;conv=>lhs;simp only [Jh,reduceEqDiff,reduceAdd]
 ·exact Jm rfl At.z (by simpa [*] using ag36)
 apply Ji 5 rfl rfl rfl
 ·intros;conv=>lhs;simp only [Jh,reduceEqDiff,reduceAdd]
 ·exact Jc rfl
 apply JR 6 rfl
 ·intros;conv=>lhs;simp only [Jh,reduceEqDiff,reduceAdd]
 ·
  intro gh X K zq zc zq2 zc2 zb zv hK;refine Ju fn69 rfl rfl fun w hH=>(l03Bounds_m had haf hG (by omega) (fun h=>⟨hfit.2 h,by rw [Int.sub_add_cancel];exact hfit.1.1⟩) hH).mono ?_;rintro _ w ⟨qo14,co14,vso14,rfl,hH⟩;refine ⟨_,rfl,fun a hF=>JH hF hH ?_⟩;refine Jy ?_;exact hK qo14 co14 zq2 zc2 zb vso14
 ·intro gh gh' h;refine ⟨?_,?_⟩ <;> (first | simp only [h 2 rfl] | rfl)
 apply JR 7 rfl
 ·intros;conv=>lhs;simp only [Jh,reduceEqDiff,reduceAdd]
 ·
  intro gh X K zq zc zq2 zc2 zb zv hK;refine EI (EP u31 sz22) rfl fun qo15 co15=>(Jy ?_);exact hK qo15 co15 zq2 zc2 zb zv
 ·intro gh gh' h;refine ⟨?_,?_⟩ <;> rfl
 apply Ef 8 rfl rfl rfl
 ·intros;conv=>lhs;simp only [Jh,reduceEqDiff,reduceAdd]
 ·exact Jd rfl
 ·intro gh gh' h;first | simp only [h 2 rfl,h 5 rfl] | rfl
 apply Ef 9 rfl rfl rfl
 ·intros;conv=>lhs;simp only [Jh,reduceEqDiff,reduceAdd]
 ·exact Jd rfl
 ·intro gh gh' h;first | simp only [h 2 rfl,h 5 rfl] | rfl
 apply Ef 10 rfl rfl rfl
 ·intros;conv=>lhs;simp only [Jh,reduceEqDiff,reduceAdd]
 ·exact Jd rfl
 ·intro gh gh' h;first | simp only [h 2 rfl,h 5 rfl,h 6 rfl] | rfl
 apply JZ [0,1,2,3,4,5,6,7,8,9] [0,1,2,3,4,5,6,7,8,9,10] foll0 rfl rfl rfl (by rfl)
 iterate 2 focus (intros;(conv=>lhs;simp only [JU,Ej,Ka,El,Es,eq_self,reduceEqDiff,reduceIte,reduceSub,reduceAdd,JxA,JxB]);all_goals rfl)
 intro gh;generalize (gh 2).c=co11;generalize (gh 2).q=qo11;generalize (gh 2).vs=vso11;generalize (gh 5).c=co14;generalize (gh 5).q=qo14;generalize (gh 5).vs=vso14;generalize (gh 6).c=co15;generalize (gh 6).q=qo15;clear gh;have hnil:=SlF.nil H;refine EA .z fun Ho11 hleo11 hAo11=>?_;replace had:=had.le hleo11;replace haf:=haf.le hleo11;replace hnil:=hnil.le hleo11;obtain ⟨hxo11,hco11⟩:=mlt_rows hleo11 hAo11;refine EA .z fun Ho14 hleo14 hAo14=>?_;replace had:=had.le hleo14;replace haf:=haf.le hleo14;replace hnil:=hnil.le hleo14;replace hxo11:=hxo11.le hleo14;obtain ⟨hxo14,hco14⟩:=mlt_rows (hleo11.trans hleo14) hAo14;refine EA .z fun Ho15 hleo15 hAo15=>?_;replace had:=had.le hleo15;replace haf:=haf.le hleo15;replace hnil:=hnil.le hleo15;replace hxo11:=hxo11.le hleo15;replace hxo14:=hxo14.le hleo15;have hxo15:=hnil.rows (Le.refl _) hAo15;have hco15:=own_le hAo15;refine Ja (hK2 (Je fun _ hK3 _=>(Je fun _ hK4 _=>(Jb (Jg (Jd rfl) rfl (Jf (Ja (hK4 (Jp (JD (σ:=HP × Option Addr × Nat × Nat) (fun ⟨Hk,q,c,k⟩=>[(8,.int .i64 (k:Int)),(7,.slice q (redS (lfK ad af n k)).length c)]) (fun ⟨Hk,q,c,k⟩=>Hk) (fun ⟨Hk,q,c,k⟩=>obj g2 (.cells [.slice qad ad.length cad,.slice qaf af.length caf].toArray 36 (0,0))::L) (fun ⟨Hk,q,c,k⟩=>Le Ho15 Hk∧RowsR Hk q (redS (lfK ad af n k))∧(redS (lfK ad af n k)).length≤c∧k≤(clS ad af n).length) (fun ⟨Hk,q,c,k⟩=>(clS ad af n).length - k) (Ho15,qo15,co15,0) ⟨Le.refl _,hxo15,hco15,by omega⟩ ⟨rfl,⟨rfl,trivial⟩⟩ rfl rfl ?_))))))))));rintro ⟨Hk,q,c,k⟩ ⟨hlk,hS,hSc,hk⟩ _ hAg0;replace had:=had.le hlk;replace haf:=haf.le hlk;replace hnil:=hnil.le hlk;replace hxo11:=hxo11.le hlk;replace hxo14:=hxo14.le hlk;replace hxo15:=hxo15.le hlk;have hRk:=(redS_ok (lfK_ok (n:=n) (k:=k) hA h8 hd)).1;refine Je fun _ hK5 _=>(Je fun _ hK6 _=>(Jb (Jg (Jc rfl) rfl (Jg (Jc rfl) rfl (Jg (Jo u31 rfl rfl) rfl (Jg (JJ rfl rfl) rfl (Jf (Ja (hK6 (Jq rfl (fun h19=>?_) (fun h19=>?_)))))))))))
 ·
  have hk1:k<(clS ad af n).length:=by omega
  have hrk:=hclR.row _ (rw_mem hk1);refine Jn (Ja (hK5 (Je fun _ hK7 _=>(Jp (Jb (Jg (Jc rfl) rfl (Jg (Jc rfl) rfl (Jg (Jc rfl) rfl (Jg (JL u31 sz22 rfl rfl rfl hk1 hxo11.sm) rfl ?_)))))))));obtain ⟨qe26,ce26,he26,le26,Fe26⟩:=hxo11 k hk1;refine Jg (JE rfl he26 pl22) rfl (Jg (Jc rfl) rfl (Ju fn70 rfl rfl fun w hH=>(l03By_c Fe26 hxo14 hrk hbdR.led (by omega) (by omega) le26 hH).mono ?_));rintro _ w ⟨Hf28,qf28,cf28,hlf28,hI28,hcc28,rfl,hH⟩;refine ⟨_,rfl,fun a hF=>JH hF hH ?_⟩;replace had:=had.le hlf28;replace haf:=haf.le hlf28;replace hnil:=hnil.le hlf28;replace hxo11:=hxo11.le hlf28;replace hxo14:=hxo14.le hlf28;replace hxo15:=hxo15.le hlf28;replace hS:=hS.le hlf28;replace Fe26:=Fe26.le hlf28;refine Ju fn49 rfl rfl fun w hH=>(l03Put_c hS hI28 hRk (byS_ok hrk hbdR.row) (by omega) hcc28 hSc hH).mono ?_;rintro _ w ⟨Hf29,qf29,cf29,hlf29,hI29,hcc29,rfl,hH⟩;refine ⟨_,rfl,fun a hF=>JH hF hH ?_⟩;replace had:=had.le hlf29;replace haf:=haf.le hlf29;replace hnil:=hnil.le hlf29;replace hxo11:=hxo11.le hlf29;replace hxo14:=hxo14.le hlf29;replace hxo15:=hxo15.le hlf29;replace hS:=hS.le hlf29;replace Fe26:=Fe26.le hlf29;replace hI28:=hI28.le hlf29;refine Jg (Jd rfl) rfl (Jf (JF (Ja (hK7 (Jb (Jg (Jc rfl) rfl (Jg (Jz rfl rfl (by first | exact nw _ (by omega) | rfl)) rfl (Jg (Jd rfl) rfl (Jf (Ja ?_))))))))));exact hAg0 (Hf29,qf29,cf29,k+1) ⟨((hlk.trans hlf28).trans hlf29),by rw [csK_succ hk1];exact hI29,by rw [csK_succ hk1];exact hcc29,by omega⟩ (by show (clS ad af n).length - (k+1)<(clS ad af n).length - k;omega) 18 rfl rfl ⟨rfl,⟨(by rw [csK_succ hk1];rfl),trivial⟩⟩ rfl rfl
 ·
  refine JG (Jj (Jj (JK (Ja (hK3 (Je fun _ hK8 _=>(Jb (Jg (Jc rfl) rfl (Jg (Jd rfl) rfl (Jf (Ja (hK8 (Jt (Jr rfl (Res.tmp rfl) fun w hH=>?_))))))))))))));replace hH:=hH.tail
  have hke:k=(clS ad af n).length:=by omega
  rw [lfK_end hke] at hS hSc;exact ⟨_,q,c,(((hleo11.trans hleo14).trans hleo15).trans hlk),hS,hSc,by rw [lfK_end hke],hH⟩
theorem l03Classes_m {B:World} {H0 H:HP} {L:List SA} {w:World} {qad qaf:Option Addr} {cad caf:Nat} {ad:List Int} {af:List (List Term)} {n:Int} (had:Ints H qad ad) (haf:Forms H qaf af) (hG:isAlg ad af=true) (hn:0≤n∧n≤40) (hfit:fit3 ad n) (hH:Hp B H0 H L w) :
 Calls Tryz.prog 67 [.agg [.slice qad ad.length cad,.slice qaf af.length caf].toArray,.int .i64 n].toArray w fun e w'=>∃q c vs,e = .returned (.slice q (csS ad af n).length c)∧Hp B H0 H (mlt (RwK q c (csS ad af n)) H vs::L) w':=(l03Classes_c had haf hG hn hfit hH).mono fun e w' h=>by
 obtain ⟨H',q,c,hle,hI,hc,he,hH'⟩:=h
 obtain ⟨vs,h2⟩:=hH.melt (K:=RwK q c (csS ad af n)) hH' hle ⟨hI,hc⟩
 exact ⟨q,c,vs,he,h2⟩
theorem cfR_ok {ds:List Int} {n:Int} {M:Int} {s:Sm} (hs:Sok M s):RowOk (monL ds n).length ((monL ds n).map (cf s)):=⟨by simp,fun k=>by
 by_cases hk:k<(monL ds n).length
 ·have e:((monL ds n).map (cf s)).getD k 0=cf s (monL ds n)[k]:=by simp [List.getD_eq_getElem?_getD,List.getElem?_eq_getElem hk]
  rw [e]
  exact cf_bd hs _
 ·rw [getD_ge (by simp;omega)]
  omega⟩
theorem vec_mon {ds:List Int} {n:Int} {M:Int} {f:List Term} (h8:ds.length≤8) (hf:Sok M (toS f)) (hi : ∀x∈toS f,x.1∈monL ds n):vec f (monL ds n)=(monL ds n).map (cf (toS f)):=vec_cf hf.srt (monL_srt ds n h8) hi
def clK (ds:List Int) (fs:List (List Term)) (n:Int) (v:List Int) (k:Nat):List Int:=((csS ds fs n).take k).map fun r=>(byS v (bdS ds fs n)).getD (ldR r) 0
theorem clK_succ {ds:List Int} {fs:List (List Term)} {n:Int} {v:List Int} {k:Nat} (hk:k<(csS ds fs n).length):clK ds fs n v (k+1)=clK ds fs n v k++[(byS v (bdS ds fs n)).getD (ldR (rw_ (csS ds fs n) k)) 0]:=by
 unfold clK;rw [rw_take hk,List.map_append]
 rfl
theorem clK_end {ds:List Int} {fs:List (List Term)} {n:Int} {v:List Int} {k:Nat} (hk:k=(csS ds fs n).length):clK ds fs n v k=clV ds fs n v:=by
 subst hk;unfold clK clV;rw [List.take_length]
theorem clK_len {ds:List Int} {fs:List (List Term)} {n:Int} {v:List Int} {k:Nat} (hk:k≤(csS ds fs n).length):(clK ds fs n v k).length=k:=by
 unfold clK;rw [List.length_map,List.length_take]
 omega
theorem clV_len (ds:List Int) (fs:List (List Term)) (n:Int) (v:List Int):(clV ds fs n v).length=(csS ds fs n).length:=by simp [clV]
theorem l03Class_c {B:World} {H0 H:HP} {L:List SA} {w:World} {qad qaf:Option Addr} {cad caf:Nat} {ad:List Int} {af:List (List Term)} {n:Int} {qts:Option Addr} {cts:Nat} {ts:List Term} {M:Int} (had:Ints H qad ad) (haf:Forms H qaf af) (hts:Terms H qts ts) (hG:isAlg ad af=true) (hn:0≤n∧n≤40) (hfit:fit3 ad n) (hfl:ts.length≤1000000) (hfs:Sok M (toS ts)) (hfi : ∀x∈toS ts,x.1∈monL ad n) (hH:Hp B H0 H L w):Calls Tryz.prog 50 [.agg [.slice qad ad.length cad,.slice qaf af.length caf].toArray,.int .i64 n,.agg [.slice qts ts.length cts].toArray].toArray w fun e w'=>∃q c,e = .returned (.slice q (clV ad af n ((monL ad n).map (cf (toS ts)))).length c)∧Hp B H0 H (own 2 1 q (clV ad af n ((monL ad n).map (cf (toS ts)))).length c (intsC (clV ad af n ((monL ad n).map (cf (toS ts)))))::L) w':=by
 refine Jx Tryz.func50 rfl 43 rfl rfl [(0,.agg [.slice qad ad.length cad,.slice qaf af.length caf].toArray),(1,.int .i64 n),(2,.agg [.slice qts ts.length cts].toArray)] rfl hH ?_;have hw0:=hH.old;have hw1:=hH.le;clear hH;have hwf:=haf.wfss;have hA:=isAlg_ok hG hwf;have h8:=hA.hn;have hd:=alg_112 hG;have hml:=monL_len ad n;have hml1:=monL_len ad (n+1);have hclR:=clS_red (n:=n) hA h8 hd;have hbdR:=bdS_red (n:=n) hA h8 hd;have hcll:=clS_len (n:=n) hA h8 hd;have hbdl:=bdS_len (n:=n) hA h8 hd;have hcsR:=csS_red (n:=n) hA h8 hd;have hcsl:=csS_len (n:=n) hA h8 hd;have hmT0:=monT_L hfit.1.1;have hv:=vec_mon h8 hfs hfi;have hvo:=cfR_ok (ds:=ad) (n:=n) hfs;have hbo:=byS_ok hvo hbdR.row;have hbl:=hbo.len;refine Je fun _ hK1 _=>(Jb (JW rfl rfl rfl fun g3=>(JW rfl rfl rfl fun g5=>(Jg (Jd rfl) rfl (Jf (Ja (hK1 (Je fun _ hK2 _=>(Ea (Rs:=[_,_]) 11 [[], [], [1], [], [1,2,3], [0,1,2,3,4], [], [], [0,1,2,3,4,5,6,7], [0,1,2,3,4,5,6,7,8], [0,1,2,3,4,5,6,7,8,9]] [[11], [], [12], [], [], [4], [12], [], [], [], []] [[], [], [], [], [], [], [], [], [], [5,8], []] rfl rfl (by kernel_rfl) ?_)))))))));apply Ji 1 rfl rfl rfl
 ·intros;conv=>lhs;simp only [Jh,reduceEqDiff,reduceAdd]
 ·exact Jm rfl At.z (by simpa [*] using ag40)
 apply Ji 2 rfl rfl rfl
 ·intros;conv=>lhs;simp only [Jh,reduceEqDiff,reduceAdd]
 ·exact Jl u36 rfl sz22 rfl
 apply Ji 3 rfl rfl rfl
 ·intros;conv=>lhs;simp only [Jh,reduceEqDiff,reduceAdd]
 ·exact Js rfl At.z rfl pl22
 apply Ji 4 rfl rfl rfl
 ·intros;conv=>lhs;simp only [Jh,reduceEqDiff,reduceAdd]
 ·exact Jc rfl
 apply JR 5 rfl
 ·intros;conv=>lhs;simp only [Jh,reduceEqDiff,reduceAdd]
 ·
  intro gh X K zq zc zq2 zc2 zb zv hK;refine Ju fn68 rfl rfl fun w hH=>(l01Monomials_c had hd h8 (by omega) hH).mono ?_;rintro _ w ⟨qo15,co15,rfl,hH⟩;refine ⟨_,rfl,fun a hF=>JH hF hH ?_⟩;refine Jy ?_;exact hK qo15 co15 zq2 zc2 zb zv
 ·intro gh gh' h;refine ⟨?_,?_⟩ <;> rfl
 apply JR 6 rfl
 ·intros;conv=>lhs;simp only [Jh,reduceEqDiff,reduceAdd]
 ·
  intro gh X K zq zc zq2 zc2 zb zv hK;refine Ju fn71 rfl rfl fun w hH=>hH.lend .z fun Hl1 hle1 hA1 hB1 hH=>(l03Vector_c (hts.le hle1) (own_monos (monT_8 h8) hA1) (by rw [hmT0];omega) (by omega) (by rw [hmT0];exact monL_mn h8) hH).mono ?_;rintro _ w ⟨qo16,co16,rfl,hH⟩;replace hH:=hB1 _ _ hH;refine ⟨_,rfl,fun a hF=>JH hF hH ?_⟩;refine Jw .z (Jw (.s .z) (Jy ?_));exact hK qo16 co16 zq2 zc2 zb zv
 ·intro gh gh' h;refine ⟨?_,?_⟩ <;> (first | simp only [h 4 rfl] | rfl)
 apply Ji 7 rfl rfl rfl
 ·intros;conv=>lhs;simp only [Jh,reduceEqDiff,reduceAdd]
 ·exact Jm rfl At.z (by simpa [*] using ag36)
 apply Ji 8 rfl rfl rfl
 ·intros;conv=>lhs;simp only [Jh,reduceEqDiff,reduceAdd]
 ·exact Jc rfl
 apply JR 9 rfl
 ·intros;conv=>lhs;simp only [Jh,reduceEqDiff,reduceAdd]
 ·
  intro gh X K zq zc zq2 zc2 zb zv hK;refine Ju fn69 rfl rfl fun w hH=>(l03Bounds_m had haf hG (by omega) (fun h=>⟨hfit.2 h,by rw [Int.sub_add_cancel];exact hfit.1.1⟩) hH).mono ?_;rintro _ w ⟨qo19,co19,vso19,rfl,hH⟩;refine ⟨_,rfl,fun a hF=>JH hF hH ?_⟩;refine Jy ?_;exact hK qo19 co19 zq2 zc2 zb vso19
 ·intro gh gh' h;refine ⟨?_,?_⟩ <;> (first | simp only [h 4 rfl,h 5 rfl] | rfl)
 apply JR 10 rfl
 ·intros;conv=>lhs;simp only [Jh,reduceEqDiff,reduceAdd]
 ·
  intro gh X K zq zc zq2 zc2 zb zv hK;refine Ju fn70 rfl rfl fun w hH=>(Hp.byM (by rw [hmT0,hv];exact hvo) hbdR.led (by omega) (by omega) ((hH.front .z).front (.s .z))).mono ?_;rintro _ w ⟨qo20,co20,vso20,rfl,hH⟩;refine ⟨_,rfl,fun a hF=>JH hF hH ?_⟩;refine Jy ?_;exact hK qo20 co20 zq2 zc2 zb vso20
 ·intro gh gh' h;refine ⟨?_,?_⟩ <;> (first | simp only [h 4 rfl,h 5 rfl,h 8 rfl] | rfl)
 apply Ef 11 rfl rfl rfl
 ·intros;conv=>lhs;simp only [Jh,reduceEqDiff,reduceAdd]
 ·exact Jd rfl
 ·intro gh gh' h;first | simp only [h 4 rfl,h 5 rfl,h 8 rfl,h 9 rfl] | rfl
 apply JZ [0,1,2,3,4,5,6,7,8,9,10] [0,1,2,3,4,6,7,9,10,11,12] foll0 rfl rfl rfl (by rfl)
 iterate 2 focus (intros;(conv=>lhs;simp only [JU,Ej,Ka,El,Es,eq_self,reduceEqDiff,reduceIte,reduceSub,reduceAdd,JxA,JxB]);all_goals rfl)
 intro gh;generalize (gh 4).c=co15;generalize (gh 4).q=qo15;generalize (gh 5).c=co16;generalize (gh 5).q=qo16;generalize (gh 8).c=co19;generalize (gh 8).q=qo19;generalize (gh 8).vs=vso19;generalize (gh 9).c=co20;generalize (gh 9).q=qo20;generalize (gh 9).vs=vso20;clear gh;refine EA .z fun Ho15 hleo15 hAo15=>?_;replace had:=had.le hleo15;replace haf:=haf.le hleo15;replace hts:=hts.le hleo15;have hxo15:=own_monos (monT_8 h8) hAo15;have hco15:=own_le hAo15;refine EA .z fun Ho20 hleo20 hAo20=>?_;replace had:=had.le hleo20;replace haf:=haf.le hleo20;replace hts:=hts.le hleo20;replace hxo15:=hxo15.le hleo20;obtain ⟨hxo20,hco20⟩:=mlt_ints (hleo15.trans hleo20) hAo20;rw [hmT0,hv] at hxo20 hco20 ⊢;refine Ja (hK2 (Je fun _ hK3 _=>(Jb (Jg (Jm rfl (.s .z) (by simpa [*] using ag36)) rfl (Jg (Jc rfl) rfl (Ju fn67 rfl rfl fun w hH=>(l03Classes_c had haf hG (by omega) hfit hH).mono ?_))))));rintro _ w ⟨Hf23,qf23,cf23,hlf23,hI23,hcc23,rfl,hH⟩;refine ⟨_,rfl,fun a hF=>JH hF hH ?_⟩;replace had:=had.le hlf23;replace haf:=haf.le hlf23;replace hts:=hts.le hlf23;replace hxo15:=hxo15.le hlf23;replace hxo20:=hxo20.le hlf23;refine EI (MK.lit0I u22 sz2) rfl fun qo24 co24=>(Jg (Jd rfl) rfl (Jg (Jd rfl) rfl (Jf (Ja (hK3 (Je fun _ hK4 _=>(Je fun _ hK5 _=>(Jb (Jg (Jd rfl) rfl (Jf (Ja (hK5 (Jp (JD (σ:=Option Addr × Nat × Nat) (fun ⟨q,c,k⟩=>[(10,.int .i64 (k:Int)),(9,.slice q (clK ad af n ((monL ad n).map (cf (toS ts))) k).length c)]) (fun ⟨q,c,k⟩=>Hf23) (fun ⟨q,c,k⟩=>own 2 1 q (clK ad af n ((monL ad n).map (cf (toS ts))) k).length c (intsC (clK ad af n ((monL ad n).map (cf (toS ts))) k))::obj g5 (.cells [.slice qts ts.length cts].toArray 40 (0,0))::obj g3 (.cells [.slice qad ad.length cad,.slice qaf af.length caf].toArray 36 (0,0))::L) (fun ⟨q,c,k⟩=>k≤(csS ad af n).length) (fun ⟨q,c,k⟩=>(csS ad af n).length - k) (qo24,co24,0) (by show 0≤_;omega) ⟨rfl,⟨rfl,trivial⟩⟩ rfl rfl ?_))))))))))))));rintro ⟨q,c,k⟩ hk _ hAg0;have hckl:=clK_len (v:=((monL ad n).map (cf (toS ts)))) hk;refine Je fun _ hK6 _=>(Je fun _ hK7 _=>(Jb (Jg (Jc rfl) rfl (Jg (Jc rfl) rfl (Jg (Jo u31 rfl rfl) rfl (Jg (JJ rfl rfl) rfl (Jf (Ja (hK7 (Jq rfl (fun h28=>?_) (fun h28=>?_)))))))))))
 ·
  have hk1:k<(csS ad af n).length:=by omega
  have hrk:=hcsR.led _ (rw_mem hk1);have hrl:=hrk.1.len;have hld:=idxOf_ld (r:=rw_ (csS ad af n) k) (by omega);have hrle:=hrk.2;refine Jn (Ja (hK6 (Je fun _ hK8 _=>(Jp (Jb (Jg (Jc rfl) rfl (Jg (Jc rfl) rfl (Jg (Jc rfl) rfl (Jg (Jc rfl) rfl (Jg (JL u31 sz22 rfl rfl rfl hk1 hI23.sm) rfl ?_))))))))));obtain ⟨qe36,ce36,he36,le36,Fe36⟩:=hI23 k hk1;refine Jg (JE rfl he36 pl22) rfl (Ju fn96 rfl rfl fun w hH=>(l03First_c Fe36 (by omega) hH).mono ?_);rintro _ w ⟨rfl,hH⟩;refine ⟨_,rfl,fun a hF=>JH hF hH ?_⟩;rw [hld];refine Jg (JL u22 sz2 rfl rfl rfl (by omega) hxo20.sm) rfl (Jg (JE rfl (hxo20 _ (by omega)) pl2) rfl (EI (MK.lit1I u22 ze2 sz2 rfl) rfl fun qo40 co40=>(J.appendOI u22 ze2 sz2 by2 rfl rfl (by simp only [List.length_cons,List.length_nil];omega) .z At.z (fun _ _=>At.z) rfl fun qo41 co41=>(Jg (Jd rfl) rfl (Jf (JF (Ja (hK8 (Jb (Jg (Jc rfl) rfl (Jg (Jz rfl rfl (by first | exact nw _ (by omega) | rfl)) rfl (Jg (Jd rfl) rfl (Jf (Ja (JN .z ?_)))))))))))))));exact hAg0 (qo41,co41,k+1) (by show k+1≤_;omega) (by show (csS ad af n).length - (k+1)<(csS ad af n).length - k;omega) 21 rfl rfl ⟨rfl,⟨(by rw [clK_succ hk1];rfl),trivial⟩⟩ rfl (by dsimp only;rw [clK_succ hk1])
 ·
  refine JG (Jj (Jj (JK (Ja (hK4 (Je fun _ hK9 _=>(Jb (Jg (Jc rfl) rfl (Jg (Jd rfl) rfl (Jf (Ja (hK9 (Jt (Jr rfl (Res.tmp rfl) fun w hH=>?_))))))))))))));replace hH:=hH.sublist (.cons_cons _ (.cons _ (.cons _ (List.Sublist.refl _))))
  have hke:k=(csS ad af n).length:=by omega
  rw [clK_end hke] at hH ⊢;exact ⟨_,_,rfl,hH.weaken ((hleo15.trans hleo20).trans hlf23) hw0 hw1⟩
theorem fn41:Fn Tryz.prog 41:=⟨_,Tryz.func41,by kernel_rfl,rfl⟩
theorem bd126_0_1 : ∀(p0:Option Addr) (b1:Nat) w,(Instr.build 126 #[(0,.pointer p0),(1,.map (some b1))]).run Tryz.prog w = .ok (.agg [.pointer p0,.map (some b1)].toArray) w:=fun p0 b1 _=>by kernel_rfl
theorem lvO_cell : ∀{ls:List (Int × Lv)} {x:Int × Lv} {h:HP},x∈ls→(lvO ls).holds h→(lvB x.2).holds h
 | [],_,_,hx,_=>by simp at hx
 | y::ls,x,h,hx,hh=>by
  rcases List.mem_cons.1 hx with rfl | hx
  ·exact hh.1
  ·exact lvO_cell hx hh.2.1
theorem cpx_cell {lb:Nat} {ls:List (Int × Lv)} {n:Int} {x:Lv} {h:HP} {k:Nat} {v:Value} (hx:(n,x)∈ls) (hh:(cpx lb ls).holds h) (hk:x.cells[k]? = some v):cellO h (some ⟨x.b,0,none⟩) k=some v:=obj_cell (lvO_cell hx hh.2.1) hk
section
variable {P : Program} {ops : Array Oper} {Q : Exit → Act → World → Prop} {n : Nat} {B : World} {H0 H : HP} {rest : List Oper} {us : List (Nat × Value)} {L L' : List SA} {t : TypeId} {p : String} {af : Array Edge} {d : Nat} {x y : Operand}
theorem ES {ty:TypeId} {lb k b:Nat} {ls:List (Int × Lv)} {m:Int} {lv:Lv} {v:Value} (hx:opv us x=some (ptr (some ⟨b,0,none⟩) k)) (hat:At L (cpx lb ls) (cpx lb ls) L) (hm:(m,lv)∈ls) (hb:lv.b=b) (hk:lv.cells[k]? = some v) (hp:Plain P ty):PR P n B H0 us H L (.load ty x) t v:=
 fun c' w' d' b' a w hF hH=>by
  subst hb
  exact JE (H:=G.hp w) (L:=[]) (B:=w) (H0:=G.hp w) hx (cpx_cell hm (hH.objs _ hat.mem).1 hk) hp c' w' d' b' a w hF (Hp.start fun _ _ h=>h)
end
theorem Hp.cpx0 {B:World} {H0 H:HP} {L:List SA} {w:World} {lb:Nat} (h:Hp B H0 H (lvM lb []::L) w):Hp B H0 H (cpx lb []::L) w:=(h.emp.front (.s .z)).star
theorem monL_pok {ds:List Int} {n:Int} (h8:ds.length≤8) : ∀p∈monL ds n,Pok 20 p:=fun p hp=>mon_pok h8 (List.mem_of_mem_take hp)
theorem newComplex_c {B:World} {H0 H:HP} {L:List SA} {w:World} {ba:Nat} {qad qaf:Option Addr} {cad caf:Nat} {ad:List Int} {af:List (List Term)} (pad:CellAt H ba 0 (.slice qad ad.length cad)) (paf:CellAt H ba 1 (.slice qaf af.length caf)) (had:Ints H qad ad) (haf:Forms H qaf af) (hH:Hp B H0 H L w):Calls Tryz.prog 56 [.pointer (some ⟨ba,0,none⟩)].toArray w fun e w'=>∃H' b lc,Le H H' ∧CellAt H' b 0 (.pointer (some ⟨ba,0,none⟩))∧CellAt H' b 1 (.map (some lc))∧e = .returned (.pointer (some ⟨b,0,none⟩))∧Hp B H0 H' (cpx lc []::L) w':=by
 refine Jx Tryz.func56 rfl 7 rfl rfl [(0,.pointer (some ⟨ba,0,none⟩))] rfl hH ?_;clear hH;refine Je fun _ hK1 _=>(Jb (Jg (Jd rfl) rfl (Jf (Ja (hK1 (Je fun _ hK2 _=>(Jb (Jg (Jc rfl) rfl (ER ekI evB okI rfl fun bm4=>(Jg (PR.build2 rfl rfl (fun w=>bd126_0_1 _ _ w)) rfl (JW rfl rfl rfl fun g6=>(J.freezeRow .z fun H6 hle6 hc6=>?_))))))))))));replace pad:=pad.le hle6;replace paf:=paf.le hle6;replace had:=had.le hle6;replace haf:=haf.le hle6;refine Jg (Jd rfl) rfl (Jf (Ja (hK2 (Jt (Jr rfl (Res.tmp rfl) fun w hH=>?_)))));replace hH:=hH.sublist (.cons_cons _ (List.Sublist.refl _));exact ⟨_,_,_,hle6,hc6 0 _ rfl,hc6 1 _ rfl,rfl,hH.cpx0⟩
theorem class_c {B:World} {H0 H:HP} {L:List SA} {w:World} {bc lc:Nat} {bca:Nat} {qcad qcaf:Option Addr} {ccad ccaf:Nat} {cad:List Int} {caf:List (List Term)} {lsc:List (Int × Lv)} {n:Int} {vs:Value} {Ms:Int} {s:Sm} (pc0:CellAt H bc 0 (.pointer (some ⟨bca,0,none⟩))) (pc1:CellAt H bc 1 (.map (some lc))) (pcad:CellAt H bca 0 (.slice qcad cad.length ccad)) (pcaf:CellAt H bca 1 (.slice qcaf caf.length ccaf)) (hcad:Ints H qcad cad) (hcaf:Forms H qcaf caf) (hs:SumH H vs s) (ks:Sok Ms s) (hGc:isAlg cad caf=true) (hn:0≤n∧n≤39) (hfit:fit3 cad n) (hCc:CpxOk H cad caf (fun _=>False) lsc) (hNc:Nxt (fun _=>False) lsc) (hM:Ms≤1000000) (hin : ∀x∈s,x.1∈monL cad n) (hH:Hp B H0 H (cpx lc lsc::L) w):Calls Tryz.prog 43 [.pointer (some ⟨bc,0,none⟩),.int .i64 n,vs].toArray w fun e w'=>∃H' ls' q c,Le H H' ∧CpxOk H' cad caf (fun _=>False) ls' ∧Nxt (fun _=>False) ls' ∧Kp lsc ls' ∧e = .returned (.slice q (clV cad caf n ((monL cad n).map (cf s))).length c)∧Hp B H0 H' (own 2 1 q (clV cad caf n ((monL cad n).map (cf s))).length c (intsC (clV cad caf n ((monL cad n).map (cf s))))::cpx lc ls'::L) w':=by
 refine Jx Tryz.func43 rfl 43 rfl rfl [(0,.pointer (some ⟨bc,0,none⟩)),(1,.int .i64 n),(2,vs)] rfl hH ?_;clear hH;have hwc:=hcaf.wfss;have hAc:=isAlg_ok hGc hwc;have h8c:=hAc.hn;have hdc:=alg_112 hGc;have hml:=monL_len cad n;have hcsR:=csS_red (n:=n) hAc h8c hdc;have hcsl:=csS_len (n:=n) hAc h8c hdc;have hbdR:=bdS_red (n:=n) hAc h8c hdc;have hbdl:=bdS_len (n:=n) hAc h8c hdc;have hclR:=clS_red (n:=n) hAc h8c hdc;have hcll:=clS_len (n:=n) hAc h8c hdc;have hvo:=cfR_ok (ds:=cad) (n:=n) ks;have hbo:=byS_ok hvo hbdR.row;have hbl:=hbo.len;refine Je fun _ hK1 _=>(Jb (Jg (Jd rfl) rfl (Jf (Ja (hK1 (Je fun _ hK2 _=>(Jb (Jg (Jc rfl) rfl (Jg (Jc rfl) rfl (Ju fn41 rfl rfl fun w hH=>(at_c pc0 pc1 pcad pcaf hcad hcaf hdc h8c (by omega) hAc hfit (fun m hm hf=>hom_of hGc hwc h8c hdc (by omega) hf) hCc hNc (hH.front .z)).mono ?_))))))))));rintro _ w ⟨Hf14,ls14,⟨b14,p14,⟨ql14,kl14,cl14⟩,⟨qm14,km14,cm14⟩,⟨qz14,kz14,cz14⟩,⟨qy14,ky14,cy14⟩,⟨qx14,kx14,cx14⟩⟩,hlf14,hC14,hN14,hx14,⟨hL14,hM14,hkp14⟩,rfl,hH⟩;refine ⟨_,rfl,fun a hF=>JH hF hH ?_⟩;replace pc0:=pc0.le hlf14;replace pc1:=pc1.le hlf14;replace pcad:=pcad.le hlf14;replace pcaf:=pcaf.le hlf14;replace hcad:=hcad.le hlf14;replace hcaf:=hcaf.le hlf14;replace hs:=hs.le hlf14;replace hCc:=hCc.le hlf14;obtain rfl:kl14=(monL cad (n)).length:=(hC14.ok _ hx14).one.len;have hpw14:Pows Hf14 ql14 (monL cad (n)):=(hC14.ok _ hx14).one.pw;have hpl14:SumH Hf14 (.map (some p14)) (plM (monL cad (n))):=(hC14.ok _ hx14).one.pl;obtain ⟨⟨e1,hz14⟩,⟨e2,hb14⟩,e3,hs14⟩:(kz14=(clS cad caf (n)).length∧RowsR Hf14 qz14 (clS cad caf (n)))∧(ky14=(bdS cad caf (n)).length∧RowsR Hf14 qy14 (bdS cad caf (n)))∧kx14=(csS cad caf (n)).length∧RowsR Hf14 qx14 (csS cad caf (n)):=hL14;subst e1 e2 e3;refine Jg (Jd rfl) rfl (Jf (Ja (hK2 (Je fun _ hK3 _=>(Ea (Rs:=[_]) 11 [[], [], [0,1], [], [3], [3,4], [3,4,5], [0,1,2,3,4,5,6], [], [0,1,2,3,4,5,6,7], [0,1,2,3,4,5,6,7,8,9]] [[], [], [11], [], [], [], [11], [2], [], [], []] [[], [], [], [], [], [], [], [], [], [], []] rfl rfl (by kernel_rfl) ?_)))));apply Ji 1 rfl rfl rfl
 ·intros;conv=>lhs;simp only [Jh,reduceEqDiff,reduceAdd]
 ·exact Jc rfl
 apply Ji 2 rfl rfl rfl
 ·intros;conv=>lhs;simp only [Jh,reduceEqDiff,reduceAdd]
 ·exact Jc rfl
 apply JR 3 rfl
 ·intros;conv=>lhs;simp only [Jh,reduceEqDiff,reduceAdd]
 ·
  intro gh X K zq zc zq2 zc2 zb zv hK;refine Ju fn81 rfl rfl fun w hH=>hH.lend .z fun Hl1 hle1 hA1 hB1 hH=>(row_c (cpx_cell hx14 hA1 rfl) (cpx_cell hx14 hA1 rfl) (hs.le hle1) ks (hpw14.le hle1) (hpl14.le hle1) (monL_nodup h8c _) (by omega) hin (by omega) hH).mono ?_;rintro _ w ⟨qo17,co17,rfl,hH⟩;replace hH:=hB1 _ _ hH;refine ⟨_,rfl,fun a hF=>JH hF hH ?_⟩;refine Jw .z (Jw (.s .z) (Jy ?_));exact hK qo17 co17 zq2 zc2 zb zv
 ·intro gh gh' h;refine ⟨?_,?_⟩ <;> rfl
 apply Ji 4 rfl rfl rfl
 ·intros;conv=>lhs;simp only [Jh,reduceEqDiff,reduceAdd]
 ·exact Jc rfl
 apply Ji 5 rfl rfl rfl
 ·intros;conv=>lhs;simp only [Jh,reduceEqDiff,reduceAdd]
 ·exact Jv rfl
 apply Ji 6 rfl rfl rfl
 ·intros;conv=>lhs;simp only [Jh,reduceEqDiff,reduceAdd]
 ·exact Jl u88 rfl sz31 rfl
 apply Ji 7 rfl rfl rfl
 ·intros;conv=>lhs;simp only [Jh,reduceEqDiff,reduceAdd]
 ·exact ES (b:=b14) (k:=4) (v:=.slice qy14 (bdS cad caf (n)).length cy14) rfl At.z hx14 rfl rfl pl31
 apply JR 8 rfl
 ·intros;conv=>lhs;simp only [Jh,reduceEqDiff,reduceAdd]
 ·
  intro gh X K zq zc zq2 zc2 zb zv hK;refine Ju fn78 rfl rfl fun w hH=>hH.lend .z fun Hl1 hle1 hA1 hB1 hH=>(reduceBy_c (own_ints hA1) (hb14.le hle1) (hvo) hbdR.led (by omega) (by omega) hH).mono ?_;rintro _ w ⟨qo22,co22,rfl,hH⟩;replace hH:=hB1 _ _ hH;refine ⟨_,rfl,fun a hF=>JH hF hH ?_⟩;refine Jw .z (Jw (.s .z) (Jy ?_));exact hK qo22 co22 zq2 zc2 zb zv
 ·intro gh gh' h;refine ⟨?_,?_⟩ <;> (first | simp only [h 2 rfl] | rfl)
 apply JR 9 rfl
 ·intros;conv=>lhs;simp only [Jh,reduceEqDiff,reduceAdd]
 ·
  intro gh X K zq zc zq2 zc2 zb zv hK;refine EI (MK.lit0I u22 sz2) rfl fun qo23 co23=>(Jy ?_);exact hK qo23 co23 zq2 zc2 zb zv
 ·intro gh gh' h;refine ⟨?_,?_⟩ <;> rfl
 apply Ef 10 rfl rfl rfl
 ·intros;conv=>lhs;simp only [Jh,reduceEqDiff,reduceAdd]
 ·exact Jd rfl
 ·intro gh gh' h;first | simp only [h 2 rfl,h 7 rfl] | rfl
 apply Ef 11 rfl rfl rfl
 ·intros;conv=>lhs;simp only [Jh,reduceEqDiff,reduceAdd]
 ·exact Jd rfl
 ·intro gh gh' h;first | simp only [h 2 rfl,h 7 rfl,h 8 rfl] | rfl
 apply JZ [0,1,2,3,4,5,6,7,8,9,10] [0,1,2,3,4,5,6,7,8,9,10,11] foll0 rfl rfl rfl (by rfl)
 iterate 2 focus (intros;(conv=>lhs;simp only [JU,Ej,Ka,El,Es,eq_self,reduceEqDiff,reduceIte,reduceSub,reduceAdd,JxA,JxB]);all_goals rfl)
 intro gh;generalize (gh 2).c=co17;generalize (gh 2).q=qo17;generalize (gh 7).c=co22;generalize (gh 7).q=qo22;generalize (gh 8).c=co23;generalize (gh 8).q=qo23;clear gh;refine Ja (hK3 (Je fun _ hK4 _=>(Je fun _ hK5 _=>(Jb (Jg (Jc rfl) rfl (Jg (Jv rfl) rfl (Jg (Jl u88 rfl sz31 rfl) rfl (Jg (ES (b:=b14) (k:=5) (v:=.slice qx14 (csS cad caf (n)).length cx14) rfl (.s (.s (.s .z))) hx14 rfl rfl pl31) rfl (Jg (Jo u31 rfl rfl) rfl (Jg (Jc rfl) rfl (Jf (Ja (hK5 (Jp (JD (σ:=Option Addr × Nat × Nat) (fun ⟨q,c,k⟩=>[(29,.int .i64 (k:Int)),(9,.slice q (clK cad caf n ((monL cad n).map (cf s)) k).length c)]) (fun ⟨q,c,k⟩=>Hf14) (fun ⟨q,c,k⟩=>own 2 1 qo17 ((monL cad n).map (cf s)).length co17 (intsC ((monL cad n).map (cf s)))::own 2 1 qo22 (byS ((monL cad n).map (cf s)) (bdS cad caf n)).length co22 (intsC (byS ((monL cad n).map (cf s)) (bdS cad caf n)))::own 2 1 q (clK cad caf n ((monL cad n).map (cf s)) k).length c (intsC (clK cad caf n ((monL cad n).map (cf s)) k))::cpx lc ls14::L) (fun ⟨q,c,k⟩=>k≤(csS cad caf n).length) (fun ⟨q,c,k⟩=>(csS cad caf n).length - k) (qo23,co23,0) (by show 0≤_;omega) ⟨rfl,⟨rfl,trivial⟩⟩ rfl rfl ?_)))))))))))))));rintro ⟨q,c,k⟩ hk _ hAg0;have hckl:=clK_len (ds:=cad) (fs:=caf) (v:=((monL cad n).map (cf s))) hk;refine Je fun _ hK6 _=>(Jb (Jg (JJ rfl rfl) rfl (Jf (Ja (hK6 (Je fun _ hK7 _=>(Jq rfl (fun h30=>?_) (fun h30=>?_))))))))
 ·
  have hk1:k<(csS cad caf n).length:=by omega
  have hrk:=hcsR.led _ (rw_mem hk1);have hrl:=hrk.1.len;have hld:=idxOf_ld (r:=rw_ (csS cad caf n) k) (by omega);have hrle:=hrk.2;refine Jn (Ja (hK7 (Je fun _ hK8 _=>(Jp (Je fun _ hK9 _=>(Jb (Jg (JL u31 sz22 rfl rfl rfl hk1 hs14.sm) rfl ?_)))))));obtain ⟨qe32,ce32,he32,le32,Fe32⟩:=hs14 k hk1;refine Jg (JE rfl he32 pl22) rfl (Jg (Jd rfl) rfl (Jf (Ja (hK9 (Jb (Jg (Jc rfl) rfl (Jg (Jc rfl) rfl (Jg (Jc rfl) rfl (Ju fn82 rfl rfl fun w hH=>(lead_c Fe32 (by omega) hH).mono ?_)))))))));rintro _ w ⟨rfl,hH⟩;refine ⟨_,rfl,fun a hF=>JH hF hH ?_⟩;rw [hld];refine Jg (Eu u22 sz2 rfl rfl rfl (by omega) (.s .z)) rfl (Jg (ED rfl (.s .z) (intsC_get (by omega)) pl2) rfl (EI (MK.lit1I u22 ze2 sz2 rfl) rfl fun qo39 co39=>(J.appendOI u22 ze2 sz2 by2 rfl rfl (by simp only [List.length_cons,List.length_nil];omega) .z (.s (.s .z)) (fun _ _=>(.s (.s .z))) rfl fun qo40 co40=>(Jg (Jd rfl) rfl (Jf (JF (Ja (hK8 (Jb (Jg (Jz rfl rfl (by first | exact nw _ (by omega) | rfl)) rfl (Jg (Jc rfl) rfl (Jf (Ja (JN .z ?_))))))))))))));exact hAg0 (qo40,co40,k+1) (by show k+1≤_;omega) (by show (csS cad caf n).length - (k+1)<(csS cad caf n).length - k;omega) 17 rfl rfl ⟨rfl,⟨(by rw [clK_succ hk1];rfl),trivial⟩⟩ rfl (by dsimp only;rw [clK_succ hk1])
 ·
  refine JG (Jj (Jj (JK (Ja (hK4 (Je fun _ hK10 _=>(Jb (Jg (Jc rfl) rfl (Jg (Jd rfl) rfl (Jf (Ja (hK10 (Jt (Jr rfl (Res.tmp rfl) fun w hH=>?_))))))))))))));replace hH:=hH.sublist (.cons _ (.cons _ (.cons_cons _ (.cons_cons _ (List.Sublist.refl _)))))
  have hke:k=(csS cad caf n).length:=by omega
  rw [clK_end hke] at hH ⊢;exact ⟨_,_,_,_,hlf14,hC14,hN14,hkp14,rfl,hH⟩
section
variable {ds : List Int} {fs : List (List Term)} {ts : List Term} {cl : Bool}
theorem degF_ge (hA:AlgOk ds fs) (hw:Wfs ts) : -1≤degF ds ts:=by
 unfold degF
 split
 ·unfold outAt
  split
  ·omega
  ·rename_i h0
   have:=(wd_bd hA.hn hA.hd (Wfs.at hw (i:=0) (by omega)).mono).1
   omega
 ·omega
theorem form_mon (hA:AlgOk ds fs) (hd : ∀j,j<ds.length→1≤ds.getD j 0∧ds.getD j 0≤12) (hw:Wfs ts) (hF:isForm ds ts=true) (hh:homog ds ts=true) {n:Int} (hn:n=degF ds ts) (h20:n≤20) (hf:fitB ds n=true) : ∀x∈toS ts,x.1∈monL ds n:=fun x hx=>by
 have hs:=isForm_sok hw hF
 have hk:=isForm_kex hA.hd hA.hn hw hF
 have hwt:=degOk_wt hA.hn hA.hd hw (x:=n) (by unfold degOk;rw [hh,← hn];simp) x hx
 rw [monL_fit hf]
 exact mon_in hA.hn hd (by omega) (hs.key x hx) (hk x hx) hwt
end
theorem fit_zero {ds:List Int} {fs:List (List Term)} (hG:isAlg ds fs=true):fitB ds 0=true:=by
 have hd:=alg_112 hG;have h8:=isDeg_len (isAlg_deg hG)
 have hz : ∀p∈monS ds 0,p=zP:=fun p hp=>by
  have h:=enumF_mem (by omega) rfl hp;have hw:=mon_wt h8 hp;have hp0 : ∀j,0≤p.getD j 0:=fun j=>((mon_pok h8 hp).bd j).1;refine list8 h.1 (by rfl) fun j hj=>?_;rw [show zP.getD j 0=0 from zP_get j]
  by_cases hjd:j<ds.length
  ·have h1:=wsum_ge (ds:=ds) (fun i=>(isDeg_bd (isAlg_deg hG) i).1) hp0 (j:=j) ds.length hjd;rw [hw] at h1;have h2:=hd j hjd;have h3:1 * p.getD j 0≤ds.getD j 0 * p.getD j 0:=Int.mul_le_mul_of_nonneg_right h2.1 (hp0 j);have:=hp0 j
   omega
  ·have:=h.2.1 j (.inr (by omega));rw [this];exact zP_get j
 have hn:=mon_nodup ds 0 h8;unfold fitB;refine decide_eq_true ?_
 rcases hm:monS ds 0 with _ | ⟨p,_ | ⟨q,l⟩⟩
 ·simp
 ·simp
 ·exfalso
  rw [hm] at hn hz;have h1:=hz p (by simp);have h2:=hz q (by simp);rw [List.nodup_cons] at hn;exact hn.1 (by rw [h1,h2];simp)
theorem fn116:Fn Tryz.prog 116:=⟨_,Tryz.func116,by kernel_rfl,rfl⟩
theorem fn66:Fn Tryz.prog 66:=⟨_,Tryz.func66,by kernel_rfl,rfl⟩
def fmR (ps:List Pw) (rs:List (List Int)):List (List Term):=rs.map (fmS ps)
def fmRK (ps:List Pw) (rs:List (List Int)) (k:Nat):List (List Term):=(rs.take k).map (fmS ps)
theorem fmRK_len {ps:List Pw} {rs:List (List Int)} {k:Nat} (hk:k≤rs.length):(fmRK ps rs k).length=k:=by
 unfold fmRK;rw [List.length_map,List.length_take]
 omega
theorem fmRK_succ {ps:List Pw} {rs:List (List Int)} {k:Nat} (hk:k<rs.length):fmRK ps rs (k+1)=fmRK ps rs k++[fmS ps (rw_ rs k)]:=by
 unfold fmRK;rw [rw_take hk,List.map_append]
 rfl
theorem fmRK_end {ps:List Pw} {rs:List (List Int)} {k:Nat} (hk:k=rs.length):fmRK ps rs k=fmR ps rs:=by
 subst hk;unfold fmRK fmR;rw [List.take_length]
@[simp] theorem fmR_len (ps:List Pw) (rs:List (List Int)):(fmR ps rs).length=rs.length:=by simp [fmR]
theorem fmR_at {ps:List Pw} {rs:List (List Int)} {k:Nat} (hk:k<rs.length):fm (fmR ps rs) k=fmS ps (rw_ rs k):=by
 simp [fm,fmR,rw_,List.getD_eq_getElem?_getD,List.getElem?_eq_getElem hk]
theorem fmR_wf {W:Nat} {ps:List Pw} {rs:List (List Int)} (hp : ∀p∈ps,Mono p) (hr : ∀r∈rs,RowOk W r):Wfss (fmR ps rs):=fun f hf=>by
 obtain ⟨r,hr',rfl⟩:=List.mem_map.1 hf
 exact fmK_wf hp (hr r hr').val (Nat.le_refl _)
theorem fmS_len (ps:List Pw) (row:List Int):(fmS ps row).length≤ps.length:=fmK_len ps row _
theorem fmS_mon {ds:List Int} {n:Int} {row:List Int} (h8:ds.length≤8) (hr:RowOk (monL ds n).length row):toS (fmS (monL ds n) row)=sumR (monL ds n) row:=by
 rw [fmS_sum (M:=20) (monL_srt ds n h8) (monL_pok h8) hr.val hr.len,toS_ofS]
theorem sumR_mon {ds:List Int} {n:Int} {row:List Int} (h8:ds.length≤8) (hr:row.length≤(monL ds n).length):Sok 20 (sumR (monL ds n) row):=sumR_sok (monL_pok h8) hr
theorem sumR_key {ps:List Pw} {row:List Int} (hr:row.length≤ps.length) : ∀x∈sumR ps row,x.1∈ps:=fun x hx=>by
 rcases acc_mem hx with h | ⟨y,hy,e⟩
 ·simp at h
 ·obtain ⟨i,hi,rfl⟩:=List.mem_map.1 hy
  rw [e]
  exact rw_mem (by have:=List.mem_range.1 hi;omega)
theorem monL_ex {ds:List Int} {n:Int} (h8:ds.length≤8) (hd : ∀j,j<ds.length→1≤ds.getD j 0∧ds.getD j 0≤12) : ∀p∈monL ds n,Ex ds p:=fun p hp=>mon_ex h8 (List.mem_of_mem_take hp) hd
theorem monL_wt {ds:List Int} {n:Int} (h8:ds.length≤8) : ∀p∈monL ds n,wsum ds p ds.length=n:=fun p hp=>mon_wt h8 (List.mem_of_mem_take hp)
theorem sumR_kex {ds:List Int} {n:Int} {row:List Int} (h8:ds.length≤8) (hd : ∀j,j<ds.length→1≤ds.getD j 0∧ds.getD j 0≤12) (hr:row.length≤(monL ds n).length):KEx ds (sumR (monL ds n) row):=fun x hx=>monL_ex h8 hd _ (sumR_key hr x hx)
theorem times_mon {ds:List Int} {n m:Int} {s t:Sm} (h8:ds.length≤8) (hd : ∀j,j<ds.length→1≤ds.getD j 0∧ds.getD j 0≤12) (hs:Sok 20 s) (ht:Sok 20 t) (h1 : ∀x∈s,x.1∈monL ds n) (h2 : ∀x∈t,x.1∈monL ds m) (hf:fitB ds (n+m)=true) (h40:n+m≤41) : ∀x∈timesS ds s t,x.1∈monL ds (n+m):=fun x hx=>by
 have k1:KEx ds s:=fun x hx=>monL_ex h8 hd _ (h1 x hx)
 have k2:KEx ds t:=fun x hx=>monL_ex h8 hd _ (h2 x hx)
 have hk:=times_kex hs.g ht.g k1 k2 x hx
 have ho:=(hs.times ht (ds:=ds)).key x hx
 rw [monL_fit hf]
 refine mon_in h8 hd h40 ho hk ?_
 rcases acc_mem hx with h | ⟨y,hy,e⟩
 ·simp at h
 ·obtain ⟨u,hu,v,hv,_,e2⟩:=mulL_mem hy
  rw [e,e2,wsum_add (hs.key u hu).len (ht.key v hv).len,monL_wt h8 _ (h1 u hu),monL_wt h8 _ (h2 v hv)]
theorem l03Forms_c {B:World} {H0 H:HP} {L:List SA} {w:World} {qrs:Option Addr} {crs:Nat} {rs:List (List Int)} {qps:Option Addr} {cps:Nat} {ps:List (List Int)} {W:Nat} (hrs:RowsR H qrs rs) (hps:Monos H qps ps) (hW : ∀r∈rs,RowOk ps.length r) (hn:rs.length≤1000000) (hpn:ps.length≤1000000) (hpm : ∀p∈ps,Mono p) (hH:Hp B H0 H L w):Calls Tryz.prog 66 [.slice qrs rs.length crs,.slice qps ps.length cps].toArray w fun e w'=>∃q c vs,e = .returned (.slice q (fmR ps rs).length c)∧Hp B H0 H (ownFs 40 107 q c vs (fmR ps rs)::L) w':=by
 refine Jx Tryz.func66 rfl 24 rfl rfl [(0,.slice qrs rs.length crs),(1,.slice qps ps.length cps)] rfl hH ?_;clear hH;refine Je fun _ hK1 _=>(Jb (Jg (Jd rfl) rfl (Jf (Ja (hK1 (Je fun _ hK2 _=>(Jb (EI (EP u34 sz40) rfl fun qo7 co7=>(J.ts0 107 (Jg (Jd rfl) rfl (Jf (Ja (hK2 (Je fun _ hK3 _=>(Je fun _ hK4 _=>(Jb ?_))))))))))))))));refine Jg (Jd rfl) rfl (Jf (Ja (hK4 (Jp (JD (σ:=Option Addr × Nat × Vs × Nat) (fun ⟨q,c,vs,k⟩=>[(6,.int .i64 (k:Int)),(5,.slice q k c)]) (fun ⟨q,c,vs,k⟩=>H) (fun ⟨q,c,vs,k⟩=>ownTs 107 vs (fmRK ps rs k)::own 40 1 q k c (slicesC vs (fmRK ps rs k))::L) (fun ⟨q,c,vs,k⟩=>k≤rs.length) (fun ⟨q,c,vs,k⟩=>rs.length - k) (qo7,co7,nilVs,0) (by show 0≤rs.length;omega) ⟨rfl,⟨rfl,trivial⟩⟩ rfl rfl ?_)))));rintro ⟨q,c,vs,k⟩ hk _ hAg0;refine Je fun _ hK5 _=>(Je fun _ hK6 _=>(Jb (Jg (Jc rfl) rfl (Jg (Jc rfl) rfl (Jg (Jo u31 rfl rfl) rfl (Jg (JJ rfl rfl) rfl (Jf (Ja (hK6 (Jq rfl (fun h11=>?_) (fun h11=>?_)))))))))))
 ·
  have hk1:k<rs.length:=by omega
  have hrk:=hW _ (rw_mem hk1);refine Jn (Ja (hK5 (Je fun _ hK7 _=>(Jp (Jb (Jg (Jc rfl) rfl (Jg (Jc rfl) rfl (Jg (Jc rfl) rfl (Jg (JL u31 sz22 rfl rfl rfl hk1 hrs.sm) rfl ?_)))))))));obtain ⟨qe18,ce18,he18,le18,Fe18⟩:=hrs k hk1;refine Jg (JE rfl he18 pl22) rfl (Jg (Jc rfl) rfl (Ju fn116 rfl rfl fun w hH=>(l03Form_c Fe18 hps hrk.len hpn hpm hrk.val hH).mono ?_));rintro _ w ⟨qo20,co20,rfl,hH⟩;refine ⟨_,rfl,fun a hF=>JH hF hH ?_⟩;refine EI (EN u34 ze40 sz40 rfl rfl) rfl fun qo21 co21=>(EG u34 ze40 sz40 by40 rfl rfl rfl rfl (by omega) .z (.s (.s .z)) (fun _ _=>(.s (.s .z))) rfl fun qo22 co22=>(Jg (Jd rfl) rfl (Jf (JF (Ja (hK7 (Jb (Jg (Jc rfl) rfl (Jg (Jz rfl rfl (by first | exact nw _ (by omega) | rfl)) rfl (Jg (Jd rfl) rfl (Jf (Ja (Jw (.s (.s (.s .z))) (Jw (.s .z) (Jw (.s (.s (.s .z))) ?_)))))))))))))));refine Jw (.s (.s (.s .z))) (EJ.fsSnoc (fs:=fmRK ps rs k) (fmRK_len hk) rfl (JN (.s .z) ?_));exact hAg0 (qo22,co22,setV vs k (qo20,co20),k+1) (by show k+1≤rs.length;omega) (by show rs.length - (k+1)<rs.length - k;omega) 19 rfl rfl ⟨rfl,⟨rfl,trivial⟩⟩ rfl (by dsimp only;rw [fmRK_succ hk1,slicesC_set (fmRK_len hk)])
 ·
  refine JG (Jj (Jj (JK (Ja (hK3 (Je fun _ hK8 _=>(Jb (Jg (Jc rfl) rfl (Jg (Jd rfl) rfl (Jf (Ja (hK8 (Jt (Jr rfl (Res.tmp rfl) fun w hH=>?_))))))))))))));replace hH:=hH.sublist (.cons_cons _ (.cons_cons _ (List.Sublist.refl _)))
  have hke:k=rs.length:=by omega
  rw [fmRK_end hke] at hH;exact ⟨q,c,vs,by rw [fmR_len,hke],by unfold ownFs;rw [fmR_len,← hke];exact (hH.front (.s .z)).star⟩
theorem l03ClassForms_c {B:World} {H0 H:HP} {L:List SA} {w:World} {qad qaf:Option Addr} {cad caf:Nat} {ad:List Int} {af:List (List Term)} {n:Int} (had:Ints H qad ad) (haf:Forms H qaf af) (hG:isAlg ad af=true) (hn:0≤n∧n≤40) (hfit:fit3 ad n) (hH:Hp B H0 H L w):Calls Tryz.prog 38 [.agg [.slice qad ad.length cad,.slice qaf af.length caf].toArray,.int .i64 n].toArray w fun e w'=>∃q c vs,e = .returned (.slice q (fmR (monL ad n) (csS ad af n)).length c)∧Hp B H0 H (ownFs 40 107 q c vs (fmR (monL ad n) (csS ad af n))::L) w':=by
 refine Jx Tryz.func38 rfl 13 rfl rfl [(0,.agg [.slice qad ad.length cad,.slice qaf af.length caf].toArray),(1,.int .i64 n)] rfl hH ?_;have hw0:=hH.old;have hw1:=hH.le;clear hH;have hwf:=haf.wfss;have hA:=isAlg_ok hG hwf;have h8:=hA.hn;have hd:=alg_112 hG;have hml:=monL_len ad n;have hml1:=monL_len ad (n+1);have hclR:=clS_red (n:=n) hA h8 hd;have hbdR:=bdS_red (n:=n) hA h8 hd;have hcll:=clS_len (n:=n) hA h8 hd;have hbdl:=bdS_len (n:=n) hA h8 hd;have hcsR:=csS_red (n:=n) hA h8 hd;have hcsl:=csS_len (n:=n) hA h8 hd;have hmT0:=monT_L hfit.1.1;refine Je fun _ hK1 _=>(Jb (JW rfl rfl rfl fun g2=>(Jg (Jd rfl) rfl (Jf (Ja (hK1 (Je fun _ hK2 _=>(Ea (Rs:=[_]) 9 [[], [], [0,1], [], [3], [], [0,1,2,3,4,5], [0,1,2,3,4,5,6], [0,1,2,3,4,5,6,7]] [[9], [], [], [], [9], [], [], [2,6], []] [[], [], [], [], [], [], [], [], []] rfl rfl (by kernel_rfl) ?_))))))));apply Ji 1 rfl rfl rfl
 ·intros;conv=>lhs;simp only [Jh,reduceEqDiff,reduceAdd]
 ·exact Jm rfl At.z (by simpa [*] using ag36)
 apply Ji 2 rfl rfl rfl
 ·intros;conv=>lhs;simp only [Jh,reduceEqDiff,reduceAdd]
 ·exact Jc rfl
 apply JR 3 rfl
 ·intros;conv=>lhs;simp only [Jh,reduceEqDiff,reduceAdd]
 ·
  intro gh X K zq zc zq2 zc2 zb zv hK;refine Ju fn67 rfl rfl fun w hH=>(l03Classes_m had haf hG (by omega) hfit hH).mono ?_;rintro _ w ⟨qo7,co7,vso7,rfl,hH⟩;refine ⟨_,rfl,fun a hF=>JH hF hH ?_⟩;refine Jy ?_;exact hK qo7 co7 zq2 zc2 zb vso7
 ·intro gh gh' h;refine ⟨?_,?_⟩ <;> rfl
 apply Ji 4 rfl rfl rfl
 ·intros;conv=>lhs;simp only [Jh,reduceEqDiff,reduceAdd]
 ·exact Jl u36 rfl sz22 rfl
 apply Ji 5 rfl rfl rfl
 ·intros;conv=>lhs;simp only [Jh,reduceEqDiff,reduceAdd]
 ·exact Js rfl At.z rfl pl22
 apply Ji 6 rfl rfl rfl
 ·intros;conv=>lhs;simp only [Jh,reduceEqDiff,reduceAdd]
 ·exact Jc rfl
 apply JR 7 rfl
 ·intros;conv=>lhs;simp only [Jh,reduceEqDiff,reduceAdd]
 ·
  intro gh X K zq zc zq2 zc2 zb zv hK;refine Ju fn68 rfl rfl fun w hH=>(l01Monomials_c had hd h8 (by omega) hH).mono ?_;rintro _ w ⟨qo11,co11,rfl,hH⟩;refine ⟨_,rfl,fun a hF=>JH hF hH ?_⟩;refine Jy ?_;exact hK qo11 co11 zq2 zc2 zb zv
 ·intro gh gh' h;refine ⟨?_,?_⟩ <;> (first | simp only [h 2 rfl] | rfl)
 apply JR 8 rfl
 ·intros;conv=>lhs;simp only [Jh,reduceEqDiff,reduceAdd]
 ·
  intro gh X K zq zc zq2 zc2 zb zv hK;refine Ju fn66 rfl rfl fun w hH=>hH.lend .z fun Hl1 hle1 hA1 hB1 hH=>hH.lend .z fun Hl2 hle2 hA2 hB2 hH=>(l03Forms_c (W:=0) ((mlt_rows hle1 hA1).1.le hle2) (own_monos (monT_8 h8) hA2) (by rw [hmT0];exact hcsR.row) (by omega) (by rw [hmT0];omega) (by rw [hmT0];exact monL_mn h8) hH).mono ?_;rintro _ w ⟨qo12,co12,vso12,rfl,hH⟩;replace hH:=hB2 _ _ hH;replace hH:=hB1 _ _ hH;refine ⟨_,rfl,fun a hF=>JH hF hH ?_⟩;refine Jw (.s .z) (Jw (.s .z) (Jw (.s (.s .z)) (Jy ?_)));exact hK qo12 co12 zq2 zc2 zb vso12
 ·intro gh gh' h;refine ⟨?_,?_⟩ <;> (first | simp only [h 2 rfl,h 6 rfl] | rfl)
 apply Ef 9 rfl rfl rfl
 ·intros;conv=>lhs;simp only [Jh,reduceEqDiff,reduceAdd]
 ·exact Jd rfl
 ·intro gh gh' h;first | simp only [h 2 rfl,h 6 rfl,h 7 rfl] | rfl
 apply JZ [0,1,2,3,4,5,6,7,8] [0,1,2,3,4,5,6,7,8,9] foll0 rfl rfl rfl (by rfl)
 iterate 2 focus (intros;(conv=>lhs;simp only [JU,Ej,Ka,El,Es,eq_self,reduceEqDiff,reduceIte,reduceSub,reduceAdd,JxA,JxB]);all_goals rfl)
 intro gh;generalize (gh 2).c=co7;generalize (gh 2).q=qo7;generalize (gh 2).vs=vso7;generalize (gh 6).c=co11;generalize (gh 6).q=qo11;generalize (gh 7).c=co12;generalize (gh 7).q=qo12;generalize (gh 7).vs=vso12;clear gh;refine Ja (hK2 (Jt (Jr rfl (Res.tmp rfl) fun w hH=>?_)));replace hH:=hH.sublist (.cons _ (.cons _ (.cons_cons _ (.cons _ (List.Sublist.refl _)))));rw [hmT0] at hH ⊢;exact ⟨_,_,_,rfl,hH⟩
theorem fn80:Fn Tryz.prog 80:=⟨_,Tryz.func80,by kernel_rfl,rfl⟩
section
variable {ds : List Int} {fs : List (List Term)} {n i m j : Int}
def pcA (n i m j:Int):Bool:=!decide (i<0) && (!decide (j<0) && (askB n && (askB m && askB (n+m))))
def pc1 (ds:List Int) (fs:List (List Term)) (n i m j:Int):Int:=if isAlg ds fs then if pcA n i m j then 0 else 2 else 1
def cfM (ds:List Int) (fs:List (List Term)) (n i:Int):Sm:=sumR (monL ds n) (rw_ (csS ds fs n) i.toNat)
theorem cfM_ok (hA:AlgOk ds fs) (h8:ds.length≤8) (hd : ∀j,j<ds.length→1≤ds.getD j 0∧ds.getD j 0≤12) (hi:i.toNat<(csS ds fs n).length):Sok 20 (cfM ds fs n i)∧∀x∈cfM ds fs n i,x.1∈monL ds n:=by
 have hr:=(csS_red (n:=n) hA h8 hd).row _ (rw_mem hi);exact ⟨sumR_mon h8 (by rw [hr.len];exact Nat.le_refl _),sumR_key (by rw [hr.len];exact Nat.le_refl _)⟩
end
section
variable {ds : List Int} {fs : List (List Term)} {n i m j : Int}
theorem cf_fm (hA:AlgOk ds fs) (h8:ds.length≤8) (hd : ∀j,j<ds.length→1≤ds.getD j 0∧ds.getD j 0≤12) (hi:i.toNat<(csS ds fs n).length):toS (fm (fmR (monL ds n) (csS ds fs n)) i.toNat)=cfM ds fs n i:=by
 rw [fmR_at hi,fmS_mon h8 ((csS_red (n:=n) hA h8 hd).row _ (rw_mem hi))]
 rfl
theorem cf_len (hi:i.toNat<(csS ds fs n).length):(fm (fmR (monL ds n) (csS ds fs n)) i.toNat).length≤121:=by
 rw [fmR_at hi];exact Nat.le_trans (fmS_len _ _) (monL_len ds n)
end
section
variable {B : World} {H0 H : HP} {L : List SA} {w : World}
open Classical in
def mltA (K:HP→SA→Prop) (H:HP) (vs:Vs):SA where
 fp b:=(vs b).2≠0
 holds h:=∃(F:HP) (A:SA),Le H F∧(∀b o,F b=some o→H b=some o∨((vs b).2≠0∧h b=some o))∧(∀b,A.fp b→(vs b).2≠0∧F b=none)∧A.holds h∧K F A
 loc h h' hb:=fun ⟨F,A,h0,h1,h2,h3,h4⟩=>⟨F,A,h0,fun b o ho=>(h1 b o ho).imp id fun ⟨h5,h6⟩=>⟨h5,by rw [← hb b h5];exact h6⟩,h2,A.loc h h' (fun b hb'=>hb b (h2 b hb').1) h3,h4⟩
open Classical in
theorem Hp.meltA {K:HP→SA→Prop} {A:SA} {H':HP} {L0:List SA} {w0 w:World} (h0:Hp B H0 H L0 w0) (h:Hp B H0 H' (A::L) w) (hle:Le H H') (hK:K H' A) : ∃vs,Hp B H0 H (mltA K H vs::L) w:=by
 let vs:Vs:=fun b=>(none,if ((H' b).isSome∧H b=none)∨A.fp b then 1 else 0)
 have hv : ∀b,(vs b).2≠0↔(((H' b).isSome∧H b=none)∨A.fp b):=fun b=>by
  show (if _ then 1 else 0)≠0↔_
  split <;> simp_all
 have hsome : ∀b,(H' b).isSome=true→∃o,H' b=some o∧hp w b=some o:=fun b hb=>by
  obtain ⟨o,ho⟩:=Option.isSome_iff_exists.1 hb
  exact ⟨o,ho,h.agree b o ho⟩
 have hnone : ∀b,H' b=none→H b=none:=fun b hb=>by
  cases hHb:H b with
  | none=>rfl
  | some o=>have:=hle b o hHb;rw [hb] at this;cases this
 have hA:=h.objs A (by simp)
 have hsp:=List.pairwise_cons.1 h.sep
 refine ⟨vs,h.below,fun b o ho=>h.agree b o (hle b o ho),h0.old,h0.le,fun X hX=>?_,List.pairwise_cons.2 ⟨fun X hX b hb hXb=>?_,hsp.2⟩⟩
 ·rcases List.mem_cons.1 hX with rfl | hX
  ·refine ⟨⟨H',A,hle,fun b o ho=>?_,fun b hb=>⟨(hv b).2 (.inr hb),(hA.2 b hb).2.2⟩,hA.1,hK⟩,fun b hb=>?_⟩
   ·cases hHb:H b with
    | some o'=>left;have:=hle b o' hHb;rw [ho] at this;exact this.symm
    | none=>exact .inr ⟨(hv b).2 (.inl ⟨by rw [ho];rfl,hHb⟩),h.agree b o ho⟩
   ·rcases (hv b).1 hb with ⟨hb1,hb2⟩ | hb1
    ·obtain ⟨o,ho,hw⟩:=hsome b hb1
     refine ⟨?_,hp_lt hw,hb2⟩
     rcases Nat.lt_or_ge b B.heap.size with hlt | hge
     ·have h1:=h.old b hlt
      have h2:=h0.old b hlt
      rw [← h2,hb2,ho] at h1
      cases h1
     ·exact hge
    ·exact ⟨(hA.2 b hb1).1,(hA.2 b hb1).2.1,hnone b (hA.2 b hb1).2.2⟩
  ·obtain ⟨g1,g2⟩:=h.objs X (List.mem_cons_of_mem _ hX)
   exact ⟨g1,fun b hb=>⟨(g2 b hb).1,(g2 b hb).2.1,hnone b (g2 b hb).2.2⟩⟩
 ·rcases (hv b).1 hb with ⟨hb1,_⟩ | hb1
  ·rw [((h.objs X (List.mem_cons_of_mem _ hX)).2 b hXb).2.2] at hb1
   cases hb1
  ·exact hsp.1 X hX b hb1 hXb
theorem Hp.unmeltA {K:HP→SA→Prop} {vs:Vs} (h:Hp B H0 H (mltA K H vs::L) w) : ∃F A,Le H F∧K F A∧Hp B H0 F (A::L) w:=by
 have hM:=h.objs (mltA K H vs) (by simp);obtain ⟨F,A,h0,h1,h2,h3,h4⟩:=hM.1;have hsp:=List.pairwise_cons.1 h.sep;refine ⟨F,A,h0,h4,h.below,fun b o ho=>(h1 b o ho).elim (h.agree b o) fun h=>h.2,fun b hb=>?_,h.le.trans h0,fun X hX=>?_,List.pairwise_cons.2 ⟨fun X hX b hb=>hsp.1 X hX b (h2 b hb).1,hsp.2⟩⟩
 ·have hn : ¬(vs b).2≠0:=fun hv=>by
   have:=(hM.2 b hv).1
   omega
  rw [← h.old b hb]
  cases hF:F b with
  | some o=>exact ((h1 b o hF).elim id fun h=>absurd h.1 hn).symm
  | none=>
   cases hH:H b with
   | none=>rfl
   | some o=>have:=h0 b o hH;rw [hF] at this;cases this
 ·rcases List.mem_cons.1 hX with rfl | hX
  ·exact ⟨h3,fun b hb=>⟨(hM.2 b (h2 b hb).1).1,(hM.2 b (h2 b hb).1).2.1,(h2 b hb).2⟩⟩
  ·obtain ⟨g1,g2⟩:=h.objs X (List.mem_cons_of_mem _ hX);refine ⟨g1,fun b hb=>⟨(g2 b hb).1,(g2 b hb).2.1,?_⟩⟩
   cases hF:F b with
   | none=>rfl
   | some o=>
    rcases h1 b o hF with hc | hc
    ·rw [(g2 b hb).2.2] at hc
     cases hc
    ·exact absurd hb (hsp.1 X hX b hc.1)
theorem EY {R:Act→World→Prop} {n:Nat} {us:List (Nat × Value)} {L L':List SA} {K:HP→SA→Prop} {vs:Vs} (hr:Rm L (mltA K H vs) L') (k : ∀F A,Le H F→K F A→EJ R n B H0 us F (A::L')):EJ R n B H0 us H L:=fun a w hF hH=>by
 obtain ⟨F,A,h1,h2,h3⟩:=(hH.front hr).unmeltA
 exact k F A h1 h2 a w hF h3
theorem EJ.unstar {R:Act→World→Prop} {n:Nat} {us:List (Nat × Value)} {L:List SA} {A A':SA} (k:EJ R n B H0 us H (A::A'::L)):EJ R n B H0 us H (star A A'::L):=fun a w hF hH=>k a w hF hH.unstar
theorem cpx_look {ls:List (Int × Lv)} {n:Int} {x:Lv} (hn:(ls.map (·.1)).Nodup) (hx:(n,x)∈ls):look (lvK ls) n=some x.b:=
 look_some (by unfold lvK;rw [List.map_map];exact hn) (List.mem_map.2 ⟨_,hx,rfl⟩)
end
section
variable {ds : List Int} {fs : List (List Term)} {p q : Int} {k j : Nat}
def KCl (cad:List Int) (caf:List (List Term)) (lc:Nat) (ls:List (Int × Lv)) (q:Option Addr) (c:Nat) (v:List Int):HP→SA→Prop:=fun F A=>∃ls',CpxOk F cad caf (fun _=>False) ls' ∧Nxt (fun _=>False) ls' ∧Kp ls ls' ∧A=star (own 2 1 q v.length c (intsC v)) (cpx lc ls')
theorem class_m {B:World} {H0 H:HP} {L:List SA} {w:World} {bc lc bca:Nat} {qcad qcaf:Option Addr} {ccad ccaf:Nat} {cad:List Int} {caf:List (List Term)} {lsc:List (Int × Lv)} {n:Int} {b:Nat} {Ms:Int} {s:Sm} (pc0:CellAt H bc 0 (.pointer (some ⟨bca,0,none⟩))) (pc1:CellAt H bc 1 (.map (some lc))) (pcad:CellAt H bca 0 (.slice qcad cad.length ccad)) (pcaf:CellAt H bca 1 (.slice qcaf caf.length ccaf)) (hcad:Ints H qcad cad) (hcaf:Forms H qcaf caf) (ks:Sok Ms s) (hGc:isAlg cad caf=true) (hn:0≤n∧n≤39) (hfit:fit3 cad n) (hCc:CpxOk H cad caf (fun _=>False) lsc) (hNc:Nxt (fun _=>False) lsc) (hM:Ms≤1000000) (hin : ∀x∈s,x.1∈monL cad n) (hH:Hp B H0 H (osum b s::cpx lc lsc::L) w) :
 Calls Tryz.prog 43 [.pointer (some ⟨bc,0,none⟩),.int .i64 n,.map (some b)].toArray w fun e w'=>∃q c vs,e = .returned (.slice q (clV cad caf n ((monL cad n).map (cf s))).length c)∧Hp B H0 H (mltA (KCl cad caf lc lsc q c (clV cad caf n ((monL cad n).map (cf s)))) H vs::L) w':=
 hH.lend .z fun H1 hle1 hA1 _ hH1=>(class_c (pc0.le hle1) (pc1.le hle1) (pcad.le hle1) (pcaf.le hle1) (hcad.le hle1) (hcaf.le hle1) (omap_H hA1) ks hGc hn hfit (hCc.le hle1) hNc hM hin hH1).mono fun e w' ⟨H',ls',q,c,hle,hC,hN,hkp,he,hH'⟩=>by
  obtain ⟨vs,hv⟩:=Hp.meltA hH hH'.star (hle1.trans hle) (K:=KCl cad caf lc lsc q c (clV cad caf n ((monL cad n).map (cf s)))) ⟨ls',hC,hN,hkp,rfl⟩
  exact ⟨q,c,vs,he,hv⟩
end
section
variable {ds : List Int} {fs : List (List Term)} {n m : Int}
theorem up_wi (ds:List Int) (n:Int):upB ds n=wiB ds 0 (n+1):=by
 unfold upB wiB;rw [show (n+1+1 - max (0:Int) 0).toNat=(n+2).toNat by omega]
 congr 1
 funext k
 rw [show max (0:Int) 0+(k:Int)=(k:Int) by omega]
end
theorem nodup_sub : ∀{A B:List Nat},A.Nodup→(∀x∈A,x∈B)→A.length≤B.length
 | [],_,_,_=>by simp
 | a::A,B,h,hs=>by
  have hn:=List.nodup_cons.1 h
  have h1:=nodup_sub (B:=B.erase a) hn.2 fun x hx=>(List.mem_erase_of_ne fun e=>hn.1 (by rw [← e];exact hx)).2 (hs x (by simp [hx]))
  have h2:=List.length_erase_of_mem (hs a (by simp))
  have h3:=List.length_pos_of_mem (hs a (by simp))
  simp only [List.length_cons]
  omega
section
variable {V W N : Nat} {rows R : List (List Int)}
theorem take_get {a:List Int} {V j:Nat}:(a.take V).getD j 0=if j<V then a.getD j 0 else 0:=by
 rw [List.getD_eq_getElem?_getD,List.getElem?_take]
 split
 ·rw [List.getD_eq_getElem?_getD]
 ·rfl
theorem Spn.take {v:Vc} (h:Spn rows v) (V:Nat):Spn (rows.map fun r=>r.take V) (fun k=>if k<V then v k else 0):=by
 induction h with
 | zero h=>
  refine .zero fun k=>?_
  by_cases hk:k<V
  ·simp only [if_pos hk];exact h k
  ·simp only [if_neg hk];exact Mo.refl _
 | @add u v r c hr _ h ih=>
  refine .add (r:=r.take V) (c:=c) (List.mem_map.2 ⟨r,hr,rfl⟩) ih fun k=>?_;rw [take_get]
  by_cases hk:k<V
  ·simp only [if_pos hk];exact h k
  ·simp only [if_neg hk,Int.mul_zero];exact Mo.refl _
theorem wdS_take (h : ∀r∈rows,RowOk W r):(wdS rows rows.length).map (fun r=>r.take W)=rows:=by
 unfold wdS wdK;rw [List.map_map];refine List.ext_getElem (by simp) fun i h1 h2=>?_
 have e:rw_ rows i=rows[i]:=by simp [rw_,List.getD_eq_getElem?_getD,h2]
 have hl:rows[i].length=W:=(h _ (List.getElem_mem h2)).len;simp only [List.getElem_map,List.getElem_range,Function.comp];rw [e,← hl,List.take_left]
end
theorem fn53:Fn Tryz.prog 53:=⟨_,Tryz.func53,by kernel_rfl,rfl⟩
theorem fn56:Fn Tryz.prog 56:=⟨_,Tryz.func56,by kernel_rfl,rfl⟩
theorem fn59:Fn Tryz.prog 59:=⟨_,Tryz.func59,by kernel_rfl,rfl⟩
section
variable {W : Nat} {rows bd cs cl : List (List Int)} {u v x y x' y' : Vc}
theorem zR_get {r:List Int} (h:zR r=true) (k:Nat):r.getD k 0=0:=ldR_end (of_decide_eq_true h) k
structure NF (bd:List (List Int)) (x y:Vc):Prop where
 d:Spn bd fun k=>x k + -1 * y k
 z : ∀b∈bd,Mo (y (ldR b)) 0
theorem NF.uniq (hb:Red W bd) (h1:NF bd x y) (h2:NF bd x y') (k:Nat):Mo (y k) (y' k):=by
 have h3:Spn bd (fun k=>y' k + -1 * y k):=((h2.d.mul (-1)).plus h1.d).congr fun k=>by
  have e:y' k + -1 * y k = -1 * (x k + -1 * y' k)+(x k + -1 * y k):=by omega
  rw [e];exact Mo.refl _
 have h4:=hb.at h3 k
 have h5:Mo (bd.map fun s=>(y' (ldR s) + -1 * y (ldR s)) * s.getD k 0).sum 0:=by
  have h6:=sum_mo (l:=bd) (f:=fun s=>(y' (ldR s) + -1 * y (ldR s)) * s.getD k 0) (g:=fun _=>0) fun s hs=>by
   have h7:=((h2.z s hs).add ((h1.z s hs).mull (-1))).mul (s.getD k 0)
   simpa using h7
  rwa [sum_zero fun _ _=>rfl] at h6
 have h8:=h4.trans h5;unfold Mo at h8 ⊢
 omega
theorem by_diff {ss:List (List Int)} : ∀{B:List (List Int)} {row:List Int},RowOk W row→(∀r∈B,RowOk W r)→(∀r∈B,r∈ss)→Spn ss fun k=>row.getD k 0 + -1 * (byS row B).getD k 0
 | [],row,_,_,_=>.zero fun k=>by
  show Mo (row.getD k 0 + -1 * row.getD k 0) 0
  unfold Mo
  omega
 | r::B,row,h,hB,hs=>by
  have hr:=hB r (by simp)
  have ih:=by_diff (ss:=ss) (B:=B) (row:=oneBy row r) (h.one hr) (fun s h9=>hB s (by simp [h9])) fun s h9=>hs s (by simp [h9])
  refine .add (hs r (by simp)) ih (c:=row.getD (ldR r) 0) fun k=>?_
  have h1:=Mo.fld (row.getD k 0 - row.getD (ldR r) 0 * r.getD k 0)
  rw [← oneBy_get h hr k] at h1
  show Mo (row.getD k 0 + -1 * (byS (oneBy row r) B).getD k 0) (row.getD (ldR r) 0 * r.getD k 0+((oneBy row r).getD k 0 + -1 * (byS (oneBy row r) B).getD k 0))
  generalize row.getD (ldR r) 0 * r.getD k 0=m at h1 ⊢
  generalize (oneBy row r).getD k 0=o at h1 ⊢
  unfold Mo at h1 ⊢
  omega
theorem NF.by (hb:Red W bd) {row:List Int} (h:RowOk W row):NF bd (vR row) (vR (byS row bd)):=⟨by_diff h hb.row fun _ h=>h,fun b hb2=>by
 show Mo ((byS row bd).getD (ldR b) 0) 0
 rw [byS_zero hb (A:=[]) (B:=bd) rfl h b hb2]
 exact Mo.refl _⟩
end
section
variable {W : Nat} {rows bd : List (List Int)} {v row : List Int}
theorem zR_of (h : ∀k,row.getD k 0=0):zR row=true:=decide_eq_true fun hl=>ldR_ne hl (h _)
theorem by_in (hb:Red W bd) (hv:RowOk W v) (h:Spn bd (vR v)):zR (byS v bd)=true:=zR_of fun k=>by
 have h1:=NF.uniq hb (NF.by hb hv) (y':=fun _=>0) ⟨h.congr fun k=>by show Mo (v.getD k 0 + -1 * 0) (v.getD k 0);rw [Int.mul_zero,Int.add_zero];exact Mo.refl _,fun _ _=>Mo.refl _⟩ k
 exact Mo.val h1 ((byS_ok hv hb.row).val k) (by omega)
theorem in_by (hb:Red W bd) (hv:RowOk W v) (h:zR (byS v bd)=true):Spn bd (vR v):=(by_diff hv hb.row fun _ h=>h).congr fun k=>by
 show Mo (v.getD k 0) _
 rw [zR_get h k,Int.mul_zero,Int.add_zero]
 exact Mo.refl _
theorem lift_wd {x:Vc} (hr : ∀r∈rows,RowOk W r) (h:Spn rows x) : ∃y:Vc,Spn (wdS rows rows.length) y∧∀k,k<W→Mo (y k) (x k):=by
 induction h with
 | zero h0=>exact ⟨fun _=>0,.zero fun _=>Mo.refl _,fun k _=>(h0 k).symm⟩
 | @add u v r c hm _ h1 ih=>
  obtain ⟨y,h2,h3⟩:=ih;obtain ⟨i,hi,rfl⟩:=mem_rw.1 hm;refine ⟨fun k=>c * (rw_ rows i++uniR rows.length i).getD k 0+y k,.add (List.mem_map.2 ⟨i,List.mem_range.2 hi,rfl⟩) h2 fun _=>Mo.refl _,fun k hk=>?_⟩
  show Mo (c * (rw_ rows i++uniR rows.length i).getD k 0+y k) (v k)
  rw [app_get,if_pos (by rw [(hr _ hm).len];exact hk)];exact ((Mo.refl _).add (h3 k hk)).trans (h1 k).symm
def wid (v:List Int) (n:Nat):List Int:=v++List.replicate n 0
theorem wid_ok {n:Nat} (hv:RowOk W v):RowOk (W+n) (wid v n):=hv.app (RowOk.zeros n)
theorem wid_get {n k:Nat}:(wid v n).getD k 0=v.getD k 0:=by
 unfold wid;rw [app_get]
 split
 ·rfl
 ·rename_i h
  rw [rep_get,getD_ge (by omega)]
theorem prim_iff (h : ∀r∈rows,RowOk W r) (hv:RowOk W v):zR ((byS (wid v rows.length) (redS (wdS rows rows.length))).take W)=zR (byS v (redS rows)):=by
 have hR:=redS_ok (wdS_ok (n:=rows.length) h);have hb:=redS_ok h;have hw:=wid_ok (n:=rows.length) hv;have hn:=NF.by hR.1 hw;refine Bool.eq_iff_iff.2 ⟨fun hz=>by_in hb.1 hv ((hb.2 _).2 ?_),fun hz=>?_⟩
 ·have h1:=((hR.2 _).1 hn.d).take W;rw [wdS_take h] at h1;refine h1.congr fun k=>?_
  show Mo (v.getD k 0) (if k<W then (wid v rows.length).getD k 0 + -1 * (byS (wid v rows.length) (redS (wdS rows rows.length))).getD k 0 else 0)
  by_cases hk:k<W
  ·have h2:=zR_get hz k;rw [take_get,if_pos hk] at h2;rw [if_pos hk,h2,wid_get,Int.mul_zero,Int.add_zero];exact Mo.refl _
  ·rw [if_neg hk,getD_ge (by rw [hv.len];omega)];exact Mo.refl _
 ·obtain ⟨y,h1,h2⟩:=lift_wd h ((hb.2 _).1 (in_by hb.1 hv hz));refine Classical.byContradiction fun hc=>?_
  have hl:ldR ((byS (wid v rows.length) (redS (wdS rows rows.length))).take W)<((byS (wid v rows.length) (redS (wdS rows rows.length))).take W).length:=by
   unfold zR at hc
   simpa using hc
  have hne:=ldR_ne hl;have hlow : ∀j,j<ldR ((byS (wid v rows.length) (redS (wdS rows rows.length))).take W)→((byS (wid v rows.length) (redS (wdS rows rows.length))).take W).getD j 0=0:=fun j hj=>ldR_lt hj;have hval:=(byS_ok hw hR.1.row).val;rw [List.length_take] at hl;generalize ldR ((byS (wid v rows.length) (redS (wdS rows rows.length))).take W)=k at *;rw [take_get,if_pos (by omega)] at hne;have h3:Spn (redS (wdS rows rows.length)) (fun j=>y j + -1 * ((wid v rows.length).getD j 0 + -1 * (byS (wid v rows.length) (redS (wdS rows rows.length))).getD j 0)):=((hR.2 _).2 h1).plus (hn.d.mul (-1))
  have h4 : ∀j,j<W→Mo (y j + -1 * ((wid v rows.length).getD j 0 + -1 * (byS (wid v rows.length) (redS (wdS rows rows.length))).getD j 0)) ((byS (wid v rows.length) (redS (wdS rows rows.length))).getD j 0):=fun j hj=>by
   have h5:=h2 j hj;have h6:vR v j=v.getD j 0:=rfl;rw [wid_get];rw [h6] at h5;generalize (byS (wid v rows.length) (redS (wdS rows rows.length))).getD j 0=b;generalize v.getD j 0=a at h5 ⊢;generalize y j=c at h5 ⊢;unfold Mo at h5 ⊢
   omega
  obtain ⟨s,hs,e⟩:=hR.1.lead h3 (k:=k) (fun j hj=>(h4 j (by omega)).trans (by
   have:=hlow j hj;rw [take_get,if_pos (by omega)] at this;rw [this]
   exact Mo.refl _)) fun h7=>by
   have h8:=(h4 k (by omega)).symm.trans h7;have:=Mo.val h8 (hval k) (by omega);exact hne this
  have h9:=hn.z s hs;rw [e] at h9;exact hne (Mo.val h9 (hval k) (by omega))
end
section
variable {ds : List Int} {fs : List (List Term)} {n : Int} {s : Sm} {M : Int}
def prB (ds:List Int) (fs:List (List Term)) (n:Int) (s:Sm):Bool:=zR (byS ((monL ds n).map (cf s)) (bdS ds fs n))
theorem cf_row {ps:List Pw} {p:Pw} (hp:p∈ps) (h : ∀k,(ps.map (cf s)).getD k 0=0):cf s p=0:=by
 obtain ⟨i,hi,e⟩:=List.getElem_of_mem hp;have h1:=h i;rw [List.getD_eq_getElem?_getD,List.getElem?_eq_getElem (by rw [List.length_map];exact hi),List.getElem_map,e] at h1;exact h1
theorem prB_nil (hA:AlgOk ds fs) (h8:ds.length≤8) (hd : ∀j,j<ds.length→1≤ds.getD j 0∧ds.getD j 0≤12):prB ds fs n []=true:=by
 have hz : ∀k,((monL ds n).map (cf [])).getD k 0=0:=fun k=>by
  have e:(monL ds n).map (cf [])=List.replicate (monL ds n).length 0:=by
   rw [show cf []=fun _=>0 from rfl,List.map_const']
  rw [e,rep_get]
 exact by_in (bdS_red hA h8 hd) (cfR_ok (Sok.nil (M:=20))) (.zero fun k=>by show Mo (((monL ds n).map (cf [])).getD k 0) 0;rw [hz];exact Mo.refl _)
theorem prB_bd (hs:Sok M s) (hk : ∀x∈s,x.1∈monL ds n) (hb:bdS ds fs n=[]) (hne:s≠ []):prB ds fs n s=false:=by
 refine Bool.eq_false_iff.2 fun h=>?_;unfold prB at h;rw [hb] at h
 rcases s with _ | ⟨x,s⟩
 ·exact hne rfl
 ·have h1:=cf_row (hk x (by simp)) (zR_get h);rw [cf_in hs (by simp)] at h1;have:=hs.val x (by simp)
  omega
theorem prB_zero (hs:Sok M s) (hk : ∀x∈s,x.1∈monL ds n) (hn:n≤0) (hne:s≠ []):prB ds fs n s=false:=prB_bd hs hk (by unfold bdS;rw [if_neg (by omega)]) hne
theorem prB_pos (hs:Sok M s) (hk : ∀x∈s,x.1∈monL ds n) (hne:s≠ []) (h:prB ds fs n s=true):0<n∧0<(matS ds fs (n - 1)).length:=by
 by_cases hn:0<n
 ·refine ⟨hn,?_⟩
  rcases hm:matS ds fs (n - 1) with _ | ⟨r,l⟩
  ·rw [prB_bd hs hk (by unfold bdS;rw [if_pos hn,hm];rfl) hne] at h
   cases h
  ·simp
 ·rw [prB_zero hs hk (by omega) hne] at h
  cases h
theorem prB_prim (hA:AlgOk ds fs) (h8:ds.length≤8) (hd : ∀j,j<ds.length→1≤ds.getD j 0∧ds.getD j 0≤12) (hs:Sok M s) (hn:1≤n):zR ((byS (wid ((monL ds n).map (cf s)) (matS ds fs (n - 1)).length) (redS (wdS (matS ds fs (n - 1)) (matS ds fs (n - 1)).length))).take (monL ds n).length)=prB ds fs n s:=by
 have h1:=matS_ok (n:=n - 1) hA h8 hd;rw [Int.sub_add_cancel] at h1;unfold prB bdS;rw [if_pos (by omega)];exact prim_iff h1 (cfR_ok hs)
theorem fit_one {ds:List Int} {fs:List (List Term)} (hG:isAlg ds fs=true):fitB ds 1=true:=by
 have hd:=alg_112 hG;have h8:=isDeg_len (isAlg_deg hG);have hp0 : ∀p∈monS ds 1,∀j,0≤p.getD j 0:=fun p hp j=>((mon_pok h8 hp).bd j).1;have hw : ∀p∈monS ds 1,wsum ds p ds.length=1:=fun p hp=>mon_wt h8 hp
 have hout : ∀p∈monS ds 1,∀j,ds.length≤j→p.getD j 0=0:=fun p hp j hj=>by
  rw [(enumF_mem (by omega) rfl hp).2.1 j (.inr (by omega))];exact zP_get j
 have key : ∀p∈monS ds 1,∀k,k≤ds.length→(wsum ds p k=0∧∀j,j<k→p.getD j 0=0)∨(1≤wsum ds p k∧(wsum ds p k=1→∃i,i<k∧p.getD i 0=1∧∀j,j<k→j≠i→p.getD j 0=0)):=fun p hp k=>by
  induction k with
  | zero=>exact fun _=>.inl ⟨rfl,fun j hj=>by omega⟩
  | succ k ih=>
   intro hk;have e:wsum ds p (k+1)=wsum ds p k+ds.getD k 0 * p.getD k 0:=rfl;have h1:=hp0 p hp k;have h2:=hd k (by omega);have h3:1 * p.getD k 0≤ds.getD k 0 * p.getD k 0:=Int.mul_le_mul_of_nonneg_right h2.1 h1
   rcases (show 0<p.getD k 0∨p.getD k 0≤0 by omega) with h4 | h4
   ·right
    refine ⟨?_,fun h5=>?_⟩
    ·rcases ih (by omega) with h6 | h6 <;> omega
    ·rcases ih (by omega) with h6 | h6
     ·exact ⟨k,by omega,by omega,fun j hj hne=>h6.2 j (by omega)⟩
     ·omega
   ·have h5:p.getD k 0=0:=by omega
    have e2:wsum ds p (k+1)=wsum ds p k:=by rw [e,h5,Int.mul_zero,Int.add_zero]
    rcases ih (by omega) with h6 | h6
    ·exact .inl ⟨by omega,fun j hj=>by
      rcases Nat.lt_or_ge j k with h7 | h7
      ·exact h6.2 j h7
      ·rw [show j=k by omega];exact h5⟩
    ·refine .inr ⟨by omega,fun h7=>?_⟩;obtain ⟨i,g1,g2,g3⟩:=h6.2 (by omega)
     exact ⟨i,by omega,g2,fun j hj hne=>by
      rcases Nat.lt_or_ge j k with h8 | h8
      ·exact g3 j h8 hne
      ·rw [show j=k by omega];exact h5⟩
 have hE : ∀p∈monS ds 1,∃i,i<8∧p.getD i 0=1∧∀j,j≠i→p.getD j 0=0:=fun p hp=>by
  have h1:=hw p hp
  rcases key p hp ds.length (Nat.le_refl _) with h2 | h2
  ·omega
  ·obtain ⟨i,g1,g2,g3⟩:=h2.2 h1
   exact ⟨i,by omega,g2,fun j hne=>by
    rcases Nat.lt_or_ge j ds.length with h3 | h3
    ·exact g3 j h3 hne
    ·exact hout p hp j h3⟩
 have hl : ∀p∈monS ds 1,∀i,p.getD i 0=1→(∀j,j≠i→p.getD j 0=0)→ldR p=i:=fun p _ i g2 g3=>ldR_of (fun j hj=>g3 j (by omega)) (by rw [g2];decide);have hn:=mon_nodup ds 1 h8
 have h9:((monS ds 1).map ldR).Nodup:=by
  unfold List.Nodup at hn ⊢;rw [List.pairwise_map];refine hn.imp_of_mem fun {a b} ha hb hab he=>hab ?_;obtain ⟨i,_,a2,a3⟩:=hE a ha;obtain ⟨k,_,b2,b3⟩:=hE b hb
  have e:i=k:=by rw [← hl a ha i a2 a3,← hl b hb k b2 b3];exact he
  subst e;refine list8 (enumF_mem (by omega) rfl ha).1 (enumF_mem (by omega) rfl hb).1 fun j _=>?_
  by_cases hj:j=i
  ·rw [hj,a2,b2]
  ·rw [a3 j hj,b3 j hj]
 have h10:=nodup_sub (B:=List.range 8) h9 fun x hx=>by
  obtain ⟨p,hp,rfl⟩:=List.mem_map.1 hx;obtain ⟨i,g1,g2,g3⟩:=hE p hp;rw [hl p hp i g2 g3];exact List.mem_range.2 g1
 simp only [List.length_map,List.length_range] at h10;unfold fitB;exact decide_eq_true (by omega)
end
def prRow (ds:List Int) (fs:List (List Term)) (n:Int) (s:Sm):List Int:=byS (wid ((monL ds n).map (cf s)) (matS ds fs (n - 1)).length) (redS (wdS (matS ds fs (n - 1)) (matS ds fs (n - 1)).length))
theorem prRow_ok {ds:List Int} {fs:List (List Term)} {n:Int} {s:Sm} {M:Int} (hA:AlgOk ds fs) (h8:ds.length≤8) (hd : ∀j,j<ds.length→1≤ds.getD j 0∧ds.getD j 0≤12) (hs:Sok M s):RowOk ((monL ds n).length+(matS ds fs (n - 1)).length) (prRow ds fs n s):=by
 have h1:=matS_ok (n:=n - 1) hA h8 hd;rw [Int.sub_add_cancel] at h1;exact byS_ok (wid_ok (cfR_ok hs)) (redS_ok (wdS_ok h1)).1.row
def prO (ds:List Int) (fs:List (List Term)) (n:Int) (s:Sm):List Int:=lessS (List.replicate (monL ds (n - 1)).length 0) ((prRow ds fs n s).drop (monL ds n).length) 1
theorem prO_ok {ds:List Int} {fs:List (List Term)} {n:Int} {s:Sm} {M:Int} (hA:AlgOk ds fs) (h8:ds.length≤8) (hd : ∀j,j<ds.length→1≤ds.getD j 0∧ds.getD j 0≤12) (hs:Sok M s):RowOk (monL ds (n - 1)).length (prO ds fs n s):=by
 have h1:=(prRow_ok (n:=n) hA h8 hd hs).drop;rw [matS_len] at h1;exact (RowOk.zeros _).less (by rw [h1.len,List.length_replicate])
theorem l03Primitive_c {B:World} {H0 H:HP} {L:List SA} {w:World} {qad qaf:Option Addr} {cad caf:Nat} {ad:List Int} {af:List (List Term)} {n:Int} {qts:Option Addr} {cts:Nat} {ts:List Term} {M:Int} (had:Ints H qad ad) (haf:Forms H qaf af) (hts:Terms H qts ts) (hG:isAlg ad af=true) (hn:1≤n∧n≤40) (hf0:fitB ad (n - 1)=true) (hf1:fitB ad n=true) (hne:ts≠ []) (hfl:ts.length≤1000000) (hfs:Sok M (toS ts)) (hfi : ∀x∈toS ts,x.1∈monL ad n) (hH:Hp B H0 H L w):Calls Tryz.prog 131 [.agg [.slice qad ad.length cad,.slice qaf af.length caf].toArray,.int .i64 n,.agg [.slice qts ts.length cts].toArray].toArray w fun e w'=>∃q m c,e = .returned (.tuple #[.agg [.slice q m c].toArray,.bool (prB ad af n (toS ts))])∧Hp B H0 H L w':=by
 refine Jx Tryz.func131 rfl 87 rfl rfl [(0,.agg [.slice qad ad.length cad,.slice qaf af.length caf].toArray),(1,.int .i64 n),(2,.agg [.slice qts ts.length cts].toArray)] rfl hH ?_;have hw0:=hH.old;have hw1:=hH.le;clear hH;have hwf:=haf.wfss;have hA:=isAlg_ok hG hwf;have h8:=hA.hn;have hd:=alg_112 hG;have hml:=monL_len ad n;have hml1:=monL_len ad (n+1);have hmlm:=monL_len ad (n - 1);have hfm:fit2 ad (n - 1):=⟨hf0,by rw [Int.sub_add_cancel];exact hf1⟩;have hmT0:=monT_L hf0;have hmT1:=monT_L hf1;have hmlen:=matS_len ad af (n - 1);have hmok:=matS_ok (n:=n - 1) hA h8 hd;rw [Int.sub_add_cancel] at hmok;have hv:=vec_mon h8 hfs hfi;have hvo:=cfR_ok (ds:=ad) (n:=n) hfs;have hpr:=prRow_ok (n:=n) hA h8 hd hfs;have hprl:=hpr.len;have hpo:=prO_ok (n:=n) hA h8 hd hfs;have hclR:=clS_red (n:=n - 1) hA h8 hd;have hcll:=clS_len (n:=n - 1) hA h8 hd
 have hwp:0<(monL ad n).length:=by
  rcases ts with _ | ⟨t,ts⟩
  ·exact absurd rfl hne
  ·exact List.length_pos_of_mem (hfi _ List.mem_cons_self)
 have hRR:=(redS_ok (wdS_ok (n:=(matS ad af (n - 1)).length) hmok)).1;have hRc:=hRR.count;refine Je fun _ hK1 _=>(Jb (JW rfl rfl rfl fun g3=>(JW rfl rfl rfl fun g5=>(JP ze40 rfl fun g6=>(Jg (Jd rfl) rfl (Jf (Ja (hK1 (Je fun _ hK2 _=>(Ea (Rs:=[_,_,_]) 11 [[], [0], [], [2], [0,1,2,3], [], [5], [], [0,1,2,3,4,5,6,7], [0,1,2,3,4,5,6,7,8], [0,1,2,3,4,5,6,7,8,9]] [[], [13], [], [], [], [], [13], [], [], [], []] [[], [], [], [], [], [], [], [], [], [], []] rfl rfl (by kernel_rfl) ?_))))))))));apply Ji 1 rfl rfl rfl
 ·intros;conv=>lhs;simp only [Jh,reduceEqDiff,reduceAdd]
 ·exact Jl u36 rfl sz22 rfl
 apply Ji 2 rfl rfl rfl
 ·intros;conv=>lhs;simp only [Jh,reduceEqDiff,reduceAdd]
 ·exact Js rfl At.z rfl pl22
 apply Ji 3 rfl rfl rfl
 ·intros;conv=>lhs;simp only [Jh,reduceEqDiff,reduceAdd]
 ·exact Jc rfl
 apply Ji 4 rfl rfl rfl
 ·intros;conv=>lhs;simp only [Jh,reduceEqDiff,reduceAdd]
 ·exact EH rfl rfl (by first | exact nw _ (by omega) | rfl)
 apply JR 5 rfl
 ·intros;conv=>lhs;simp only [Jh,reduceEqDiff,reduceAdd]
 ·
  intro gh X K zq zc zq2 zc2 zb zv hK;refine Ju fn68 rfl rfl fun w hH=>(l01Monomials_c had hd h8 (by omega) hH).mono ?_;rintro _ w ⟨qo21,co21,rfl,hH⟩;refine ⟨_,rfl,fun a hF=>JH hF hH ?_⟩;refine Jy ?_;exact hK qo21 co21 zq2 zc2 zb zv
 ·intro gh gh' h;refine ⟨?_,?_⟩ <;> rfl
 apply Ji 6 rfl rfl rfl
 ·intros;conv=>lhs;simp only [Jh,reduceEqDiff,reduceAdd]
 ·exact Jl u36 rfl sz22 rfl
 apply Ji 7 rfl rfl rfl
 ·intros;conv=>lhs;simp only [Jh,reduceEqDiff,reduceAdd]
 ·exact Js rfl At.z rfl pl22
 apply Ji 8 rfl rfl rfl
 ·intros;conv=>lhs;simp only [Jh,reduceEqDiff,reduceAdd]
 ·exact Jc rfl
 apply JR 9 rfl
 ·intros;conv=>lhs;simp only [Jh,reduceEqDiff,reduceAdd]
 ·
  intro gh X K zq zc zq2 zc2 zb zv hK;refine Ju fn68 rfl rfl fun w hH=>(l01Monomials_c had hd h8 (by omega) hH).mono ?_;rintro _ w ⟨qo25,co25,rfl,hH⟩;refine ⟨_,rfl,fun a hF=>JH hF hH ?_⟩;refine Jy ?_;exact hK qo25 co25 zq2 zc2 zb zv
 ·intro gh gh' h;refine ⟨?_,?_⟩ <;> (first | simp only [h 4 rfl] | rfl)
 apply Ef 10 rfl rfl rfl
 ·intros;conv=>lhs;simp only [Jh,reduceEqDiff,reduceAdd]
 ·exact Jd rfl
 ·intro gh gh' h;first | simp only [h 4 rfl,h 8 rfl] | rfl
 apply Ef 11 rfl rfl rfl
 ·intros;conv=>lhs;simp only [Jh,reduceEqDiff,reduceAdd]
 ·exact Jd rfl
 ·intro gh gh' h;first | simp only [h 4 rfl,h 8 rfl] | rfl
 apply JZ [0,1,2,3,4,5,6,7,8,9,10] [0,1,2,3,4,5,6,7,8,9,10,11,12,13] foll0 rfl rfl rfl (by rfl)
 iterate 2 focus (intros;(conv=>lhs;simp only [JU,Ej,Ka,El,Es,eq_self,reduceEqDiff,reduceIte,reduceSub,reduceAdd,JxA,JxB]);all_goals rfl)
 intro gh;generalize (gh 4).c=co21;generalize (gh 4).q=qo21;generalize (gh 8).c=co25;generalize (gh 8).q=qo25;clear gh;refine EA .z fun Ho21 hleo21 hAo21=>?_;replace had:=had.le hleo21;replace haf:=haf.le hleo21;replace hts:=hts.le hleo21;have hxo21:=own_monos (monT_8 h8) hAo21;have hco21:=own_le hAo21;refine EA .z fun Ho25 hleo25 hAo25=>?_;replace had:=had.le hleo25;replace haf:=haf.le hleo25;replace hts:=hts.le hleo25;replace hxo21:=hxo21.le hleo25;have hxo25:=own_monos (monT_8 h8) hAo25;have hco25:=own_le hAo25;rw [hmT0] at hxo21;rw [hmT1] at hxo25;rw [hmT0,hmT1];have hmm:=monL_mn (n:=n) h8;have hmm0:=monL_mn (n:=n - 1) h8;refine Ja (hK2 (Je fun _ hK3 _=>(Jb (Jg (Jc rfl) rfl (Jg (Jo u135 rfl rfl) rfl (Jg (Jm rfl (.s (.s .z)) (by simpa [*] using ag36)) rfl (Jg (Jc rfl) rfl (Jg (EH rfl rfl (by first | exact nw _ (by omega) | rfl)) rfl (Ju fn120 rfl rfl fun w hH=>(l03Matrix_c had haf hd h8 (by omega) hA hfm (hom_of hG hwf h8 hd (by omega) hfm) hH).mono ?_)))))))));rintro _ w ⟨Hf31,qf31,cf31,hlf31,hI31,hcc31,rfl,hH⟩;refine ⟨_,rfl,fun a hF=>JH hF hH ?_⟩;replace had:=had.le hlf31;replace haf:=haf.le hlf31;replace hts:=hts.le hlf31;replace hxo21:=hxo21.le hlf31;replace hxo25:=hxo25.le hlf31;refine EI (EP u31 sz22) rfl fun qo32 co32=>(Jg (Jd rfl) rfl (Jg (Jd rfl) rfl (Jg (Jd rfl) rfl (Jf (Ja (hK3 (Je fun _ hK4 _=>(Je fun _ hK5 _=>(Jb (Jg (Jd rfl) rfl (Jf (Ja (hK5 (Jp (JD (σ:=HP × Option Addr × Nat × List Value × Nat) (fun ⟨Hk,q,c,vals,k⟩=>[(13,.int .i64 (k:Int)),(12,.slice q k c)]) (fun ⟨Hk,q,c,vals,k⟩=>Hk) (fun ⟨Hk,q,c,vals,k⟩=>own 22 1 q k c vals::obj g6 (.cells [.slice none 0 0].toArray 40 (0,0))::obj g5 (.cells [.slice qts ts.length cts].toArray 40 (0,0))::obj g3 (.cells [.slice qad ad.length cad,.slice qaf af.length caf].toArray 36 (0,0))::L) (fun ⟨Hk,q,c,vals,k⟩=>Le Hf31 Hk∧SlF Hk vals (wdK (matS ad af (n - 1)) (matS ad af (n - 1)).length k)∧k≤(matS ad af (n - 1)).length) (fun ⟨Hk,q,c,vals,k⟩=>(matS ad af (n - 1)).length - k) (Hf31,qo32,co32, [],0) ⟨Le.refl _,SlF.nil _,by omega⟩ ⟨rfl,⟨rfl,trivial⟩⟩ rfl rfl ?_)))))))))))))));rintro ⟨Hk,q,c,vals,k⟩ ⟨hlk,hS,hk⟩ _ hAg0;replace had:=had.le hlk;replace haf:=haf.le hlk;replace hts:=hts.le hlk;replace hxo21:=hxo21.le hlk;replace hxo25:=hxo25.le hlk;replace hI31:=hI31.le hlk;refine Je fun _ hK6 _=>(Je fun _ hK7 _=>(Jb (Jg (Jc rfl) rfl (Jg (Jc rfl) rfl (Jg (Jo u31 rfl rfl) rfl (Jg (JJ rfl rfl) rfl (Jf (Ja (hK7 (Jq rfl (fun h36=>?_) (fun h36=>?_)))))))))))
 ·
  have hk1:k<(matS ad af (n - 1)).length:=by omega
  have hrk:=(hmok _ (rw_mem hk1)).len;refine Jn (Ja (hK6 (Je fun _ hK8 _=>(Jp (Je fun _ hK9 _=>(Jb (EI (MK.lit0I u22 sz2) rfl fun qo39 co39=>(Jg (Jc rfl) rfl (Jg (Jc rfl) rfl (Jg (JL u31 sz22 rfl rfl rfl hk1 hI31.sm) rfl ?_))))))))));obtain ⟨qe43,ce43,he43,le43,Fe43⟩:=hI31 k hk1;refine Jg (JE rfl he43 pl22) rfl (J.appendHI u22 ze2 sz2 by2 rfl rfl Fe43 (by simp only [List.length_nil];omega) At.z (fun _ _=>At.z) rfl fun qo44 co44=>(Jg (Jc rfl) rfl (Jg (Jo u135 rfl rfl) rfl (J.appendZ (m:=(matS ad af (n - 1)).length) u22 u3 ze2 sz2 by2 rfl rfl rfl (by rw [matS_len]) (by omega) (by simp only [List.length_append,List.length_nil];omega) At.z (fun _ _=>At.z) rfl fun qo47 co47=>(Jg (Jd rfl) rfl (Jf (Ja (hK9 (Je fun _ hK10 _=>(Jb (Jg (Jc rfl) rfl (Jg (Jc rfl) rfl (Jg (Jc rfl) rfl (Jg (Jz rfl rfl (by first | exact nw _ (by omega) | rfl)) rfl (Jg (Eu (i':=(monL ad n).length+k) u22 sz2 rfl rfl (by omega) (by simp;omega) At.z) rfl ?_)))))))))))))));refine ET rfl rfl sz2 (by simp;omega) At.z ?_;rw [uni_eq hrk];refine Ev .z fun Ho39 hleo39 hAo39=>?_;replace had:=had.le hleo39;replace haf:=haf.le hleo39;replace hts:=hts.le hleo39;replace hxo21:=hxo21.le hleo39;replace hxo25:=hxo25.le hleo39;replace hI31:=hI31.le hleo39;replace hS:=hS.le hleo39;replace Fe43:=Fe43.le hleo39;have hxo39:=own_ints hAo39;have hco39:=own_le hAo39;refine Jf (Ja (hK10 (Jb (Jg (Jc rfl) rfl (Jg (Ep (v':=.slice qo47 (rw_ (matS ad af (n - 1)) k++uniR (matS ad af (n - 1)).length k).length co47) (by simp) (Jc rfl)) rfl (EI (EN u31 ze22 sz22 rfl rfl) rfl fun qo55 co55=>(EG u31 ze22 sz22 by22 rfl rfl rfl rfl (by omega) .z At.z (fun _ _=>At.z) rfl fun qo56 co56=>?_)))))));have hS2:=hS.snoc hxo39 rfl (by simpa using hco39);refine Jg (Jd rfl) rfl (Jf (JF (Ja (hK8 (Jb (Jg (Jc rfl) rfl (Jg (Jz rfl rfl (by first | exact nw _ (by omega) | rfl)) rfl (Jg (Jd rfl) rfl (Jf (Ja (JN .z ?_)))))))))));exact hAg0 (Ho39,qo56,co56,_,k+1) ⟨(hlk.trans hleo39),by rw [wdK_succ];exact hS2,by omega⟩ (by show (matS ad af (n - 1)).length - (k+1)<(matS ad af (n - 1)).length - k;omega) 29 rfl rfl ⟨rfl,⟨rfl,trivial⟩⟩ rfl rfl
 ·
  refine JG (Jj (Jj (JK (Ja (hK4 (Je fun _ hK11 _=>(Jb (Jg (Jm rfl (.s (.s .z)) (by simpa [*] using ag40)) rfl (Jg (Jc rfl) rfl (Ju fn71 rfl rfl fun w hH=>(l03Vector_c hts hxo25 (by omega) (by omega) hmm hH).mono ?_))))))))));rintro _ w ⟨qo59,co59,rfl,hH⟩;refine ⟨_,rfl,fun a hF=>JH hF hH ?_⟩;refine Jg (Jc rfl) rfl (Jg (Jo u135 rfl rfl) rfl (J.appendZ (m:=(matS ad af (n - 1)).length) u22 u3 ze2 sz2 by2 rfl rfl rfl (by rw [matS_len]) (by omega) (by rw [vec_len];omega) At.z (fun _ _=>At.z) rfl fun qo62 co62=>(Jg (Ep (v':=.slice q (wdS (matS ad af (n - 1)) (matS ad af (n - 1)).length).length c) (by rw [show (wdS (matS ad af (n - 1)) (matS ad af (n - 1)).length).length=(matS ad af (n - 1)).length from wdK_len _ _ _,show k=(matS ad af (n - 1)).length by omega]) (Jc rfl)) rfl ?_)))
  obtain rfl:k=(matS ad af (n - 1)).length:=by omega
  refine Ev (.s .z) fun Ho32 hleo32 hAo32=>?_;replace had:=had.le hleo32;replace haf:=haf.le hleo32;replace hts:=hts.le hleo32;replace hxo21:=hxo21.le hleo32;replace hxo25:=hxo25.le hleo32;replace hI31:=hI31.le hleo32;replace hS:=hS.le hleo32;have hxo32:=hS.rows (Le.refl _) hAo32;have hco32:=own_le hAo32;rw [show wdK (matS ad af (n - 1)) (matS ad af (n - 1)).length (matS ad af (n - 1)).length=wdS (matS ad af (n - 1)) (matS ad af (n - 1)).length from rfl] at hxo32;refine Ju fn119 rfl rfl fun w hH=>(l03Reduce_c (W:=(monL ad n).length+(matS ad af (n - 1)).length) hxo32 (wdS_ok hmok) (by rw [show (wdS (matS ad af (n - 1)) (matS ad af (n - 1)).length).length=(matS ad af (n - 1)).length from wdK_len _ _ _];omega) (by omega) hH).mono ?_;rintro _ w ⟨Hf64,qf64,cf64,hlf64,hI64,hcc64,rfl,hH⟩;refine ⟨_,rfl,fun a hF=>JH hF hH ?_⟩;replace had:=had.le hlf64;replace haf:=haf.le hlf64;replace hts:=hts.le hlf64;replace hxo21:=hxo21.le hlf64;replace hxo25:=hxo25.le hlf64;replace hI31:=hI31.le hlf64;replace hS:=hS.le hlf64;replace hxo32:=hxo32.le hlf64;refine Ev .z fun Ho59 hleo59 hAo59=>?_;replace had:=had.le hleo59;replace haf:=haf.le hleo59;replace hts:=hts.le hleo59;replace hxo21:=hxo21.le hleo59;replace hxo25:=hxo25.le hleo59;replace hI31:=hI31.le hleo59;replace hS:=hS.le hleo59;replace hxo32:=hxo32.le hleo59;replace hI64:=hI64.le hleo59;have hxo59:=own_ints hAo59;have hco59:=own_le hAo59;refine Ju fn70 rfl rfl fun w hH=>(l03By_c (W:=(monL ad n).length+(matS ad af (n - 1)).length) hxo59 hI64 (by rw [hv];exact wid_ok hvo) hRR.led (by omega) (by omega) hco59 hH).mono ?_;rintro _ w ⟨Hf65,qf65,cf65,hlf65,hI65,hcc65,rfl,hH⟩;refine ⟨_,rfl,fun a hF=>JH hF hH ?_⟩;replace had:=had.le hlf65;replace haf:=haf.le hlf65;replace hts:=hts.le hlf65;replace hxo21:=hxo21.le hlf65;replace hxo25:=hxo25.le hlf65;replace hI31:=hI31.le hlf65;replace hS:=hS.le hlf65;replace hxo32:=hxo32.le hlf65;replace hI64:=hI64.le hlf65;replace hxo59:=hxo59.le hlf65;rw [hv] at hI65 hcc65 ⊢;replace hI65:Ints Hf65 qf65 (prRow ad af n (toS ts)):=hI65;replace hcc65:(prRow ad af n (toS ts)).length≤cf65:=hcc65;refine Jg (Ep (v':=.slice qf65 (prRow ad af n (toS ts)).length cf65) (by rfl) (Jd rfl)) rfl (Jf (Ja (hK11 (Je fun _ hK12 _=>(Je fun _ hK13 _=>(Jb (Jg (Jc rfl) rfl (Jg (Jc rfl) rfl (Jg (Ep (v':=.slice qf65 ((prRow ad af n (toS ts)).take (monL ad n).length).length cf65) (by rw [List.length_take_of_le (by omega)]) (PR.sliceHi (i':=(monL ad n).length) u22 sz2 rfl rfl rfl (by omega))) rfl (Ju fn96 rfl rfl fun w hH=>(l03First_c (ints_pre hI65 (monL ad n).length) (by rw [List.length_take_of_le (by omega)];omega) hH).mono ?_))))))))));rintro _ w ⟨rfl,hH⟩;refine ⟨_,rfl,fun a hF=>JH hF hH ?_⟩;refine Jg (PR.geq rfl rfl) rfl (Jf (Ja (hK13 (Jq rfl (fun h70=>?_) (fun h70=>?_)))))
  ·
   have hpb:prB ad af n (toS ts)=false:=by
    rw [← prB_prim hA h8 hd hfs (by omega)];exact (zR_eq _).symm.trans (decide_eq_false (by show ¬idxOf ((prRow ad af n (toS ts)).take _) nzI<0;omega))
   refine Je fun _ hK14 _=>(Jb (Jg (EB bz40) rfl (JB rfl rfl (by first | exact bytesC_one _ | exact intsC_one _ | exact Term.c_one _ | simp [Value.oneCell']) (by simpa [*] using sz40) (by simp [*]) At.z (Jg (Jd rfl) rfl (Jf (Ja (hK14 (Jt (Jk (Eg rfl (Res.agg rfl At.z (by simpa [*] using ag40)) (Res.tmp rfl) fun w hH=>?_))))))))));replace hH:=hH.tail;replace hH:=hH.tail;replace hH:=hH.tail;exact ⟨none,0,0,by rw [hpb],hH.weaken (((((((hleo21.trans hleo25).trans hlf31).trans hlk).trans hleo32).trans hlf64).trans hleo59).trans hlf65) hw0 hw1⟩
  ·
   have hpb:prB ad af n (toS ts)=true:=by
    rw [← prB_prim hA h8 hd hfs (by omega)];exact (zR_eq _).symm.trans (decide_eq_true (by show idxOf ((prRow ad af n (toS ts)).take _) nzI<0;omega))
   have hmp:=(prB_pos hfs hfi (fun e=>hne (List.map_eq_nil_iff.1 e)) hpb).2;refine Jn (Ja (hK12 (Je fun _ hK15 _=>(Ea (Rs:=[_,_,_]) 13 [[], [0], [0,1], [], [], [3,4], [0,1,2,3,4,5], [], [], [8], [0,1,2,3,4,5,6,7,8,9], [0,1,2,3,4,5,6,7,8,9,10], [0,1,2,3,4,5,6,7,8,9,10,11]] [[], [], [], [], [], [], [2], [15], [], [], [], [], []] [[], [], [], [], [], [], [], [], [], [], [], [6,10], []] rfl rfl (by kernel_rfl) ?_))));apply Ji 1 rfl rfl rfl
   ·intros;conv=>lhs;simp only [Jh,reduceEqDiff,reduceAdd]
   ·exact Jc rfl
   apply Ji 2 rfl rfl rfl
   ·intros;conv=>lhs;simp only [Jh,reduceEqDiff,reduceAdd]
   ·exact Jo u135 rfl rfl
   apply JR 3 rfl
   ·intros;conv=>lhs;simp only [Jh,reduceEqDiff,reduceAdd]
   ·
    intro gh X K zq zc zq2 zc2 zb zv hK;refine EI (MK.makeI (m:=(monL ad (n - 1)).length) u22 ze2 sz2 by2 rfl rfl rfl rfl (by omega)) rfl fun qo74 co74=>(Jy ?_);exact hK qo74 co74 zq2 zc2 zb zv
   ·intro gh gh' h;refine ⟨?_,?_⟩ <;> rfl
   apply Ji 4 rfl rfl rfl
   ·intros;conv=>lhs;simp only [Jh,reduceEqDiff,reduceAdd]
   ·exact Jc rfl
   apply Ji 5 rfl rfl rfl
   ·intros;conv=>lhs;simp only [Jh,reduceEqDiff,reduceAdd]
   ·exact Jc rfl
   apply Ji 6 rfl rfl rfl
   ·intros;conv=>lhs;simp only [Jh,reduceEqDiff,reduceAdd]
   ·exact Ep (v':=.slice (qf65.map fun a=>a.add (monL ad n).length) ((prRow ad af n (toS ts)).drop (monL ad n).length).length (cf65 - (monL ad n).length)) (by rw [List.length_drop]) (PR.sliceLH (i':=(monL ad n).length) u22 sz2 rfl (hI65.sm (i:=0) (by omega)) rfl rfl (by omega) (by omega))
   apply JR 7 rfl
   ·intros;conv=>lhs;simp only [Jh,reduceEqDiff,reduceAdd]
   ·
    intro gh X K zq zc zq2 zc2 zb zv hK;refine Ju fn97 rfl rfl fun w hH=>hH.lend .z fun Hl1 hle1 hA1 hB1 hH=>(l03Less_c (own_ints hA1) ((ints_drop hI65 (monL ad n).length).le hle1) (by simp;omega) (by rw [List.length_drop,List.length_replicate];omega) (fun j=>by rw [rep_get];omega) hpr.drop.val (by omega) hH).mono ?_;rintro _ w ⟨qo78,co78,rfl,hH⟩;replace hH:=hB1 _ _ hH;refine ⟨_,rfl,fun a hF=>JH hF hH ?_⟩;refine Jw .z (Jw (.s .z) (Jy ?_));exact hK qo78 co78 zq2 zc2 zb zv
   ·intro gh gh' h;refine ⟨?_,?_⟩ <;> (first | simp only [h 2 rfl] | rfl)
   apply Ji 8 rfl rfl rfl
   ·intros;conv=>lhs;simp only [Jh,reduceEqDiff,reduceAdd]
   ·exact Jm rfl At.z (by simpa [*] using ag36)
   apply Ji 9 rfl rfl rfl
   ·intros;conv=>lhs;simp only [Jh,reduceEqDiff,reduceAdd]
   ·exact Jc rfl
   apply Ji 10 rfl rfl rfl
   ·intros;conv=>lhs;simp only [Jh,reduceEqDiff,reduceAdd]
   ·exact EH rfl rfl (by first | exact nw _ (by omega) | rfl)
   apply JR 11 rfl
   ·intros;conv=>lhs;simp only [Jh,reduceEqDiff,reduceAdd]
   ·
    intro gh X K zq zc zq2 zc2 zb zv hK;refine Ju fn117 rfl rfl fun w hH=>(l03Closed_m had haf hG (by omega) hfm hH).mono ?_;rintro _ w ⟨qo82,co82,vso82,rfl,hH⟩;refine ⟨_,rfl,fun a hF=>JH hF hH ?_⟩;refine Jy ?_;exact hK qo82 co82 zq2 zc2 zb vso82
   ·intro gh gh' h;refine ⟨?_,?_⟩ <;> (first | simp only [h 2 rfl,h 6 rfl] | rfl)
   apply JR 12 rfl
   ·intros;conv=>lhs;simp only [Jh,reduceEqDiff,reduceAdd]
   ·
    intro gh X K zq zc zq2 zc2 zb zv hK;refine Ju fn70 rfl rfl fun w hH=>(Hp.byM hpo hclR.led (by omega) (by omega) ((hH.front .z).front (.s .z))).mono ?_;rintro _ w ⟨qo83,co83,vso83,rfl,hH⟩;refine ⟨_,rfl,fun a hF=>JH hF hH ?_⟩;refine Jy ?_;exact hK qo83 co83 zq2 zc2 zb vso83
   ·intro gh gh' h;refine ⟨?_,?_⟩ <;> (first | simp only [h 2 rfl,h 6 rfl,h 10 rfl] | rfl)
   apply Ef 13 rfl rfl rfl
   ·intros;conv=>lhs;simp only [Jh,reduceEqDiff,reduceAdd]
   ·exact Jd rfl
   ·intro gh gh' h;first | simp only [h 2 rfl,h 6 rfl,h 10 rfl,h 11 rfl] | rfl
   apply JZ [0,1,2,3,4,5,6,7,8,9,10,11,12] [0,1,2,3,4,5,7,8,9,11,12,13,14,15] foll0 rfl rfl rfl (by rfl)
   iterate 2 focus (intros;(conv=>lhs;simp only [JU,Ej,Ka,El,Es,eq_self,reduceEqDiff,reduceIte,reduceSub,reduceAdd,JxA,JxB]);all_goals rfl)
   intro gh;generalize (gh 2).c=co74;generalize (gh 2).q=qo74;generalize (gh 6).c=co78;generalize (gh 6).q=qo78;generalize (gh 10).c=co82;generalize (gh 10).q=qo82;generalize (gh 10).vs=vso82;generalize (gh 11).c=co83;generalize (gh 11).q=qo83;generalize (gh 11).vs=vso83;clear gh;refine EA (.s .z) fun Ho83 hleo83 hAo83=>?_;replace had:=had.le hleo83;replace haf:=haf.le hleo83;replace hts:=hts.le hleo83;replace hxo21:=hxo21.le hleo83;replace hxo25:=hxo25.le hleo83;replace hI31:=hI31.le hleo83;replace hS:=hS.le hleo83;replace hxo32:=hxo32.le hleo83;replace hI64:=hI64.le hleo83;replace hxo59:=hxo59.le hleo83;replace hI65:=hI65.le hleo83;obtain ⟨hxo83,hco83⟩:=mlt_ints hleo83 hAo83;refine Ja (hK15 (Je fun _ hK16 _=>(Jb (Jg (Jc rfl) rfl (Jg (Jc rfl) rfl (Ju fn116 rfl rfl fun w hH=>(l03Form_c hxo83 hxo21 (by exact (byS_ok hpo hclR.row).len) (by omega) hmm0 (byS_ok hpo hclR.row).val hH).mono ?_))))));rintro _ w ⟨qo86,co86,rfl,hH⟩;refine ⟨_,rfl,fun a hF=>JH hF hH ?_⟩;refine JB rfl rfl (by first | exact bytesC_one _ | exact intsC_one _ | exact Term.c_one _ | simp [Value.oneCell']) (by simpa [*] using sz40) (by simp [*]) (.s (.s .z)) (Jg (Jd rfl) rfl (Jf (Ja (hK16 (Jt (Eg rfl (Res.agg rfl (.s (.s .z)) (by simpa [*] using ag40)) (Res.tmp rfl) fun w hH=>?_))))));replace hH:=hH.tail;replace hH:=hH.tail;replace hH:=hH.tail;replace hH:=hH.tail;replace hH:=hH.tail;exact ⟨_,_,_,by rw [hpb],hH.weaken ((((((((hleo21.trans hleo25).trans hlf31).trans hlk).trans hleo32).trans hlf64).trans hleo59).trans hlf65).trans hleo83) hw0 hw1⟩
theorem u56:Tryz.prog.underlying 56=some (TypeDesc.struct #[{name:="x",type:=40,offset:=0,embedded:=false,tag:="",pkgPath:="loop.example/g01219/spec",byteOffset:=0},{name:="y",type:=40,offset:=1,embedded:=false,tag:="",pkgPath:="loop.example/g01219/spec",byteOffset:=24},{name:="z",type:=40,offset:=2,embedded:=false,tag:="",pkgPath:="loop.example/g01219/spec",byteOffset:=48},{name:="p",type:=2,offset:=3,embedded:=false,tag:="",pkgPath:="loop.example/g01219/spec",byteOffset:=72},{name:="q",type:=2,offset:=4,embedded:=false,tag:="",pkgPath:="loop.example/g01219/spec",byteOffset:=80},{name:="r",type:=2,offset:=5,embedded:=false,tag:="",pkgPath:="loop.example/g01219/spec",byteOffset:=88},{name:="u",type:=40,offset:=6,embedded:=false,tag:="",pkgPath:="loop.example/g01219/spec",byteOffset:=96},{name:="v",type:=40,offset:=7,embedded:=false,tag:="",pkgPath:="loop.example/g01219/spec",byteOffset:=120}]):=by kernel_rfl
theorem sz56:Size Tryz.prog 56 8:=by unfold Size;kernel_rfl
theorem ze56:Zero Tryz.prog 56 [.slice none 0 0,.slice none 0 0,.slice none 0 0,.int .i64 0,.int .i64 0,.int .i64 0,.slice none 0 0,.slice none 0 0]:=by unfold Zero;kernel_rfl
theorem ag56:Agg Tryz.prog 56 8:=⟨_,u56,rfl,by kernel_rfl⟩
theorem fn131:Fn Tryz.prog 131:=⟨_,Tryz.func131,by kernel_rfl,rfl⟩
theorem fn94:Fn Tryz.prog 94:=⟨_,Tryz.func94,by kernel_rfl,rfl⟩
theorem fn95:Fn Tryz.prog 95:=⟨_,Tryz.func95,by kernel_rfl,rfl⟩
theorem ag_one {cs:List Value} {k:Nat} {v:Value} (h:cs[k]? = some v) : ∀(j:Nat) (u:Value), [v][j]? = some u→cs[k+j]? = some u
 | 0,u,hu=>by
  rw [Nat.add_zero,h]
  exact hu
 | j+1,u,hu=>by simp at hu
def TmK (q:Option Addr) (xs:List Term) (F:HP):Prop:=Terms F q xs
theorem mlt_terms {H H':HP} {vs:Vs} {q:Option Addr} {xs:List Term} (hle:Le H H') (h:(mlt (TmK q xs) H vs).holds H'):Terms H' q xs:=by
 obtain ⟨F,h1,h2⟩:=mlt_at hle h;exact Terms.le h2 h1
theorem scl_1 {M:Int} {s:Sm} (h:Sok M s):scl s 1=s:=by
 unfold scl;refine (List.map_congr_left fun x hx=>?_).trans (List.map_id s);have:=h.val x hx;rw [Int.mul_one,Int.tmod_eq_emod_of_nonneg (by omega),Int.emod_eq_of_lt (by omega) (by omega)]
 rfl
def sgF7 (n:Int):Int:=if n.tmod 2=0 then 1 else 10006
def sgS (n:Int) (s:Sm):Sm:=acc [] (scl s (sgF7 n))
section
variable {n M : Int} {s : Sm}
theorem sgS_even (h:n.tmod 2=0) (hs:Sok M s):sgS n s=s:=by
 unfold sgS sgF7;rw [if_pos h,scl_1 hs,acc_self hs]
theorem sgS_odd (h : ¬n.tmod 2=0) (s:Sm):sgS n s=acc [] (scl s 10006):=by
 unfold sgS sgF7;rw [if_neg h]
theorem sgS_sok (hs:Sok M s) (n:Int):Sok M (sgS n s):=Sok.nil.acc (scl_pok hs _)
theorem sgS_mem {x:Pw × Int} (h:x∈sgS n s) : ∃y∈s,x.1=y.1:=by
 rcases acc_mem h with h1 | ⟨z,hz,e⟩
 ·simp at h1
 ·obtain ⟨y,hy,e2⟩:=scl_key hz;exact ⟨y,hy,e.trans e2⟩
theorem sgS_len (n:Int) (s:Sm):(sgS n s).length≤s.length:=by
 have h:=acc_len (scl s (sgF7 n)) [];rw [scl_len] at h;unfold sgS
 simpa using h
end
theorem nodup_subP : ∀{A B:List Pw},A.Nodup→(∀x∈A,x∈B)→A.length≤B.length
 | [],_,_,_=>by simp
 | a::A,B,h,hs=>by
  have hn:=List.nodup_cons.1 h
  have h1:=nodup_subP (B:=B.erase a) hn.2 fun x hx=>(List.mem_erase_of_ne fun e=>hn.1 (by rw [← e];exact hx)).2 (hs x (by simp [hx]))
  have h2:=List.length_erase_of_mem (hs a (by simp))
  have h3:=List.length_pos_of_mem (hs a (by simp))
  simp only [List.length_cons]
  omega
theorem len_mon {ds:List Int} {n M:Int} {s:Sm} (hs:Sok M s) (hk : ∀x∈s,x.1∈monL ds n):s.length≤121:=by
 have h1:=nodup_subP (B:=monL ds n) hs.nodup fun p hp=>by
  obtain ⟨x,hx,rfl⟩:=List.mem_map.1 hp;exact hk x hx
 rw [List.length_map] at h1;exact Nat.le_trans h1 (monL_len ds n)
def xyS (ds:List Int) (p:Int) (s t:Sm):Sm:=timesS ds (sgS p s) t
theorem xy_e (ds:List Int) (p:Int) (s t:Sm):toS (ofS (timesS ds (toS (ofS (sgS p s))) t))=xyS ds p s t:=by
 rw [toS_ofS,toS_ofS]
 rfl
theorem pair_ok {ds:List Int} {fs:List (List Term)} {p q:Int} {s t:Sm} (hG:isAlg ds fs=true) (hs:Sok 20 s) (ht:Sok 20 t) (h1 : ∀x∈s,x.1∈monL ds p) (h2 : ∀x∈t,x.1∈monL ds q) (hf:fitB ds (p+q)=true) (h:p+q≤41):Sok 40 (xyS ds p s t)∧(∀x∈xyS ds p s t,x.1∈monL ds (p+q))∧KEx ds (sgS p s)∧KEx ds t∧(sgS p s).length * t.length≤14641∧(sgS p s).length≤121∧(xyS ds p s t).length≤14641:=by
 have hd:=alg_112 hG;have h8:=isDeg_len (isAlg_deg hG)
 have hk1 : ∀x∈sgS p s,x.1∈monL ds p:=fun x hx=>by
  obtain ⟨y,hy,e⟩:=sgS_mem hx;rw [e];exact h1 y hy
 have l1:=Nat.le_trans (sgS_len p s) (len_mon hs h1);have hm:(sgS p s).length * t.length≤121 * 121:=Nat.mul_le_mul l1 (len_mon ht h2);exact ⟨(sgS_sok hs p).times ht,times_mon h8 hd (sgS_sok hs p) ht hk1 h2 hf h,fun x hx=>monL_ex h8 hd _ (hk1 x hx),fun x hx=>monL_ex h8 hd _ (h2 x hx),hm,l1,Nat.le_trans (times_len ds (sgS p s) t) hm⟩
structure TriOk (ds:List Int) (x y z:Sm) (p q r:Int):Prop where
 p0:0≤p
 q0:0≤q
 r0:0≤r
 hi:p+q+r≤15
 sx:Sok 20 x
 sy:Sok 20 y
 sz:Sok 20 z
 kx : ∀u∈x,u.1∈monL ds p
 ky : ∀u∈y,u.1∈monL ds q
 kz : ∀u∈z,u.1∈monL ds r
 fit : ∀k:Int,0≤k→k≤p+q+r→fitB ds k=true
theorem tup_ab {a a':Value} {b b':Bool} (h1:a=a') (h2:b=b'):Ending.returned (.tuple #[a,.bool b]) = .returned (.tuple #[a',.bool b']):=by rw [h1,h2]
theorem l07Signed_c {B:World} {H0 H:HP} {L:List SA} {w:World} {qts:Option Addr} {cts:Nat} {ts:List Term} {n:Int} {M:Int} (hts:Terms H qts ts) (hfs:Sok M (toS ts)) (hM:M≤255) (hl:ts.length≤1000000) (hH:Hp B H0 H L w):Calls Tryz.prog 95 [.agg [.slice qts ts.length cts].toArray,.int .i64 n].toArray w fun e w'=>∃H' q c,Le H H' ∧Terms H' q (ofS (sgS n (toS ts)))∧e = .returned (.agg [.slice q (ofS (sgS n (toS ts))).length c].toArray)∧Hp B H0 H' L w':=by
 refine Jx Tryz.func95 rfl 12 rfl rfl [(0,.agg [.slice qts ts.length cts].toArray),(1,.int .i64 n)] rfl hH ?_;clear hH;refine Je fun _ hK1 _=>(Jb (JW rfl rfl rfl fun g2=>(JP ze40 rfl fun g4=>(Jf (Ja (hK1 (Je fun _ hK2 _=>(Je fun _ hK3 _=>(Jb (Jg (Jc rfl) rfl (Jg (EF rfl rfl (by decide) rfl) rfl (Jg (Eo rfl rfl) rfl (Jf (Ja (hK3 (Jq rfl (fun h7=>?_) (fun h7=>?_)))))))))))))))))
 ·
  refine Je fun _ hK4 _=>(Jb (Jg (EB bz40) rfl (Jg (Jm rfl (.s .z) (by simpa [*] using ag40)) rfl (Ju fn100 rfl rfl fun w hH=>(l01Add_c (f:=[]) (M:=M) Terms.nil hts Sok.nil hfs.g (by omega) (by omega) (by show 0+ts.length≤1000000000000;omega) hH).mono ?_))));rintro _ w ⟨qo10,co10,rfl,hH⟩;refine ⟨_,rfl,fun a hF=>JH hF hH ?_⟩;refine Ev .z fun Ho10 hleo10 hAo10=>?_;replace hts:=hts.le hleo10;have hxo10:=own_terms ((Sok.nil.acc (scl_pok hfs _)).wf hM) hAo10;have hco10:=own_le hAo10;refine JB rfl rfl (by first | exact bytesC_one _ | exact intsC_one _ | exact Term.c_one _ | simp [Value.oneCell']) (by simpa [*] using sz40) (by simp [*]) At.z (Jf (Ja (hK4 (Jt (Jk (Jr rfl (Res.agg rfl At.z (by simpa [*] using ag40)) fun w hH=>?_))))));replace hH:=hH.tail;replace hH:=hH.tail;rw [sgS_odd h7];exact ⟨_,_,_,hleo10,hxo10,rfl,hH⟩
 ·
  refine Jn (Ja (hK2 (Je fun _ hK5 _=>(Jb (Jg (Jm rfl (.s .z) (by simpa [*] using ag40)) rfl (JB rfl rfl (by first | exact bytesC_one _ | exact intsC_one _ | exact Term.c_one _ | simp [Value.oneCell']) (by simpa [*] using sz40) (by simp [*]) At.z (Jf (Ja (hK5 (Jt (Jr rfl (Res.agg rfl At.z (by simpa [*] using ag40)) fun w hH=>?_)))))))))));replace hH:=hH.tail;replace hH:=hH.tail;rw [sgS_even (Decidable.not_not.1 h7) hfs,ofS_toS];exact ⟨_,_,_,(Le.refl _),hts,rfl,hH⟩
theorem l07Signed_m {B:World} {H0 H:HP} {L:List SA} {w:World} {qts:Option Addr} {cts:Nat} {ts:List Term} {n M:Int} (hts:Terms H qts ts) (hfs:Sok M (toS ts)) (hM:M≤255) (hl:ts.length≤1000000) (hH:Hp B H0 H L w) :
 Calls Tryz.prog 95 [.agg [.slice qts ts.length cts].toArray,.int .i64 n].toArray w fun e w'=>∃q c vs,e = .returned (.agg [.slice q (ofS (sgS n (toS ts))).length c].toArray)∧Hp B H0 H (mlt (TmK q (ofS (sgS n (toS ts)))) H vs::L) w':=(l07Signed_c hts hfs hM hl hH).mono fun e w' h=>by
 obtain ⟨H',q,c,hle,hI,he,hH'⟩:=h
 obtain ⟨vs,h2⟩:=hH.melt (K:=TmK q (ofS (sgS n (toS ts)))) hH' hle hI
 exact ⟨q,c,vs,he,h2⟩
theorem l07Part_c {B:World} {H0 H:HP} {L:List SA} {w:World} {qad qaf:Option Addr} {cad caf:Nat} {ad:List Int} {af:List (List Term)} {n:Int} {qts:Option Addr} {cts:Nat} {ts:List Term} {M:Int} (had:Ints H qad ad) (haf:Forms H qaf af) (hts:Terms H qts ts) (hG:isAlg ad af=true) (hn:0≤n∧n≤40) (hf0:0<n→fitB ad (n - 1)=true) (hf1:fitB ad n=true) (hfl:ts.length≤1000000) (hfs:Sok M (toS ts)) (hfi : ∀x∈toS ts,x.1∈monL ad n) (hH:Hp B H0 H L w):Calls Tryz.prog 94 [.agg [.slice qad ad.length cad,.slice qaf af.length caf].toArray,.int .i64 n,.agg [.slice qts ts.length cts].toArray].toArray w fun e w'=>∃q m c,e = .returned (.tuple #[.agg [.slice q m c].toArray,.bool (prB ad af n (toS ts))])∧Hp B H0 H L w':=by
 refine Jx Tryz.func94 rfl 27 rfl rfl [(0,.agg [.slice qad ad.length cad,.slice qaf af.length caf].toArray),(1,.int .i64 n),(2,.agg [.slice qts ts.length cts].toArray)] rfl hH ?_;clear hH;have hwf:=haf.wfss;have hA:=isAlg_ok hG hwf;have h8:=hA.hn;have hd:=alg_112 hG;refine Je fun _ hK1 _=>(Jb (JW rfl rfl rfl fun g3=>(JW rfl rfl rfl fun g5=>(JP ze40 rfl fun g6=>(Jg (Jd rfl) rfl (Jf (Ja (hK1 (Je fun _ hK2 _=>(Je fun _ hK3 _=>(Jb (Jg (Jl u40 rfl sz38 rfl) rfl (Jg (Js rfl (.s .z) rfl pl38) rfl (Jg (Jo u38 rfl rfl) rfl (Jg (EL rfl rfl) rfl ?_)))))))))))))));refine Jf (Ja (hK3 (Jq rfl (fun h13=>?_) (fun h13=>?_))))
 ·
  have he0:ts=[]:=List.length_eq_zero_iff.1 (by omega);refine Je fun _ hK4 _=>(Jb (Jg (EB bz40) rfl (JB rfl rfl (by first | exact bytesC_one _ | exact intsC_one _ | exact Term.c_one _ | simp [Value.oneCell']) (by simpa [*] using sz40) (by simp [*]) At.z (Jg (Jd rfl) rfl (Jf (Ja (hK4 (Jt (Jk (Eg rfl (Res.agg rfl At.z (by simpa [*] using ag40)) (Res.tmp rfl) fun w hH=>?_))))))))));replace hH:=hH.tail;replace hH:=hH.tail;replace hH:=hH.tail;exact ⟨_,_,_,tup_ab rfl (by rw [he0];exact (prB_nil hA h8 hd).symm),hH⟩
 ·
  have hne:ts≠ []:=fun e=>h13 (by rw [e];rfl);have hne2:toS ts≠ []:=fun e=>hne (List.map_eq_nil_iff.1 e);refine Jn (Ja (hK2 (Je fun _ hK5 _=>(Je fun _ hK6 _=>(Jb (Jg (Jc rfl) rfl (Jg (EL rfl rfl) rfl (Jf (Ja (hK6 (Jq rfl (fun h16=>?_) (fun h16=>?_))))))))))))
  ·
   refine Je fun _ hK7 _=>(Jb (Jg (EB bz40) rfl (JB rfl rfl (by first | exact bytesC_one _ | exact intsC_one _ | exact Term.c_one _ | simp [Value.oneCell']) (by simpa [*] using sz40) (by simp [*]) At.z (Jg (Jd rfl) rfl (Jf (Ja (hK7 (Jt (Jk (Eg rfl (Res.agg rfl At.z (by simpa [*] using ag40)) (Res.tmp rfl) fun w hH=>?_))))))))));replace hH:=hH.tail;replace hH:=hH.tail;replace hH:=hH.tail;exact ⟨_,_,_,tup_ab rfl (prB_zero hfs hfi (by omega) hne2).symm,hH⟩
  ·
   refine Jn (Ja (hK5 (Je fun _ hK8 _=>(Jb (Jg (Jm rfl (.s (.s .z)) (by simpa [*] using ag36)) rfl (Jg (Jc rfl) rfl (Jg (Jm rfl (.s .z) (by simpa [*] using ag40)) rfl (Ju fn131 rfl rfl fun w hH=>(l03Primitive_c had haf hts hG (by omega) (hf0 (by omega)) hf1 hne hfl hfs hfi hH).mono ?_))))))));rintro _ w ⟨qo22,co22,qq22,rfl,hH⟩;refine ⟨_,rfl,fun a hF=>JH hF hH ?_⟩;refine Jg (Jc rfl) rfl (Jg (JI rfl rfl) rfl (Jg (JI rfl rfl) rfl (JP ze40 rfl fun g8=>(JB rfl rfl (by first | exact bytesC_one _ | exact intsC_one _ | exact Term.c_one _ | simp [Value.oneCell']) (by simpa [*] using sz40) (by simp [*]) At.z (Jg (Jd rfl) rfl (Jf (Ja (hK8 (Je fun _ hK9 _=>(Jb (Jg (Jm rfl At.z (by simpa [*] using ag40)) rfl (Jg (Jc rfl) rfl (JB rfl rfl (by first | exact bytesC_one _ | exact intsC_one _ | exact Term.c_one _ | simp [Value.oneCell']) (by simpa [*] using sz40) (by simp [*]) (.s .z) (Jg (Jd rfl) rfl (Jf ?_)))))))))))))));refine Ja (hK9 (Jt (Eg rfl (Res.agg rfl (.s .z) (by simpa [*] using ag40)) (Res.tmp rfl) fun w hH=>?_)));replace hH:=hH.tail;replace hH:=hH.tail;replace hH:=hH.tail;replace hH:=hH.tail;exact ⟨_,_,_,rfl,hH⟩
theorem l07Parts_c {B:World} {H0 H:HP} {L:List SA} {w:World} {qad qaf:Option Addr} {cad caf:Nat} {ad:List Int} {af:List (List Term)} {qtx qty qtz qtu qtv:Option Addr} {ctx cty ctz mtu ctu mtv ctv:Nat} {tx ty tz:List Term} {tp tq tr:Int} (had:Ints H qad ad) (haf:Forms H qaf af) (htx:Terms H qtx tx) (hty:Terms H qty ty) (htz:Terms H qtz tz) (hG:isAlg ad af=true) (hT:TriOk ad (toS tx) (toS ty) (toS tz) tp tq tr) (hH:Hp B H0 H L w):Calls Tryz.prog 48 [.agg [.slice qad ad.length cad,.slice qaf af.length caf].toArray,.agg [.slice qtx tx.length ctx,.slice qty ty.length cty,.slice qtz tz.length ctz,.int .i64 tp,.int .i64 tq,.int .i64 tr,.slice qtu mtu ctu,.slice qtv mtv ctv].toArray].toArray w fun e w'=>∃q1 m1 c1 q2 m2 c2,e = .returned (.tuple #[.agg [.slice qtx tx.length ctx,.slice qty ty.length cty,.slice qtz tz.length ctz,.int .i64 tp,.int .i64 tq,.int .i64 tr,.slice q1 m1 c1,.slice q2 m2 c2].toArray,.bool (prB ad af (tp+tq) (xyS ad tp (toS tx) (toS ty)) && prB ad af (tq+tr) (xyS ad tq (toS ty) (toS tz)))])∧Hp B H0 H L w':=by
 refine Jx Tryz.func48 rfl 59 rfl rfl [(0,.agg [.slice qad ad.length cad,.slice qaf af.length caf].toArray),(1,.agg [.slice qtx tx.length ctx,.slice qty ty.length cty,.slice qtz tz.length ctz,.int .i64 tp,.int .i64 tq,.int .i64 tr,.slice qtu mtu ctu,.slice qtv mtv ctv].toArray)] rfl hH ?_;clear hH;have hwf:=haf.wfss;have hA:=isAlg_ok hG hwf;obtain ⟨hp0,hq0,hr0,hi15,hsx,hsy,hsz,hkx,hky,hkz,hfit⟩:=hT;have hxy:=pair_ok hG hsx hsy hkx hky (hfit _ (by omega) (by omega)) (by omega);have hyz:=pair_ok hG hsy hsz hky hkz (hfit _ (by omega) (by omega)) (by omega);have hlx:=len_mon hsx hkx;have hly:=len_mon hsy hky;have hlz:=len_mon hsz hkz;rw [toS_len] at hlx hly hlz;refine Je fun _ hK1 _=>(Jb (JW rfl rfl rfl fun g2=>(JW rfl rfl rfl fun g3=>(JP ze56 rfl fun g4=>(Jg (Jd rfl) rfl (Jf (Ja (hK1 (Je fun _ hK2 _=>(Ea (Rs:=[_,_,_]) 23 [[], [], [1], [], [3], [1,2,3,4], [], [6], [], [8], [], [10], [8,9,10,11], [], [13], [6,7,8,9,10,11,12,13,14], [0,1,2,3,4,5,6,7,8,9,10,11,12,13,14,15], [0,1,2,3,4,5,6,7,8,9,10,11,12,13,14,15,16], [0,1,2,3,4,5,6,7,8,9,10,11,12,13,14,15,16,17], [0,1,2,3,4,5,6,7,8,9,10,11,12,13,14,15,16,17], [], [0,1,2,3,4,5,6,7,8,9,10,11,12,13,14,15,16,17,18,20], [0,1,2,3,4,5,6,7,8,9,10,11,12,13,14,15,16,17,18,19,20,21]] [[25], [], [24], [], [24], [], [], [25], [], [24], [], [24], [], [], [24], [12], [15], [], [], [], [], [], []] [[], [], [], [], [], [], [], [], [], [], [], [], [], [], [], [], [], [], [], [], [], [20], []] rfl rfl (by kernel_rfl) ?_))))))))));apply Ji 1 rfl rfl rfl
 ·intros;conv=>lhs;simp only [Jh,reduceEqDiff,reduceAdd]
 ·exact Jm rfl At.z (by simpa [*] using ag36)
 apply Ji 2 rfl rfl rfl
 ·intros;conv=>lhs;simp only [Jh,reduceEqDiff,reduceAdd]
 ·exact Jl u56 rfl sz2 rfl
 apply Ji 3 rfl rfl rfl
 ·intros;conv=>lhs;simp only [Jh,reduceEqDiff,reduceAdd]
 ·exact Js rfl At.z rfl pl2
 apply Ji 4 rfl rfl rfl
 ·intros;conv=>lhs;simp only [Jh,reduceEqDiff,reduceAdd]
 ·exact Jl u56 rfl sz2 rfl
 apply Ji 5 rfl rfl rfl
 ·intros;conv=>lhs;simp only [Jh,reduceEqDiff,reduceAdd]
 ·exact Js rfl At.z rfl pl2
 apply Ji 6 rfl rfl rfl
 ·intros;conv=>lhs;simp only [Jh,reduceEqDiff,reduceAdd]
 ·exact Jz rfl rfl (by first | exact nw _ (by omega) | rfl)
 apply Ji 7 rfl rfl rfl
 ·intros;conv=>lhs;simp only [Jh,reduceEqDiff,reduceAdd]
 ·exact Jl u36 rfl sz22 rfl
 apply Ji 8 rfl rfl rfl
 ·intros;conv=>lhs;simp only [Jh,reduceEqDiff,reduceAdd]
 ·exact Js rfl At.z rfl pl22
 apply Ji 9 rfl rfl rfl
 ·intros;conv=>lhs;simp only [Jh,reduceEqDiff,reduceAdd]
 ·exact Jl u56 rfl sz40 rfl
 apply Ji 10 rfl rfl rfl
 ·intros;conv=>lhs;simp only [Jh,reduceEqDiff,reduceAdd]
 ·exact EX [_] rfl At.z (ag_one rfl) ag40
 apply Ji 11 rfl rfl rfl
 ·intros;conv=>lhs;simp only [Jh,reduceEqDiff,reduceAdd]
 ·exact Jl u56 rfl sz2 rfl
 apply Ji 12 rfl rfl rfl
 ·intros;conv=>lhs;simp only [Jh,reduceEqDiff,reduceAdd]
 ·exact Js rfl At.z rfl pl2
 apply JR 13 rfl
 ·intros;conv=>lhs;simp only [Jh,reduceEqDiff,reduceAdd]
 ·
  intro gh X K zq zc zq2 zc2 zb zv hK;refine Ju fn95 rfl rfl fun w hH=>(l07Signed_m htx hsx (by omega) (by omega) hH).mono ?_;rintro _ w ⟨qo23,co23,vso23,rfl,hH⟩;refine ⟨_,rfl,fun a hF=>JH hF hH ?_⟩;refine Jy ?_;exact hK qo23 co23 zq2 zc2 zb vso23
 ·intro gh gh' h;refine ⟨?_,?_⟩ <;> rfl
 apply Ji 14 rfl rfl rfl
 ·intros;conv=>lhs;simp only [Jh,reduceEqDiff,reduceAdd]
 ·exact Jl u56 rfl sz40 rfl
 apply Ji 15 rfl rfl rfl
 ·intros;conv=>lhs;simp only [Jh,reduceEqDiff,reduceAdd]
 ·exact EX [_] rfl At.z (ag_one rfl) ag40
 apply JR 16 rfl
 ·intros;conv=>lhs;simp only [Jh,reduceEqDiff,reduceAdd]
 ·
  intro gh X K zq zc zq2 zc2 zb zv hK;refine Ju fn51 rfl rfl fun w hH=>hH.lend .z fun Hl1 hle1 hA1 hB1 hH=>(l01Times_c (M:=20) (N:=20) (had.le hle1) (mlt_terms hle1 hA1) (hty.le hle1) hA.hn hA.hd (by rw [toS_ofS];exact hxy.2.2.1) hxy.2.2.2.1 (by rw [toS_ofS];exact (sgS_sok hsx _).g) hsy.g (by omega) (by rw [ofS_len,← toS_len ty];have:=hxy.2.2.2.2.1;omega) (by rw [ofS_len];have:=hxy.2.2.2.2.2.1;omega) hH).mono ?_;rintro _ w ⟨qo26,co26,rfl,hH⟩;replace hH:=hB1 _ _ hH;refine ⟨_,rfl,fun a hF=>JH hF hH ?_⟩;refine Jw .z (Jw (.s .z) (Jy ?_));exact hK qo26 co26 zq2 zc2 zb zv
 ·intro gh gh' h;refine ⟨?_,?_⟩ <;> (first | simp only [h 12 rfl] | rfl)
 apply Ez 17 rfl
 ·intros;conv=>lhs;simp only [Jh,reduceEqDiff,reduceAdd]
 ·
  intro gh X K zq zc zq2 zc2 zb zv hK;refine Ju fn94 rfl rfl fun w hH=>hH.lend .z fun Hl1 hle1 hA1 hB1 hH=>(l07Part_c (M:=40) (had.le hle1) (haf.le hle1) (own_terms (by rw [toS_ofS];exact hxy.1.wf (by omega)) hA1) hG (by omega) (fun h=>hfit _ (by omega) (by omega)) (hfit _ (by omega) (by omega)) (by rw [ofS_len,toS_ofS];have:=hxy.2.2.2.2.2.2;unfold xyS at this;omega) (by rw [xy_e];exact hxy.1) (by rw [xy_e];exact hxy.2.1) hH).mono ?_;rintro _ w ⟨qo27,co27,qq27,rfl,hH⟩;replace hH:=hB1 _ _ hH;refine ⟨_,rfl,fun a hF=>JH hF hH ?_⟩;refine Jy ?_;exact hK qo27 co27 zq2 qq27 zb zv
 ·intro gh gh' h;first | simp only [h 12 rfl,h 15 rfl] | rfl
 apply Ef 18 rfl rfl rfl
 ·intros;conv=>lhs;simp only [Jh,reduceEqDiff,reduceAdd]
 ·exact Jc rfl
 ·intro gh gh' h;first | simp only [h 12 rfl,h 15 rfl,h 16 rfl] | rfl
 apply Ef 19 rfl rfl rfl
 ·intros;conv=>lhs;simp only [Jh,reduceEqDiff,reduceAdd]
 ·exact JI rfl rfl
 ·intro gh gh' h;first | simp only [h 12 rfl,h 15 rfl,h 16 rfl] | rfl
 apply Ef 20 rfl rfl rfl
 ·intros;conv=>lhs;simp only [Jh,reduceEqDiff,reduceAdd]
 ·exact JI rfl rfl
 ·intro gh gh' h;first | simp only [h 12 rfl,h 15 rfl,h 16 rfl] | rfl
 apply JR 21 rfl
 ·intros;conv=>lhs;simp only [Jh,reduceEqDiff,reduceAdd]
 ·
  intro gh X K zq zc zq2 zc2 zb zv hK;refine JP ze40 rfl fun g6=>(Jy ?_);exact hK zq zc zq2 zc2 g6 zv
 ·intro gh gh' h;refine ⟨?_,?_⟩ <;> rfl
 apply EZ 22 rfl
 ·intros;conv=>lhs;simp only [Jh,reduceEqDiff,reduceAdd]
 ·
  intro gh X K hK;refine JB rfl rfl (by first | exact bytesC_one _ | exact intsC_one _ | exact Term.c_one _ | simp [Value.oneCell']) (by simpa [*] using sz40) (by simp [*]) At.z (Jy ?_);exact hK
 ·intro gh gh' h;first | simp only [h 12 rfl,h 15 rfl,h 16 rfl,h 20 rfl] | rfl
 apply Ef 23 rfl rfl rfl
 ·intros;conv=>lhs;simp only [Jh,reduceEqDiff,reduceAdd]
 ·exact Jd rfl
 ·intro gh gh' h;first | simp only [h 12 rfl,h 15 rfl,h 16 rfl,h 20 rfl] | rfl
 apply JZ [0,1,2,3,4,5,6,7,8,9,10,11,12,13,14,15,16,17,18,19,20,21,22] [0,1,2,3,4,5,6,7,8,9,10,11,12,13,14,15,16,17,18,19,21,22,23,24,25] foll0 rfl rfl rfl (by rfl)
 iterate 2 focus (intros;(conv=>lhs;simp only [JU,Ej,Ka,El,Es,eq_self,reduceEqDiff,reduceIte,reduceSub,reduceAdd,JxA,JxB]);all_goals rfl)
 intro gh;generalize (gh 12).c=co23;generalize (gh 12).q=qo23;generalize (gh 12).vs=vso23;generalize (gh 15).c=co26;generalize (gh 15).q=qo26;generalize (gh 16).c=co27;generalize (gh 16).c2=qq27;generalize (gh 16).q=qo27;generalize (gh 20).b=g6;clear gh;refine Ja (hK2 (Je fun _ hK3 _=>(Ea (Rs:=[_,_,_,_,_,_]) 23 [[], [], [1], [], [3], [1,2,3,4], [], [6], [], [8], [], [10], [8,9,10,11], [], [13], [6,7,8,9,10,11,12,13,14], [0,1,2,3,4,5,6,7,8,9,10,11,12,13,14,15], [0,1,2,3,4,5,6,7,8,9,10,11,12,13,14,15,16], [0,1,2,3,4,5,6,7,8,9,10,11,12,13,14,15,16,17], [0,1,2,3,4,5,6,7,8,9,10,11,12,13,14,15,16,17], [], [0,1,2,3,4,5,6,7,8,9,10,11,12,13,14,15,16,17,18,20], [0,1,2,3,4,5,6,7,8,9,10,11,12,13,14,15,16,17,18,19,20,21]] [[28], [], [27], [], [27], [], [], [28], [], [27], [], [27], [], [], [27], [12], [15], [], [], [], [], [], []] [[], [], [], [], [], [], [], [], [], [], [], [], [], [], [], [], [], [], [], [], [], [20], []] rfl rfl (by kernel_rfl) ?_)));apply Ji 1 rfl rfl rfl
 ·intros;conv=>lhs;simp only [Jh,reduceEqDiff,reduceAdd]
 ·exact Jm rfl At.z (by simpa [*] using ag36)
 apply Ji 2 rfl rfl rfl
 ·intros;conv=>lhs;simp only [Jh,reduceEqDiff,reduceAdd]
 ·exact Jl u56 rfl sz2 rfl
 apply Ji 3 rfl rfl rfl
 ·intros;conv=>lhs;simp only [Jh,reduceEqDiff,reduceAdd]
 ·exact Js rfl At.z rfl pl2
 apply Ji 4 rfl rfl rfl
 ·intros;conv=>lhs;simp only [Jh,reduceEqDiff,reduceAdd]
 ·exact Jl u56 rfl sz2 rfl
 apply Ji 5 rfl rfl rfl
 ·intros;conv=>lhs;simp only [Jh,reduceEqDiff,reduceAdd]
 ·exact Js rfl At.z rfl pl2
 apply Ji 6 rfl rfl rfl
 ·intros;conv=>lhs;simp only [Jh,reduceEqDiff,reduceAdd]
 ·exact Jz rfl rfl (by first | exact nw _ (by omega) | rfl)
 apply Ji 7 rfl rfl rfl
 ·intros;conv=>lhs;simp only [Jh,reduceEqDiff,reduceAdd]
 ·exact Jl u36 rfl sz22 rfl
 apply Ji 8 rfl rfl rfl
 ·intros;conv=>lhs;simp only [Jh,reduceEqDiff,reduceAdd]
 ·exact Js rfl At.z rfl pl22
 apply Ji 9 rfl rfl rfl
 ·intros;conv=>lhs;simp only [Jh,reduceEqDiff,reduceAdd]
 ·exact Jl u56 rfl sz40 rfl
 apply Ji 10 rfl rfl rfl
 ·intros;conv=>lhs;simp only [Jh,reduceEqDiff,reduceAdd]
 ·exact EX [_] rfl At.z (ag_one rfl) ag40
 apply Ji 11 rfl rfl rfl
 ·intros;conv=>lhs;simp only [Jh,reduceEqDiff,reduceAdd]
 ·exact Jl u56 rfl sz2 rfl
 apply Ji 12 rfl rfl rfl
 ·intros;conv=>lhs;simp only [Jh,reduceEqDiff,reduceAdd]
 ·exact Js rfl At.z rfl pl2
 apply JR 13 rfl
 ·intros;conv=>lhs;simp only [Jh,reduceEqDiff,reduceAdd]
 ·
  intro gh X K zq zc zq2 zc2 zb zv hK;refine Ju fn95 rfl rfl fun w hH=>(l07Signed_m hty hsy (by omega) (by omega) hH).mono ?_;rintro _ w ⟨qo43,co43,vso43,rfl,hH⟩;refine ⟨_,rfl,fun a hF=>JH hF hH ?_⟩;refine Jy ?_;exact hK qo43 co43 zq2 zc2 zb vso43
 ·intro gh gh' h;refine ⟨?_,?_⟩ <;> rfl
 apply Ji 14 rfl rfl rfl
 ·intros;conv=>lhs;simp only [Jh,reduceEqDiff,reduceAdd]
 ·exact Jl u56 rfl sz40 rfl
 apply Ji 15 rfl rfl rfl
 ·intros;conv=>lhs;simp only [Jh,reduceEqDiff,reduceAdd]
 ·exact EX [_] rfl At.z (ag_one rfl) ag40
 apply JR 16 rfl
 ·intros;conv=>lhs;simp only [Jh,reduceEqDiff,reduceAdd]
 ·
  intro gh X K zq zc zq2 zc2 zb zv hK;refine Ju fn51 rfl rfl fun w hH=>hH.lend .z fun Hl1 hle1 hA1 hB1 hH=>(l01Times_c (M:=20) (N:=20) (had.le hle1) (mlt_terms hle1 hA1) (htz.le hle1) hA.hn hA.hd (by rw [toS_ofS];exact hyz.2.2.1) hyz.2.2.2.1 (by rw [toS_ofS];exact (sgS_sok hsy _).g) hsz.g (by omega) (by rw [ofS_len,← toS_len tz];have:=hyz.2.2.2.2.1;omega) (by rw [ofS_len];have:=hyz.2.2.2.2.2.1;omega) hH).mono ?_;rintro _ w ⟨qo46,co46,rfl,hH⟩;replace hH:=hB1 _ _ hH;refine ⟨_,rfl,fun a hF=>JH hF hH ?_⟩;refine Jw .z (Jw (.s .z) (Jy ?_));exact hK qo46 co46 zq2 zc2 zb zv
 ·intro gh gh' h;refine ⟨?_,?_⟩ <;> (first | simp only [h 12 rfl] | rfl)
 apply Ez 17 rfl
 ·intros;conv=>lhs;simp only [Jh,reduceEqDiff,reduceAdd]
 ·
  intro gh X K zq zc zq2 zc2 zb zv hK;refine Ju fn94 rfl rfl fun w hH=>hH.lend .z fun Hl1 hle1 hA1 hB1 hH=>(l07Part_c (M:=40) (had.le hle1) (haf.le hle1) (own_terms (by rw [toS_ofS];exact hyz.1.wf (by omega)) hA1) hG (by omega) (fun h=>hfit _ (by omega) (by omega)) (hfit _ (by omega) (by omega)) (by rw [ofS_len,toS_ofS];have:=hyz.2.2.2.2.2.2;unfold xyS at this;omega) (by rw [xy_e];exact hyz.1) (by rw [xy_e];exact hyz.2.1) hH).mono ?_;rintro _ w ⟨qo47,co47,qq47,rfl,hH⟩;replace hH:=hB1 _ _ hH;refine ⟨_,rfl,fun a hF=>JH hF hH ?_⟩;refine Jy ?_;exact hK qo47 co47 zq2 qq47 zb zv
 ·intro gh gh' h;first | simp only [h 12 rfl,h 15 rfl] | rfl
 apply Ef 18 rfl rfl rfl
 ·intros;conv=>lhs;simp only [Jh,reduceEqDiff,reduceAdd]
 ·exact Jc rfl
 ·intro gh gh' h;first | simp only [h 12 rfl,h 15 rfl,h 16 rfl] | rfl
 apply Ef 19 rfl rfl rfl
 ·intros;conv=>lhs;simp only [Jh,reduceEqDiff,reduceAdd]
 ·exact JI rfl rfl
 ·intro gh gh' h;first | simp only [h 12 rfl,h 15 rfl,h 16 rfl] | rfl
 apply Ef 20 rfl rfl rfl
 ·intros;conv=>lhs;simp only [Jh,reduceEqDiff,reduceAdd]
 ·exact JI rfl rfl
 ·intro gh gh' h;first | simp only [h 12 rfl,h 15 rfl,h 16 rfl] | rfl
 apply JR 21 rfl
 ·intros;conv=>lhs;simp only [Jh,reduceEqDiff,reduceAdd]
 ·
  intro gh X K zq zc zq2 zc2 zb zv hK;refine JP ze40 rfl fun g8=>(Jy ?_);exact hK zq zc zq2 zc2 g8 zv
 ·intro gh gh' h;refine ⟨?_,?_⟩ <;> rfl
 apply EZ 22 rfl
 ·intros;conv=>lhs;simp only [Jh,reduceEqDiff,reduceAdd]
 ·
  intro gh X K hK;refine JB rfl rfl (by first | exact bytesC_one _ | exact intsC_one _ | exact Term.c_one _ | simp [Value.oneCell']) (by simpa [*] using sz40) (by simp [*]) At.z (Jy ?_);exact hK
 ·intro gh gh' h;first | simp only [h 12 rfl,h 15 rfl,h 16 rfl,h 20 rfl] | rfl
 apply Ef 23 rfl rfl rfl
 ·intros;conv=>lhs;simp only [Jh,reduceEqDiff,reduceAdd]
 ·exact Jd rfl
 ·intro gh gh' h;first | simp only [h 12 rfl,h 15 rfl,h 16 rfl,h 20 rfl] | rfl
 apply JZ [0,1,2,3,4,5,6,7,8,9,10,11,12,13,14,15,16,17,18,19,20,21,22] [0,1,2,3,4,5,6,7,8,9,10,11,12,13,14,15,16,17,18,19,21,22,23,24,25,26,27,28] foll0 rfl rfl rfl (by rfl)
 iterate 2 focus (intros;(conv=>lhs;simp only [JU,Ej,Ka,El,Es,eq_self,reduceEqDiff,reduceIte,reduceSub,reduceAdd,JxA,JxB]);all_goals rfl)
 intro gh;generalize (gh 12).c=co43;generalize (gh 12).q=qo43;generalize (gh 12).vs=vso43;generalize (gh 15).c=co46;generalize (gh 15).q=qo46;generalize (gh 16).c=co47;generalize (gh 16).c2=qq47;generalize (gh 16).q=qo47;generalize (gh 20).b=g8;clear gh;refine Ja (hK3 (Je fun _ hK4 _=>(Jb (Jg (Jm rfl (.s (.s (.s (.s (.s .z))))) (by simpa [*] using ag40)) rfl (Jg (Jl u56 rfl sz40 rfl) rfl (J.stores (vs:=[_]) rfl rfl rfl (by simp [Value.oneCell']) sz40 (by simp) (.s (.s (.s (.s (.s (.s (.s .z))))))) (Jf (Ja (hK4 (Je fun _ hK5 _=>(Jb (Jg (Jm rfl (.s (.s .z)) (by simpa [*] using ag40)) rfl (Jg (Jl u56 rfl sz40 rfl) rfl (J.stores (vs:=[_]) rfl rfl rfl (by simp [Value.oneCell']) sz40 (by simp) (.s (.s (.s (.s (.s (.s (.s .z))))))) (Jf (Ja (hK5 ?_)))))))))))))))));refine Je fun _ hK6 _=>(Jb (Jg (Jm rfl (.s (.s (.s (.s (.s (.s (.s .z))))))) (by simpa [*] using ag56)) rfl (Jg (Jc rfl) rfl (Jg (Jc rfl) rfl (Ek (jd:=56) rfl (fun h56=>?_) (fun h56=>?_))))))
 ·
  try have h56p:=of_decide_eq_true h56
  refine JV (Jc rfl) rfl rfl rfl h56 (Jg (JY rfl h56 rfl) rfl (JB rfl rfl (by first | exact bytesC_one _ | exact intsC_one _ | exact Term.c_one _ | simp [Value.oneCell']) (by simpa [*] using sz56) (by simp [*]) (.s (.s (.s (.s (.s (.s .z)))))) (Jg (Jd rfl) rfl (Jf (Ja (hK6 (Jt (Eg rfl (Res.agg rfl (.s (.s (.s (.s (.s (.s .z)))))) (by simpa [*] using ag56)) (Res.tmp rfl) fun w hH=>?_))))))));replace hH:=hH.tail;replace hH:=hH.tail;replace hH:=hH.tail;replace hH:=hH.tail;replace hH:=hH.tail;replace hH:=hH.tail;replace hH:=hH.tail;replace hH:=hH.tail;replace hH:=hH.tail;rw [xy_e] at h56;exact ⟨_,_,_,_,_,_,tup_ab rfl (by rw [xy_e,h56,Bool.true_and]),hH⟩
 ·
  try have h56p:=of_decide_eq_false h56
  refine JQ rfl rfl rfl h56 (Jg (JX rfl h56 rfl) rfl (JB rfl rfl (by first | exact bytesC_one _ | exact intsC_one _ | exact Term.c_one _ | simp [Value.oneCell']) (by simpa [*] using sz56) (by simp [*]) (.s (.s (.s (.s (.s (.s .z)))))) (Jg (Jd rfl) rfl (Jf (Ja (hK6 (Jt (Eg rfl (Res.agg rfl (.s (.s (.s (.s (.s (.s .z)))))) (by simpa [*] using ag56)) (Res.tmp rfl) fun w hH=>?_))))))));replace hH:=hH.tail;replace hH:=hH.tail;replace hH:=hH.tail;replace hH:=hH.tail;replace hH:=hH.tail;replace hH:=hH.tail;replace hH:=hH.tail;replace hH:=hH.tail;replace hH:=hH.tail;rw [xy_e] at h56;exact ⟨_,_,_,_,_,_,tup_ab rfl (by rw [h56];rfl),hH⟩
end Go.Proofs.YtelcehjliighfaaGreat.G
