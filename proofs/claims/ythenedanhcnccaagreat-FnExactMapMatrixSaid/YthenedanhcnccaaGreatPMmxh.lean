/- A part of the walk of one law: what the functions compute. No condition. -/
import Derived.Test.YthenedanhcnccaaGreatRows
import Derived.Test.YthenedanhcnccaaGreatProg
import Derived.WalkKit
import Derived.KernelRfl
import Derived.JoinedOf
import Derived.Maps.AppendAt
import Derived.Still
import Derived.ProofKit
import Derived.OpenShut
import Derived.StillTail
import Derived.Deep.Upon
import Derived.WalkSpells
import Derived.Maps.Range
import Derived.DeepKeys4
import Derived.Maps.Keyed
import Derived.ChangeOld
import Derived.Below
import Derived.SizedLaws
import Derived.Test.YthenedanhcnccaaGreatPMmxg
set_option linter.unusedVariables false
set_option linter.unusedSimpArgs false
set_option maxRecDepth 10000
set_option maxHeartbeats 8000000
namespace Go.Proofs.YthenedanhcnccaaGreat.G
open Go Go.RowKit
theorem eg150:Tryz.prog.eqGuardType Tryz.prog.depth 150=false:=by kernel_rfl
def vec:List Term→List Pw→List Int
 | _, []=>[]
 | [],_::ps=>0::vec [] ps
 | t::ts,p::ps=>if t.mono=p then t.fac::vec ts ps else 0::vec (t::ts) ps
theorem vec_nil : ∀ps:List Pw,vec [] ps=List.replicate ps.length 0
 | []=>rfl
 | p::ps=>by rw [vec,vec_nil ps];rfl
theorem vec_end (f:List Term):vec f []=[]:=by cases f <;> rfl
theorem tm_drop {f:List Term} {j:Nat} (hj:j<f.length):f.drop j=tm f j::f.drop (j+1):=by
 rw [List.drop_eq_getElem_cons hj]
 simp [tm,List.getD_eq_getElem?_getD,List.getElem?_eq_getElem hj]
theorem rw_drop1 {ps:List Pw} {k:Nat} (hk:k<ps.length):ps.drop k=rw_ ps k::ps.drop (k+1):=by
 rw [List.drop_eq_getElem_cons hk]
 simp [rw_,List.getD_eq_getElem?_getD,List.getElem?_eq_getElem hk]
theorem vec_yes {f:List Term} {ps:List Pw} {j k:Nat} (hj:j<f.length) (hk:k<ps.length) (h:(tm f j).mono=rw_ ps k):vec (f.drop j) (ps.drop k)=(tm f j).fac::vec (f.drop (j+1)) (ps.drop (k+1)):=by
 rw [tm_drop hj,rw_drop1 hk,vec,if_pos h]
theorem vec_no {f:List Term} {ps:List Pw} {j k:Nat} (hj:j<f.length) (hk:k<ps.length) (h : ¬(tm f j).mono=rw_ ps k):vec (f.drop j) (ps.drop k)=0::vec (f.drop j) (ps.drop (k+1)):=by
 rw [tm_drop hj,rw_drop1 hk,vec,if_neg h]
theorem vec_out1 {f:List Term} {ps:List Pw} {A:List Int} {j k:Nat} (h:A++vec (f.drop j) (ps.drop k)=vec f ps) (hk : ¬k<ps.length):A++List.replicate (ps.length - k) 0=vec f ps:=by
 rw [← h,List.drop_of_length_le (show ps.length≤k by omega),vec_end,show ps.length - k=0 by omega]
 rfl
theorem vec_out2 {f:List Term} {ps:List Pw} {A:List Int} {j k:Nat} (h:A++vec (f.drop j) (ps.drop k)=vec f ps) (hj : ¬j<f.length):A++List.replicate (ps.length - k) 0=vec f ps:=by
 rw [← h,List.drop_of_length_le (show f.length≤j by omega),vec_nil,List.length_drop]
theorem rep_set {A:List Int} {n k:Nat} {v:Int} (hA:A.length=k) (hk:k<n):(A++List.replicate (n - k) 0).set k v=(A++[v])++List.replicate (n - (k+1)) 0:=by
 subst hA;rw [List.set_append,if_neg (by omega),Nat.sub_self,show n - A.length=(n - (A.length+1))+1 by omega,List.replicate_succ]
 simp
theorem rep_one {A:List Int} {n k:Nat} (hk:k<n):A++List.replicate (n - k) 0=(A++[0])++List.replicate (n - (k+1)) 0:=by
 rw [show n - k=(n - (k+1))+1 by omega,List.replicate_succ]
 simp
theorem vec_len : ∀(f:List Term) (ps:List Pw),(vec f ps).length=ps.length
 | f, []=>by rw [vec_end];rfl
 | [],p::ps=>by rw [vec_nil];simp
 | t::ts,p::ps=>by
  rw [vec]
  split
  ·simp [vec_len ts ps]
  ·simp [vec_len (t::ts) ps]
theorem vec_cf : ∀{ps:List Pw} {f:List Term},(toS f).Pairwise (fun x y=>before x.1 y.1=true)→ps.Pairwise (fun p q=>before p q=true)→(∀x∈toS f,x.1∈ps)→vec f ps=ps.map (cf (toS f))
 | [],f,_,_,_=>by rw [vec_end];rfl
 | p::ps, [],_,_,_=>by
  rw [vec_nil]
  simp only [toS,List.map_nil,List.map_cons,List.length_cons,List.replicate_succ,cf]
  congr 1
  exact map_zero ps
 | p::ps,t::ts,hf,hp,hm=>by
  have hf':=List.pairwise_cons.1 (show ((t.mono,t.fac)::toS ts).Pairwise _ from hf)
  have hp':=List.pairwise_cons.1 hp
  rw [vec]
  by_cases e:t.mono=p
  ·rw [if_pos e,List.map_cons]
   have hts : ∀x∈toS ts,x.1∈ps:=fun x hx=>by
    rcases List.mem_cons.1 (hm x (by show x∈(t.mono,t.fac)::toS ts;exact List.mem_cons_of_mem _ hx)) with h | h
    ·have:=before_ne (hf'.1 x hx)
     exact absurd (e.trans h.symm) this
    ·exact h
   rw [vec_cf hf'.2 hp'.2 hts]
   congr 1
   ·show t.fac=cf ((t.mono,t.fac)::toS ts) p
    simp only [cf]
    rw [if_pos e]
   ·refine List.map_congr_left fun q hq=>?_
    show cf (toS ts) q=cf ((t.mono,t.fac)::toS ts) q
    simp only [cf]
    rw [if_neg (fun h=>before_ne (hp'.1 q hq) (e.symm.trans h))]
  ·rw [if_neg e,List.map_cons]
   have ht:t.mono∈ps:=by
    rcases List.mem_cons.1 (hm (t.mono,t.fac) (by show _∈(t.mono,t.fac)::toS ts;simp)) with h | h
    ·exact absurd h e
    ·exact h
   have hne : ∀x∈toS (t::ts),x.1≠p:=fun x hx hh=>by
    rcases List.mem_cons.1 (show x∈(t.mono,t.fac)::toS ts from hx) with rfl | hx
    ·exact e hh
    ·have h1:=hf'.1 x hx
     rw [hh] at h1
     have h2:=before_as (hp'.1 _ ht)
     rw [h1] at h2
     cases h2
   rw [cf_none hne,vec_cf hf hp'.2 fun x hx=>(List.mem_cons.1 (hm x hx)).resolve_left (hne x hx)]
def fmK (ps:List Pw) (row:List Int) (k:Nat):List Term:=((List.range k).filter fun i=>decide (row.getD i 0≠0)).map fun i=>⟨rw_ ps i,row.getD i 0⟩
def fmS (ps:List Pw) (row:List Int):List Term:=fmK ps row ps.length
theorem fmK_yes {ps:List Pw} {row:List Int} {k:Nat} (h:row.getD k 0≠0):fmK ps row (k+1)=fmK ps row k++[⟨rw_ ps k,row.getD k 0⟩]:=by
 unfold fmK;rw [List.range_succ,List.filter_append,List.map_append];simp only [List.filter_cons,decide_eq_true h,if_true,List.filter_nil,List.map_cons,List.map_nil]
theorem fmK_no {ps:List Pw} {row:List Int} {k:Nat} (h : ¬row.getD k 0≠0):fmK ps row (k+1)=fmK ps row k:=by
 unfold fmK;rw [List.range_succ,List.filter_append,List.map_append];simp only [List.filter_cons,decide_eq_false h,Bool.false_eq_true,if_false,List.filter_nil,List.map_nil,List.append_nil]
theorem fmK_len (ps:List Pw) (row:List Int) (k:Nat):(fmK ps row k).length≤k:=by
 unfold fmK;rw [List.length_map];exact Nat.le_trans (List.length_filter_le _ _) (by simp)
theorem fmK_wf {ps:List Pw} {row:List Int} (hp : ∀p∈ps,Mono p) (hr : ∀j,0≤row.getD j 0∧row.getD j 0≤10006) {k:Nat} (hk:k≤ps.length):Wfs (fmK ps row k):=fun t ht=>by
 obtain ⟨i,hi,rfl⟩:=List.mem_map.1 ht
 have hi':=List.mem_range.1 (List.mem_filter.1 hi).1
 have:=hr i
 exact Term.wf.of (hp _ (rw_mem (by omega))) (show _≤row.getD i 0∧row.getD i 0≤_ by omega)
theorem tot_filter : ∀(l:Sm) (p:Pw),tot_ (l.filter fun x=>decide (x.2≠0)) p=tot_ l p
 | [],_=>rfl
 | x::l,p=>by
  have ih:=tot_filter l p
  by_cases h:x.2≠0
  ·rw [List.filter_cons_of_pos (by simpa using h)]
   simp only [tot_]
   rw [ih]
  ·rw [List.filter_cons_of_neg (by simpa using h)]
   simp only [tot_]
   rw [ih]
   have h0:x.2=0:=Decidable.not_not.1 h
   rw [h0]
   split <;> omega
theorem acc_ord {M:Int} {l:Sm} (hs:l.Pairwise fun x y=>before x.1 y.1=true) (hk : ∀x∈l,Pok M x.1) (hv : ∀x∈l,0≤x.2∧x.2≤10006):acc [] l=l.filter fun x=>decide (x.2≠0):=by
 have h2:Sok M (l.filter fun x=>decide (x.2≠0)):=⟨hs.filter _,fun x hx=>hk x (List.mem_filter.1 hx).1,fun x hx=>by
  have h1:=List.mem_filter.1 hx;have h3:=hv x h1.1
  have h4:x.2≠0:=by simpa using h1.2
  omega⟩
 refine Sok.ext (Sok.nil.acc hk) h2 fun p=>?_;rw [cf_acc p Sok.nil hk,← acc_self h2,cf_acc p Sok.nil h2.key,tot_filter]
theorem rowK_srt {ps:List Pw} {row:List Int} (hp:ps.Pairwise fun p q=>before p q=true) {k:Nat} (hk:k≤ps.length):(rowK ps row k).Pairwise fun x y=>before x.1 y.1=true:=by
 unfold rowK;rw [List.pairwise_map];refine List.pairwise_lt_range.imp_of_mem fun {a b} ha hb hab=>?_;have ha':=List.mem_range.1 ha;have hb':=List.mem_range.1 hb;have h:=List.pairwise_iff_getElem.1 hp a b (by omega) (by omega) hab
 simpa [rw_,List.getD_eq_getElem?_getD,List.getElem?_eq_getElem (show a<ps.length by omega),List.getElem?_eq_getElem (show b<ps.length by omega)] using h
theorem fmS_sum {M:Int} {ps:List Pw} {row:List Int} (hp:ps.Pairwise fun p q=>before p q=true) (hk : ∀p∈ps,Pok M p) (hr : ∀j,0≤row.getD j 0∧row.getD j 0≤10006) (hl:row.length=ps.length):fmS ps row=ofS (sumR ps row):=by
 unfold sumR
 rw [acc_ord (rowK_srt hp (by omega)) (fun x hx=>by
  obtain ⟨i,hi,rfl⟩:=List.mem_map.1 hx
  exact hk _ (rw_mem (by have:=List.mem_range.1 hi;omega))) (fun x hx=>by
  obtain ⟨i,hi,rfl⟩:=List.mem_map.1 hx
  exact hr i)]
 unfold rowK fmS fmK ofS;rw [List.filter_map,List.map_map,hl]
 rfl
theorem l03Vector_c {B:World} {H0 H:HP} {L:List SA} {w:World} {qf:Option Addr} {cf:Nat} {f:List Term} {qps:Option Addr} {cps:Nat} {ps:List (List Int)} (hf:Terms H qf f) (hps:Monos H qps ps) (hn:ps.length≤1000000) (hfl:f.length≤1000000) (hpm : ∀p∈ps,Mono p) (hH:Hp B H0 H L w):Calls Tryz.prog 110 [.agg [.slice qf f.length cf].toArray,.slice qps ps.length cps].toArray w fun e w'=>∃q c,e = .returned (.slice q (vec f ps).length c)∧Hp B H0 H (own 2 1 q (vec f ps).length c (intsC (vec f ps))::L) w':=by
 refine Jz Tryz.func110 rfl 47 rfl rfl [(0,.agg [.slice qf f.length cf].toArray),(1,.slice qps ps.length cps)] rfl hH ?_;clear hH;refine Je fun _ hK1 _=>(Jb (Ed rfl rfl rfl fun g2=>(Jg (Jd rfl) rfl (Jf (Ja (hK1 (Je fun _ hK2 _=>(Jb (Jg (Jc rfl) rfl (Jg (Jn u88 rfl rfl) rfl (EH (MK.makeI (m:=ps.length) u22 ze2 sz2 by2 rfl rfl rfl rfl (by omega)) rfl fun qo10 co10=>(Jg (EN (v':=.slice qo10 ps.length co10) (by rw [List.length_replicate]) (Jd rfl)) rfl (Jg (Jd rfl) rfl (Jf (Ja (hK2 ?_))))))))))))))));refine Je fun _ hK3 _=>(Je fun _ hK4 _=>(Jb (Jg (Jd rfl) rfl (Jf (Ja (hK4 (Jm (JD (σ:=List Int × Nat × Nat) (fun ⟨A,k,j⟩=>[(7,.int .i64 (k:Int)),(6,.int .i64 (j:Int))]) (fun ⟨A,k,j⟩=>H) (fun ⟨A,k,j⟩=>own 2 1 qo10 ps.length co10 (intsC (A++List.replicate (ps.length - k) 0))::obj g2 (.cells [.slice qf f.length cf].toArray 39 (0,0))::L) (fun ⟨A,k,j⟩=>A.length=k∧k≤ps.length∧j≤f.length∧A++vec (f.drop j) (ps.drop k)=vec f ps) (fun ⟨A,k,j⟩=>ps.length - k) ([],0,0) ⟨rfl,by omega,by omega,rfl⟩ ⟨rfl,⟨rfl,trivial⟩⟩ rfl (by rw [List.length_replicate];rfl) ?_))))))));rintro ⟨A,k,j⟩ ⟨hA,hk,hj,hV⟩ _ hAg0;refine Je fun _ hK5 _=>(Je fun _ hK6 _=>(Jb (Jg (Jc rfl) rfl (Jg (Jc rfl) rfl (Jg (Jn u88 rfl rfl) rfl (Jg (JM rfl rfl) rfl (Jg (Jc rfl) rfl (Ei (jd:=15) rfl (fun hg15=>?_) (fun hg15=>?_)))))))))
 ·
  try have hg15p:=of_decide_eq_true hg15
  refine JW (Jc rfl) rfl rfl rfl hg15 (JW (Jv u39 rfl sz37 rfl) rfl rfl rfl hg15 (JW (Jy rfl (.s .z) rfl pl37) rfl rfl rfl hg15 (JW (Jn u37 rfl rfl) rfl rfl rfl hg15 (JW (JM rfl rfl) rfl rfl rfl hg15 (Jg (JY rfl hg15 rfl) rfl (Jf (Ja (hK6 (Jp rfl (fun h21=>?_) (fun h21=>?_))))))))))
  ·
   have hk1:k<ps.length:=by omega
   have hj1:j<f.length:=by omega
   refine Jo (Ja (hK5 (Je fun _ hK7 _=>(Jm (Je fun _ hK8 _=>(Eu foll0 (by kernel_rfl) (JE (Jv u39 rfl sz37 rfl) rfl (JE (Jy rfl (.s .z) rfl pl37) rfl (JE (Jc rfl) rfl (JE (Ep u37 sz152 rfl rfl rfl hj1 hf.sm) rfl (JE (Ew u152 rfl sz150 rfl (hf.sm (i:=j) hj1)) rfl (JE (JR rfl (hf.mono hj1) (hf.sm (i:=j) hj1) (by rw [bytesC_length,(hf.wf _ hj1).mono.len];exact ag150)) rfl (JE (Jc rfl) rfl (JE (Jc rfl) rfl (JE (Ep u88 sz150 rfl rfl rfl hk1 hps.sm) rfl ?_)))))))))))))));refine JE (JR rfl (hps.cell _ hk1) (hps.sm (i:=k) hk1) (by rw [bytesC_length,hps.len _ hk1];exact ag150)) rfl (JE (PR.eqlM u150 u5 sz5 eg150 rfl rfl (hf.wf j hj1).mono.len (rw_all hpm hk1).len) rfl (Ee (Ja (hK8 (Jp rfl (fun h34=>?_) (fun h34=>?_))))))
   ·
    refine Je fun _ hK9 _=>(Jb (Jg (Jc rfl) rfl (Jg (Jc rfl) rfl (Jg (Jv u39 rfl sz37 rfl) rfl (Jg (Jy rfl (.s .z) rfl pl37) rfl (Jg (Jc rfl) rfl (Jg (Ep u37 sz152 rfl rfl rfl hj1 hf.sm) rfl (Jg (Ew u152 rfl sz2 rfl (hf.sm (i:=j) hj1)) rfl (Jg (JB rfl (hf.fac hj1) pl2) rfl (Jg (Ey u22 sz2 rfl rfl rfl hk1 At.z) rfl (J.storeWI rfl rfl sz2 hk1 At.z (Jf (Ja (hK9 (Jb ?_)))))))))))))));refine Jg (Jc rfl) rfl (Jg (JC rfl rfl (by first | exact nw _ (by omega) | rfl)) rfl (Jg (Jd rfl) rfl (Jf (JF (Ja (hK7 (Jb (Jg (Jc rfl) rfl (Jg (JC rfl rfl (by first | exact nw _ (by omega) | rfl)) rfl (Jg (Jd rfl) rfl (Jf (Ja ?_))))))))))));exact hAg0 (A++[(tm f j).fac],k+1,j+1) ⟨by simp [hA],by omega,by omega,by rw [← hV,vec_yes hj1 hk1 h34];simp⟩ (by show ps.length - (k+1)<ps.length - k;omega) 39 rfl rfl ⟨rfl,⟨rfl,trivial⟩⟩ rfl (by dsimp only;rw [rep_set hA hk1])
   ·
    refine Jo (JF (Ja (hK7 (Jb (Jg (Jc rfl) rfl (Jg (JC rfl rfl (by first | exact nw _ (by omega) | rfl)) rfl (Jg (Jd rfl) rfl (Jf (Ja ?_)))))))));exact hAg0 (A++[0],k+1,j) ⟨by simp [hA],by omega,by omega,by rw [← hV,vec_no hj1 hk1 h34];simp⟩ (by show ps.length - (k+1)<ps.length - k;omega) 27 rfl rfl ⟨rfl,⟨rfl,trivial⟩⟩ rfl (by dsimp only;rw [rep_one hk1])
  ·
   refine JG (Jj (Jj (JP (Ja (hK3 (Je fun _ hK10 _=>(Jb (Jg (Jc rfl) rfl (Jg (Jd rfl) rfl (Jf (Ja (hK10 (Js (Jq rfl (Res.tmp rfl) fun w hH=>?_))))))))))))));replace hH:=hH.sublist (.cons_cons _ (.cons _ (List.Sublist.refl _)));rw [vec_out2 hV (by omega)] at hH;exact ⟨_,_,by rw [vec_len],by rw [vec_len];exact hH⟩
 ·
  try have hg15p:=of_decide_eq_false hg15
  refine JU rfl rfl rfl hg15 (JU rfl rfl rfl hg15 (JU rfl rfl rfl hg15 (JU rfl rfl rfl hg15 (JU rfl rfl rfl hg15 (Jg (JX rfl hg15 rfl) rfl (Jf (Ja (hK6 (Et rfl (JG (Jj (Jj (JP (Ja (hK3 (Je fun _ hK11 _=>?_))))))))))))))));refine Jb (Jg (Jc rfl) rfl (Jg (Jd rfl) rfl (Jf (Ja (hK11 (Js (Jq rfl (Res.tmp rfl) fun w hH=>?_)))))));replace hH:=hH.sublist (.cons_cons _ (.cons _ (List.Sublist.refl _)));rw [vec_out1 hV (by omega)] at hH;exact ⟨_,_,by rw [vec_len],by rw [vec_len];exact hH⟩
theorem l03Form_c {B:World} {H0 H:HP} {L:List SA} {w:World} {qrow:Option Addr} {crow:Nat} {row:List Int} {qps:Option Addr} {cps:Nat} {ps:List (List Int)} (hrow:Ints H qrow row) (hps:Monos H qps ps) (hl:row.length=ps.length) (hn:ps.length≤1000000) (hpm : ∀p∈ps,Mono p) (hr : ∀j,0≤row.getD j 0∧row.getD j 0≤10006) (hH:Hp B H0 H L w):Calls Tryz.prog 172 [.slice qrow row.length crow,.slice qps ps.length cps].toArray w fun e w'=>∃q c,e = .returned (.agg [.slice q (fmS ps row).length c].toArray)∧Hp B H0 H (own 152 9 q (fmS ps row).length c (tsC (fmS ps row))::L) w':=by
 refine Jz Tryz.func172 rfl 34 rfl rfl [(0,.slice qrow row.length crow),(1,.slice qps ps.length cps)] rfl hH ?_;clear hH;have hw9 : ∀k,k≤ps.length→Wfs (fmK ps row k):=fun k hk=>fmK_wf hpm hr hk;refine Je fun _ hK1 _=>(Jb (JV ze39 rfl fun g4=>(Jf (Ja (hK1 (Je fun _ hK2 _=>(Jb (J.own0 152 9 (Jg (Ev bz39) rfl (JV ze39 rfl fun g5=>(JJ rfl rfl (by first | exact bytesC_one _ | exact intsC_one _ | exact Term.c_one _ | simp [Value.oneCell']) (by simpa [*] using sz39) (by simp [*]) At.z (Jf (Ja (hK2 (Je fun _ hK3 _=>(Je fun _ hK4 _=>?_))))))))))))))));refine Jb (Jg (Jd rfl) rfl (Jf (Ja (hK4 (Jm (JD (σ:=Option Addr × Nat × Nat) (fun ⟨q,c,k⟩=>[(6,.int .i64 (k:Int))]) (fun ⟨q,c,k⟩=>H) (fun ⟨q,c,k⟩=>obj g5 (.cells [.slice q (fmK ps row k).length c].toArray 39 (0,0))::own 152 9 q (fmK ps row k).length c (tsC (fmK ps row k))::obj g4 (.cells [.slice none 0 0].toArray 39 (0,0))::L) (fun ⟨q,c,k⟩=>k≤ps.length) (fun ⟨q,c,k⟩=>ps.length - k) (none,0,0) (by show 0≤ps.length;omega) ⟨rfl,trivial⟩ rfl rfl ?_))))));rintro ⟨q,c,k⟩ hk _ hAg0;have wfO:=hw9 k hk;have hfl:=fmK_len ps row k;refine Je fun _ hK5 _=>(Je fun _ hK6 _=>(Jb (Jg (Jc rfl) rfl (Jg (Jc rfl) rfl (Jg (Jn u88 rfl rfl) rfl (Jg (JM rfl rfl) rfl (Jf (Ja (hK6 (Jp rfl (fun h11=>?_) (fun h11=>?_)))))))))))
 ·
  have hk1:k<ps.length:=by omega
  have hrk:=hr k;refine Jo (Ja (hK5 (Je fun _ hK7 _=>(Jm (Je fun _ hK8 _=>(Jb (Jg (Jc rfl) rfl (Jg (Jc rfl) rfl (Jg (JO u22 sz2 rfl rfl rfl (by omega) hrow.sm) rfl (Jg (JB rfl (hrow _ (by omega)) pl2) rfl (Jg (Em rfl rfl) rfl (Jf (Ja (hK8 (Jp rfl (fun h18=>?_) (fun h18=>?_))))))))))))))))
  ·
   refine Eo [[], [0], [], [], [2,3], [4], [], [], [6,7], [8], [5,9], [10]] (by kernel_rfl) (JA (fun gh=>Jv u39 rfl sz37 rfl) (JA (fun gh=>Jy rfl At.z rfl pl37) (JA (fun gh=>Jc rfl) (JA (fun gh=>Jc rfl) (JA (fun gh=>Ep u88 sz150 rfl rfl rfl hk1 hps.sm) (JA (fun gh=>JR rfl (hps.cell _ hk1) (hps.sm (i:=k) hk1) (by rw [bytesC_length,hps.len _ hk1];exact ag150)) (JA (fun gh=>Jc rfl) (JA (fun gh=>Jc rfl) (JA (fun gh=>JO u22 sz2 rfl rfl rfl (by omega) hrow.sm) (JA (fun gh=>JB rfl (hrow _ (by omega)) pl2) (JA (fun gh=>EV rfl rfl (fun w=>bt152 _ _ (rw_all hpm hk1).len w)) (HJ.mk (fun gh=>MK.lit1T u37 ze152 sz152 (Term.wf.of (rw_all hpm hk1) (by omega)) rfl) (Eb 12 3 foll0 (by kernel_rfl) rfl rfl fun gh=>(En (us':=(19,_)::(20,_)::(21,_)::(22,_)::(23,_)::(24,_)::(25,_)::(26,_)::(27,_)::(28,_)::(29,_)::(30,_)::_) (L':=_::_) rfl rfl ?_))))))))))))));refine J.appendOT u37 ze152 sz152 by152 rfl rfl (by simp only [List.length_cons,List.length_nil];omega) .z (.s .z) (fun _ _=>(.s .z)) rfl fun qo31 co31=>(Jg (Jv u39 rfl sz37 rfl) rfl (Es rfl rfl rfl rfl sz37 (by simp [*]) (.s .z) (Jf (Ec (Ee (JF (Ja (hK7 (Jb (Jg (Jc rfl) rfl (Jg (JC rfl rfl (by first | exact nw _ (by omega) | rfl)) rfl (Jg (Jd rfl) rfl (Jf (Ja (JL .z ?_)))))))))))))));exact hAg0 (qo31,co31,k+1) (by show k+1≤ps.length;omega) (by show ps.length - (k+1)<ps.length - k;omega) 27 rfl rfl ⟨rfl,trivial⟩ rfl (by dsimp only;rw [fmK_yes h18];rfl)
  ·
   refine Jo (JF (Ja (hK7 (Jb (Jg (Jc rfl) rfl (Jg (JC rfl rfl (by first | exact nw _ (by omega) | rfl)) rfl (Jg (Jd rfl) rfl (Jf (Ja ?_)))))))));exact hAg0 (q,c,k+1) (by show k+1≤ps.length;omega) (by show ps.length - (k+1)<ps.length - k;omega) 13 rfl rfl ⟨rfl,trivial⟩ rfl (by dsimp only;rw [fmK_no h18])
 ·
  refine JG (Jj (Jj (JP (Ja (hK3 (Je fun _ hK9 _=>(Jb (Jg (Jx rfl At.z (by simpa [*] using ag39)) rfl (JJ rfl rfl (by first | exact bytesC_one _ | exact intsC_one _ | exact Term.c_one _ | simp [Value.oneCell']) (by simpa [*] using sz39) (by simp [*]) (.s (.s .z)) (Jf (Ja (hK9 (Js (Jq rfl (Res.agg rfl (.s (.s .z)) (by simpa [*] using ag39)) fun w hH=>?_))))))))))))));replace hH:=hH.sublist (.cons _ (.cons_cons _ (.cons _ (List.Sublist.refl _))))
  obtain rfl:k=ps.length:=by omega
  exact ⟨_,_,rfl,hH⟩
theorem fn110:Fn Tryz.prog 110:=⟨_,Tryz.func110,by kernel_rfl,rfl⟩
theorem mon_mn {ds:List Int} {n:Int} {m:Nat} (h8:ds.length≤8) : ∀p∈(monS ds n).take m,Mono p:=fun p hp=>(mon_pok h8 (List.mem_of_mem_take hp)).mn (by omega)
theorem monL_mn {ds:List Int} {n:Int} (h8:ds.length≤8) : ∀p∈monL ds n,Mono p:=mon_mn h8
theorem monT_8 {ds:List Int} {n:Int} (h8:ds.length≤8) : ∀p∈monT ds n,p.length=8:=mon_8 h8
theorem mon_srt (ds:List Int) (n:Int) (h8:ds.length≤8):(monS ds n).Pairwise fun p q=>before p q=true:=enumF_srt (by omega) rfl
theorem monL_srt (ds:List Int) (n:Int) (h8:ds.length≤8):(monL ds n).Pairwise fun p q=>before p q=true:=(mon_srt ds n h8).sublist (List.take_sublist _ _)
theorem monT_L {ds:List Int} {n:Int} (h:fitB ds n=true):monT ds n=monL ds n:=by rw [monT_eq h,monL_fit h]
theorem mon_one {p:Pw}:toS (ofS (addS [] p 1))=[(p,1)]:=by rw [toS_ofS,addS_one]
theorem dS_one {ds:List Int} {fs:List (List Term)} (hA:AlgOk ds fs) (h8:ds.length≤8) (hd : ∀j,j<ds.length→1≤ds.getD j 0∧ds.getD j 0≤12) {n:Int} {p:Pw} (hp:p∈monS ds n):Sok 60 (dS ds fs [(p,1)]):=
 dS_sok (ds:=ds) (Sok.one (k:=1) (mon_pok h8 hp) (by omega)) hA.fok (mon_occ h8 hp hd hA.hl)
theorem dS_one_len {ds:List Int} {fs:List (List Term)} (hA:AlgOk ds fs) (h8:ds.length≤8) (hd : ∀j,j<ds.length→1≤ds.getD j 0∧ds.getD j 0≤12) {n:Int} {p:Pw} (hp:p∈monS ds n):(dS ds fs [(p,1)]).length≤80000:=by
 have h1:=dAll_len (ds:=ds) hA.len (mon_occ h8 hp hd hA.hl);have h2:=acc_len (dAll ds fs [(p,1)]) [];simp only [List.length_cons,List.length_nil] at h1 h2;unfold dS
 omega
theorem dS_vec {ds:List Int} {fs:List (List Term)} {n:Int} (hA:AlgOk ds fs) (h8:ds.length≤8) (hd : ∀j,j<ds.length→1≤ds.getD j 0∧ds.getD j 0≤12) (hom:Hom1 ds fs n) {k:Nat} (hk:k<(monL ds n).length):vec (ofS (dS ds fs [(rw_ (monL ds n) k,1)])) (monL ds (n+1))=(monL ds (n+1)).map (cf (dS ds fs [(rw_ (monL ds n) k,1)])):=by
 have h:=vec_cf (ps:=monL ds (n+1)) (f:=ofS (dS ds fs [(rw_ (monL ds n) k,1)])) (by rw [toS_ofS];exact (dS_one hA h8 hd (monL_mem hk)).srt) (monL_srt ds (n+1) h8) (by rw [toS_ofS];exact hom _ (rw_mem hk))
 rwa [toS_ofS] at h
theorem l03Matrix_c {B:World} {H0 H:HP} {L:List SA} {w:World} {qad qaf:Option Addr} {cad caf:Nat} {ad:List Int} {af:List (List Term)} {n:Int} (had:Ints H qad ad) (haf:Forms H qaf af) (hd : ∀j,j<ad.length→1≤ad.getD j 0∧ad.getD j 0≤12) (h8:ad.length≤8) (hn : -1≤n∧n≤100000) (hA:AlgOk ad af) (hfit:fit2 ad n) (hom:Hom1 ad af n) (hH:Hp B H0 H L w):Calls Tryz.prog 120 [.agg [.slice qad ad.length cad,.slice qaf af.length caf].toArray,.int .i64 n].toArray w fun e w'=>∃H' q c,Le H H' ∧RowsR H' q (matS ad af n)∧(matS ad af n).length≤c∧e = .returned (.slice q (matS ad af n).length c)∧Hp B H0 H' L w':=by
 refine Jz Tryz.func120 rfl 38 rfl rfl [(0,.agg [.slice qad ad.length cad,.slice qaf af.length caf].toArray),(1,.int .i64 n)] rfl hH ?_;have hw0:=hH.old;have hw1:=hH.le;have hmT0:=monT_L hfit.1;have hmT1:=monT_L hfit.2;have hml:=monL_len ad n;have hml1:=monL_len ad (n+1);clear hH;refine Je fun _ hK1 _=>(Jb (Ed rfl rfl rfl fun g2=>(Jg (Jd rfl) rfl (Jf (Ja (hK1 (Je fun _ hK2 _=>(El (Rs:=[_]) 13 [[], [0], [], [0,1,2], [], [4], [], [6], [0,1,2,3,4,5,6,7], [], [0,1,2,3,4,5,6,7,8], [0,1,2,3,4,5,6,7,8,10], [0,1,2,3,4,5,6,7,8,9,10,11]] [[], [13], [], [], [], [13], [], [], [], [], [], [], []] [[], [], [], [], [], [], [], [], [], [], [], [], []] rfl rfl (by kernel_rfl) ?_))))))));apply Jl 1 rfl
 iterate 3 focus (intros;(conv=>lhs;simp only [Jh,Jt,JN,Ju,JI,eq_self,Nat.reduceEqDiff,reduceIte,Nat.reduceSub,Nat.reduceAdd,List.cons_append,List.nil_append]);all_goals rfl)
 ·
  intro gh X K zq zc zq2 zc2 zb zv hK;refine Jg (Jv u35 rfl sz22 rfl) rfl (Ji ?_);exact hK zq zc zq2 zc2 zb zv
 ·
  intro gh gh' h
  rfl
 apply Jl 2 rfl
 iterate 3 focus (intros;(conv=>lhs;simp only [Jh,Jt,JN,Ju,JI,eq_self,Nat.reduceEqDiff,reduceIte,Nat.reduceSub,Nat.reduceAdd,List.cons_append,List.nil_append]);all_goals rfl)
 ·
  intro gh X K zq zc zq2 zc2 zb zv hK;refine Jg (Jy rfl At.z rfl pl22) rfl (Ji ?_);exact hK zq zc zq2 zc2 zb zv
 ·
  intro gh gh' h
  rfl
 apply Jl 3 rfl
 iterate 3 focus (intros;(conv=>lhs;simp only [Jh,Jt,JN,Ju,JI,eq_self,Nat.reduceEqDiff,reduceIte,Nat.reduceSub,Nat.reduceAdd,List.cons_append,List.nil_append]);all_goals rfl)
 ·
  intro gh X K zq zc zq2 zc2 zb zv hK;refine Jg (Jc rfl) rfl (Ji ?_);exact hK zq zc zq2 zc2 zb zv
 ·
  intro gh gh' h
  rfl
 apply Ea 4 rfl
 iterate 3 focus (intros;(conv=>lhs;simp only [Jh,Jt,JN,Ju,JI,eq_self,Nat.reduceEqDiff,reduceIte,Nat.reduceSub,Nat.reduceAdd,List.cons_append,List.nil_append]);all_goals rfl)
 ·
  intro gh X K zq zc zq2 zc2 zb zv hK;refine Jw fn66 rfl rfl fun w hH=>(l01Monomials_c had hd h8 (by omega) hH).mono ?_;rintro _ w ⟨qo12,co12,rfl,hH⟩;refine ⟨_,rfl,fun a hF=>JK hF hH ?_⟩;refine Ji ?_;exact hK qo12 co12 zq2 zc2 zb zv
 ·
  intro gh gh' h;refine ⟨?_,?_⟩ <;> rfl
 apply Jl 5 rfl
 iterate 3 focus (intros;(conv=>lhs;simp only [Jh,Jt,JN,Ju,JI,eq_self,Nat.reduceEqDiff,reduceIte,Nat.reduceSub,Nat.reduceAdd,List.cons_append,List.nil_append]);all_goals rfl)
 ·
  intro gh X K zq zc zq2 zc2 zb zv hK;refine Jg (Jv u35 rfl sz22 rfl) rfl (Ji ?_);exact hK zq zc zq2 zc2 zb zv
 ·
  intro gh gh' h
  rfl
 apply Jl 6 rfl
 iterate 3 focus (intros;(conv=>lhs;simp only [Jh,Jt,JN,Ju,JI,eq_self,Nat.reduceEqDiff,reduceIte,Nat.reduceSub,Nat.reduceAdd,List.cons_append,List.nil_append]);all_goals rfl)
 ·
  intro gh X K zq zc zq2 zc2 zb zv hK;refine Jg (Jy rfl At.z rfl pl22) rfl (Ji ?_);exact hK zq zc zq2 zc2 zb zv
 ·
  intro gh gh' h
  rfl
 apply Jl 7 rfl
 iterate 3 focus (intros;(conv=>lhs;simp only [Jh,Jt,JN,Ju,JI,eq_self,Nat.reduceEqDiff,reduceIte,Nat.reduceSub,Nat.reduceAdd,List.cons_append,List.nil_append]);all_goals rfl)
 ·
  intro gh X K zq zc zq2 zc2 zb zv hK;refine Jg (Jc rfl) rfl (Ji ?_);exact hK zq zc zq2 zc2 zb zv
 ·
  intro gh gh' h
  rfl
 apply Jl 8 rfl
 iterate 3 focus (intros;(conv=>lhs;simp only [Jh,Jt,JN,Ju,JI,eq_self,Nat.reduceEqDiff,reduceIte,Nat.reduceSub,Nat.reduceAdd,List.cons_append,List.nil_append]);all_goals rfl)
 ·
  intro gh X K zq zc zq2 zc2 zb zv hK;refine Jg (JC rfl rfl (by first | exact nw _ (by omega) | rfl)) rfl (Ji ?_);exact hK zq zc zq2 zc2 zb zv
 ·
  intro gh gh' h
  rfl
 apply Ea 9 rfl
 iterate 3 focus (intros;(conv=>lhs;simp only [Jh,Jt,JN,Ju,JI,eq_self,Nat.reduceEqDiff,reduceIte,Nat.reduceSub,Nat.reduceAdd,List.cons_append,List.nil_append]);all_goals rfl)
 ·
  intro gh X K zq zc zq2 zc2 zb zv hK;refine Jw fn66 rfl rfl fun w hH=>(l01Monomials_c had hd h8 (by omega) hH).mono ?_;rintro _ w ⟨qo17,co17,rfl,hH⟩;refine ⟨_,rfl,fun a hF=>JK hF hH ?_⟩;refine Ji ?_;exact hK qo17 co17 zq2 zc2 zb zv
 ·
  intro gh gh' h;refine ⟨?_,?_⟩ <;> (first | simp only [h 3 rfl] | rfl)
 apply Ea 10 rfl
 iterate 3 focus (intros;(conv=>lhs;simp only [Jh,Jt,JN,Ju,JI,eq_self,Nat.reduceEqDiff,reduceIte,Nat.reduceSub,Nat.reduceAdd,List.cons_append,List.nil_append]);all_goals rfl)
 ·
  intro gh X K zq zc zq2 zc2 zb zv hK;refine EH (EP u57 sz22) rfl fun qo18 co18=>(Ji ?_);exact hK qo18 co18 zq2 zc2 zb zv
 ·
  intro gh gh' h;refine ⟨?_,?_⟩ <;> rfl
 apply Jl 11 rfl
 iterate 3 focus (intros;(conv=>lhs;simp only [Jh,Jt,JN,Ju,JI,eq_self,Nat.reduceEqDiff,reduceIte,Nat.reduceSub,Nat.reduceAdd,List.cons_append,List.nil_append]);all_goals rfl)
 ·
  intro gh X K zq zc zq2 zc2 zb zv hK;refine Jg (Jd rfl) rfl (Ji ?_);exact hK zq zc zq2 zc2 zb zv
 ·
  intro gh gh' h
  first | simp only [h 3 rfl,h 8 rfl] | rfl
 apply Jl 12 rfl
 iterate 3 focus (intros;(conv=>lhs;simp only [Jh,Jt,JN,Ju,JI,eq_self,Nat.reduceEqDiff,reduceIte,Nat.reduceSub,Nat.reduceAdd,List.cons_append,List.nil_append]);all_goals rfl)
 ·
  intro gh X K zq zc zq2 zc2 zb zv hK;refine Jg (Jd rfl) rfl (Ji ?_);exact hK zq zc zq2 zc2 zb zv
 ·
  intro gh gh' h
  first | simp only [h 3 rfl,h 8 rfl] | rfl
 apply Jl 13 rfl
 iterate 3 focus (intros;(conv=>lhs;simp only [Jh,Jt,JN,Ju,JI,eq_self,Nat.reduceEqDiff,reduceIte,Nat.reduceSub,Nat.reduceAdd,List.cons_append,List.nil_append]);all_goals rfl)
 ·
  intro gh X K zq zc zq2 zc2 zb zv hK;refine Jg (Jd rfl) rfl (Ji ?_);exact hK zq zc zq2 zc2 zb zv
 ·
  intro gh gh' h
  first | simp only [h 3 rfl,h 8 rfl,h 9 rfl] | rfl
 apply Ej [0,1,2,3,4,5,6,7,8,9,10,11,12] [0,1,2,3,4,5,6,7,8,9,10,11,12,13] foll0 rfl rfl rfl (by rfl)
 iterate 2 focus (intros;(conv=>lhs;simp only [Jh,Jt,JN,Ju,JI,eq_self,Nat.reduceEqDiff,reduceIte,Nat.reduceSub,Nat.reduceAdd,List.cons_append,List.nil_append]);all_goals rfl)
 intro gh;generalize (gh 3).c=co12;generalize (gh 3).q=qo12;generalize (gh 8).c=co17;generalize (gh 8).q=qo17;generalize (gh 9).c=co18;generalize (gh 9).q=qo18;clear gh;refine EU .z fun Ho12 hleo12 hAo12=>?_;replace had:=had.le hleo12;replace haf:=haf.le hleo12;have hxo12:=own_monos (monT_8 h8) hAo12;have hco12:=own_le hAo12;refine EU .z fun Ho17 hleo17 hAo17=>?_;replace had:=had.le hleo17;replace haf:=haf.le hleo17;replace hxo12:=hxo12.le hleo17;have hxo17:=own_monos (monT_8 h8) hAo17;have hco17:=own_le hAo17;rw [hmT0] at hxo12;rw [hmT1] at hxo17;rw [hmT0,hmT1];have hmm:=monL_mn (n:=n) h8;have hmm1:=monL_mn (n:=n+1) h8;refine Ja (hK2 (Je fun _ hK3 _=>(Je fun _ hK4 _=>(Jb (Jg (Jd rfl) rfl (Jf (Ja (hK4 (Jm (JD (σ:=HP × Option Addr × Nat × List Value × Nat) (fun ⟨Hk,q,c,vals,k⟩=>[(8,.int .i64 (k:Int)),(7,.slice q k c)]) (fun ⟨Hk,q,c,vals,k⟩=>Hk) (fun ⟨Hk,q,c,vals,k⟩=>own 22 1 q k c vals::obj g2 (.cells [.slice qad ad.length cad,.slice qaf af.length caf].toArray 35 (0,0))::L) (fun ⟨Hk,q,c,vals,k⟩=>Le Ho17 Hk∧SlF Hk vals (matK ad af n k)∧k≤(monL ad n).length) (fun ⟨Hk,q,c,vals,k⟩=>(monL ad n).length - k) (Ho17,qo18,co18, [],0) ⟨Le.refl _,SlF.nil _,by omega⟩ ⟨rfl,⟨rfl,trivial⟩⟩ rfl rfl ?_))))))))));rintro ⟨Hk,q,c,vals,k⟩ ⟨hlk,hS,hk⟩ _ hAg0;replace had:=had.le hlk;replace haf:=haf.le hlk;replace hxo12:=hxo12.le hlk;replace hxo17:=hxo17.le hlk;refine Je fun _ hK5 _=>(Je fun _ hK6 _=>(Jb (Jg (Jc rfl) rfl (Jg (Jc rfl) rfl (Jg (Jn u88 rfl rfl) rfl (Jg (JM rfl rfl) rfl (Jf (Ja (hK6 (Jp rfl (fun h22=>?_) (fun h22=>?_)))))))))))
 ·
  have hk1:k<(monL ad n).length:=by omega
  have hpm:=monL_mem hk1;have hpk:=mon_pok h8 hpm;have hdl:=dS_one_len hA h8 hd hpm;have hds:=dS_one hA h8 hd hpm;refine Jo (Ja (hK5 (Je fun _ hK7 _=>(Jm (El (Rs:=[_,_]) 13 [[], [], [], [], [2,3], [2,3,4], [2,3,4,5], [1,2,3,4,5,6], [], [1,2,3,4,5,6,7,8], [1,2,3,4,5,6,7,8,9], [0,1,2,3,4,5,6,7,8,9,10], [0,1,2,3,4,5,6,7,8,9,10,11]] [[], [14], [], [], [], [], [], [6], [], [7], [], [10], []] [[], [], [], [], [], [], [], [], [], [], [], [13], []] rfl rfl (by kernel_rfl) ?_)))));apply Jl 1 rfl
  iterate 3 focus (intros;(conv=>lhs;simp only [Jh,Jt,JN,Ju,JI,eq_self,Nat.reduceEqDiff,reduceIte,Nat.reduceSub,Nat.reduceAdd,List.cons_append,List.nil_append]);all_goals rfl)
  ·
   intro gh X K zq zc zq2 zc2 zb zv hK;refine Jg (Jc rfl) rfl (Ji ?_);exact hK zq zc zq2 zc2 zb zv
  ·
   intro gh gh' h
   rfl
  apply Jl 2 rfl
  iterate 3 focus (intros;(conv=>lhs;simp only [Jh,Jt,JN,Ju,JI,eq_self,Nat.reduceEqDiff,reduceIte,Nat.reduceSub,Nat.reduceAdd,List.cons_append,List.nil_append]);all_goals rfl)
  ·
   intro gh X K zq zc zq2 zc2 zb zv hK;refine Jg (Jx rfl At.z (by simpa [*] using ag35)) rfl (Ji ?_);exact hK zq zc zq2 zc2 zb zv
  ·
   intro gh gh' h
   rfl
  apply Jl 3 rfl
  iterate 3 focus (intros;(conv=>lhs;simp only [Jh,Jt,JN,Ju,JI,eq_self,Nat.reduceEqDiff,reduceIte,Nat.reduceSub,Nat.reduceAdd,List.cons_append,List.nil_append]);all_goals rfl)
  ·
   intro gh X K zq zc zq2 zc2 zb zv hK;refine Jg (Jc rfl) rfl (Ji ?_);exact hK zq zc zq2 zc2 zb zv
  ·
   intro gh gh' h
   rfl
  apply Jl 4 rfl
  iterate 3 focus (intros;(conv=>lhs;simp only [Jh,Jt,JN,Ju,JI,eq_self,Nat.reduceEqDiff,reduceIte,Nat.reduceSub,Nat.reduceAdd,List.cons_append,List.nil_append]);all_goals rfl)
  ·
   intro gh X K zq zc zq2 zc2 zb zv hK;refine Jg (Jc rfl) rfl (Ji ?_);exact hK zq zc zq2 zc2 zb zv
  ·
   intro gh gh' h
   rfl
  apply Jl 5 rfl
  iterate 3 focus (intros;(conv=>lhs;simp only [Jh,Jt,JN,Ju,JI,eq_self,Nat.reduceEqDiff,reduceIte,Nat.reduceSub,Nat.reduceAdd,List.cons_append,List.nil_append]);all_goals rfl)
  ·
   intro gh X K zq zc zq2 zc2 zb zv hK;refine Jg (Ep u88 sz150 rfl rfl rfl hk1 hxo12.sm) rfl (Ji ?_);exact hK zq zc zq2 zc2 zb zv
  ·
   intro gh gh' h
   rfl
  apply Jl 6 rfl
  iterate 3 focus (intros;(conv=>lhs;simp only [Jh,Jt,JN,Ju,JI,eq_self,Nat.reduceEqDiff,reduceIte,Nat.reduceSub,Nat.reduceAdd,List.cons_append,List.nil_append]);all_goals rfl)
  ·
   intro gh X K zq zc zq2 zc2 zb zv hK;refine Jg (JR rfl (hxo12.cell _ hk1) (hxo12.sm (i:=k) hk1) (by rw [bytesC_length,hxo12.len _ hk1];exact ag150)) rfl (Ji ?_);exact hK zq zc zq2 zc2 zb zv
  ·
   intro gh gh' h
   rfl
  apply Ea 7 rfl
  iterate 3 focus (intros;(conv=>lhs;simp only [Jh,Jt,JN,Ju,JI,eq_self,Nat.reduceEqDiff,reduceIte,Nat.reduceSub,Nat.reduceAdd,List.cons_append,List.nil_append]);all_goals rfl)
  ·
   intro gh X K zq zc zq2 zc2 zb zv hK;refine Jw fn159 rfl rfl fun w hH=>(l01Single_c (rw_all hmm hk1) (by omega) hH).mono ?_;rintro _ w ⟨qo31,co31,rfl,hH⟩;refine ⟨_,rfl,fun a hF=>JK hF hH ?_⟩;refine Ji ?_;exact hK qo31 co31 zq2 zc2 zb zv
  ·
   intro gh gh' h;refine ⟨?_,?_⟩ <;> rfl
  apply Ea 8 rfl
  iterate 3 focus (intros;(conv=>lhs;simp only [Jh,Jt,JN,Ju,JI,eq_self,Nat.reduceEqDiff,reduceIte,Nat.reduceSub,Nat.reduceAdd,List.cons_append,List.nil_append]);all_goals rfl)
  ·
   intro gh X K zq zc zq2 zc2 zb zv hK;refine Jw fn107 rfl rfl fun w hH=>hH.lend .z fun Hl1 hle1 hA1 hB1 hH=>(l02D_c (Mi:=20) (Ms:=20) (had.le hle1) (haf.le hle1) (own_terms (one_wf (rw_all hmm hk1)) hA1) hA.hn hA.hd hA.fok hA.hl hA.kex (by rw [mon_one];exact Sok.one hpk (by omega)) (one_kex (mon_ex h8 hpm hd)) (by omega) hA.len (by rw [one_len];omega) hH).mono ?_;rintro _ w ⟨qo32,co32,rfl,hH⟩;replace hH:=hB1 _ _ hH;refine ⟨_,rfl,fun a hF=>JK hF hH ?_⟩;refine Jr .z (Jr (.s .z) (Ji ?_));exact hK qo32 co32 zq2 zc2 zb zv
  ·
   intro gh gh' h;refine ⟨?_,?_⟩ <;> (first | simp only [h 6 rfl] | rfl)
  apply Jl 9 rfl
  iterate 3 focus (intros;(conv=>lhs;simp only [Jh,Jt,JN,Ju,JI,eq_self,Nat.reduceEqDiff,reduceIte,Nat.reduceSub,Nat.reduceAdd,List.cons_append,List.nil_append]);all_goals rfl)
  ·
   intro gh X K zq zc zq2 zc2 zb zv hK;refine Jg (Jc rfl) rfl (Ji ?_);exact hK zq zc zq2 zc2 zb zv
  ·
   intro gh gh' h
   rfl
  apply Ea 10 rfl
  iterate 3 focus (intros;(conv=>lhs;simp only [Jh,Jt,JN,Ju,JI,eq_self,Nat.reduceEqDiff,reduceIte,Nat.reduceSub,Nat.reduceAdd,List.cons_append,List.nil_append]);all_goals rfl)
  ·
   intro gh X K zq zc zq2 zc2 zb zv hK;refine Jw fn110 rfl rfl fun w hH=>hH.lend .z fun Hl1 hle1 hA1 hB1 hH=>(l03Vector_c (own_terms (by rw [mon_one];exact hds.wf (by omega)) hA1) (hxo17.le hle1) (by omega) (by rw [mon_one,ofS_len];omega) hmm1 hH).mono ?_;rintro _ w ⟨qo34,co34,rfl,hH⟩;replace hH:=hB1 _ _ hH;refine ⟨_,rfl,fun a hF=>JK hF hH ?_⟩;refine Jr .z (Jr (.s .z) (Ji ?_));exact hK qo34 co34 zq2 zc2 zb zv
  ·
   intro gh gh' h;refine ⟨?_,?_⟩ <;> (first | simp only [h 6 rfl,h 7 rfl] | rfl)
  apply Ea 11 rfl
  iterate 3 focus (intros;(conv=>lhs;simp only [Jh,Jt,JN,Ju,JI,eq_self,Nat.reduceEqDiff,reduceIte,Nat.reduceSub,Nat.reduceAdd,List.cons_append,List.nil_append]);all_goals rfl)
  ·
   intro gh X K zq zc zq2 zc2 zb zv hK;refine EH (EK u57 ze22 sz22 rfl rfl) rfl fun qo35 co35=>(Ji ?_);exact hK qo35 co35 zq2 zc2 zb zv
  ·
   intro gh gh' h;refine ⟨?_,?_⟩ <;> (first | simp only [h 6 rfl,h 7 rfl,h 9 rfl] | rfl)
  apply Ea 12 rfl
  iterate 3 focus (intros;(conv=>lhs;simp only [Jh,Jt,JN,Ju,JI,eq_self,Nat.reduceEqDiff,reduceIte,Nat.reduceSub,Nat.reduceAdd,List.cons_append,List.nil_append]);all_goals rfl)
  ·
   intro gh X K zq zc zq2 zc2 zb zv hK;refine ED u57 ze22 sz22 by22 rfl rfl rfl rfl (by omega) (.s .z) At.z (fun _ _=>At.z) rfl fun qo36 co36=>(Jr .z (Jr (.s .z) (Ji ?_)));exact hK qo36 co36 zq2 zc2 zb zv
  ·
   intro gh gh' h;refine ⟨?_,?_⟩ <;> (first | simp only [h 6 rfl,h 7 rfl,h 9 rfl,h 10 rfl] | rfl)
  apply Jl 13 rfl
  iterate 3 focus (intros;(conv=>lhs;simp only [Jh,Jt,JN,Ju,JI,eq_self,Nat.reduceEqDiff,reduceIte,Nat.reduceSub,Nat.reduceAdd,List.cons_append,List.nil_append]);all_goals rfl)
  ·
   intro gh X K zq zc zq2 zc2 zb zv hK;refine Jg (Jd rfl) rfl (Ji ?_);exact hK zq zc zq2 zc2 zb zv
  ·
   intro gh gh' h
   first | simp only [h 6 rfl,h 7 rfl,h 9 rfl,h 10 rfl,h 11 rfl] | rfl
  apply Ej [0,1,2,3,4,5,6,7,8,9,10,11,12] [0,1,2,3,4,5,6,7,8,9,10,11,12,14] foll0 rfl rfl rfl (by rfl)
  iterate 2 focus (intros;(conv=>lhs;simp only [Jh,Jt,JN,Ju,JI,eq_self,Nat.reduceEqDiff,reduceIte,Nat.reduceSub,Nat.reduceAdd,List.cons_append,List.nil_append]);all_goals rfl)
  intro gh;generalize (gh 6).c=co31;generalize (gh 6).q=qo31;generalize (gh 7).c=co32;generalize (gh 7).q=qo32;generalize (gh 9).c=co34;generalize (gh 9).q=qo34;generalize (gh 10).c=co35;generalize (gh 10).q=qo35;generalize (gh 11).c=co36;generalize (gh 11).q=qo36;clear gh;refine EU (.s (.s .z)) fun Ho34 hleo34 hAo34=>?_;replace had:=had.le hleo34;replace haf:=haf.le hleo34;replace hxo12:=hxo12.le hleo34;replace hxo17:=hxo17.le hleo34;replace hS:=hS.le hleo34;have hxo34:=own_ints hAo34;have hco34:=own_le hAo34;have hve:=dS_vec hA h8 hd hom hk1;rw [← mon_one] at hve;have hS2:=hS.snoc (hve ▸ hxo34) (by rw [hve]) hco34;rw [mon_one] at hS2;refine JF (Ja (hK7 (Jb (Jg (Jc rfl) rfl (Jg (JC rfl rfl (by first | exact nw _ (by omega) | rfl)) rfl (Jg (Jd rfl) rfl (Jf (Ja (JL .z (JL .z (JL .z ?_)))))))))));exact hAg0 (Ho34,qo36,co36,_,k+1) ⟨(hlk.trans hleo34),by rw [matK_succ hk1];exact hS2,by omega⟩ (by show (monL ad n).length - (k+1)<(monL ad n).length - k;omega) 22 rfl rfl ⟨rfl,⟨rfl,trivial⟩⟩ rfl rfl
 ·
  refine JG (Jj (Jj (JP (Ja (hK3 (Je fun _ hK8 _=>(Jb (Jg (Jc rfl) rfl (Ez .z fun Ho18 hleo18 hAo18=>?_)))))))));replace had:=had.le hleo18;replace haf:=haf.le hleo18;replace hxo12:=hxo12.le hleo18;replace hxo17:=hxo17.le hleo18;replace hS:=hS.le hleo18;have hxo18:=hS.rows (Le.refl _) hAo18;have hco18:=own_le hAo18;refine Jg (Jd rfl) rfl (Jf (Ja (hK8 (Js (Jq rfl (Res.tmp rfl) fun w hH=>?_)))));replace hH:=hH.tail
  have hke:k=(monL ad n).length:=by omega
  rw [matK_end hke] at hxo18;exact ⟨_,q,c,(((hleo12.trans hleo17).trans hlk).trans hleo18),hxo18,by rw [matS_len,← hke];exact hco18,by rw [matS_len,hke],hH⟩
theorem leftP_get {p:Pw} {i j:Nat} (hi:i<8) (hj:j<8):(leftP p i).getD j 0=if j=i then p.getD i 0 - 1 else if j<i then p.getD j 0 else 0:=by
 unfold leftP;rw [getD_set8,show (aheadP p i).length=8 by simp,aheadP_get hj]
 by_cases e:i=j
 ·subst e;rw [if_pos ⟨rfl,hi⟩,if_pos rfl]
 ·rw [if_neg (fun h=>e h.1),if_neg (fun h:j=i=>e h.symm)]
theorem wsum_lb {ds p:Pw} {i:Nat} (hi:i<8) : ∀n:Nat,n≤8→wsum ds (leftP p i) n+wsum ds (behP p (i+1)) n=wsum ds p n - (if i<n then ds.getD i 0 else 0)
 | 0,_=>by simp [wsum]
 | n+1,h=>by
  have ih:=wsum_lb (ds:=ds) (p:=p) hi n (by omega)
  simp only [wsum]
  rw [leftP_get hi (by omega),behP_get (by omega)]
  rcases Nat.lt_trichotomy n i with h1 | h1 | h1
  ·rw [if_neg (by omega),if_pos h1,if_pos (by omega),if_neg (by omega)]
   rw [if_neg (by omega)] at ih
   rw [Int.mul_zero]
   omega
  ·subst h1
   rw [if_pos rfl,if_pos (by omega),if_pos (by omega)]
   rw [if_neg (by omega)] at ih
   rw [Int.mul_zero,Int.mul_sub,Int.mul_one]
   omega
  ·rw [if_neg (by omega),if_neg (by omega),if_neg (by omega),if_pos (by omega)]
   rw [if_pos h1] at ih
   rw [Int.mul_zero]
   omega
theorem wsF_cons (d:Int) (ds p:List Int) (i:Nat):wsF (d::ds) p i=d * p.getD i 0+wsF ds p (i+1):=rfl
theorem wsF_sum {p:List Int} : ∀(pre ds:List Int),wsF ds p pre.length+wsum (pre++ds) p pre.length=wsum (pre++ds) p (pre++ds).length
 | pre, []=>by simp [wsF]
 | pre,d::ds=>by
  have ih:=wsF_sum (p:=p) (pre++[d]) ds
  rw [List.length_append,List.append_assoc] at ih
  simp only [List.length_cons,List.length_nil,List.cons_append,List.nil_append,wsum,Nat.zero_add] at ih
  rw [wsF_cons]
  have e:(pre++d::ds).getD pre.length 0=d:=by simp [List.getD_eq_getElem?_getD]
  rw [e] at ih
  omega
theorem wsF_0 (ds p:List Int):wsF ds p 0=wsum ds p ds.length:=by
 have h:=wsF_sum (p:=p) [] ds
 simpa [wsum] using h
theorem mon_wt {ds:List Int} {n:Int} (h8:ds.length≤8) {p:Pw} (hp:p∈monS ds n):wsum ds p ds.length=n:=by
 rw [← wsF_0];exact (enumF_mem (by omega) rfl hp).2.2.2
theorem wsum_ge {ds p:Pw} (hd : ∀j,0≤ds.getD j 0) (hp : ∀j,0≤p.getD j 0) {j:Nat} : ∀n:Nat,j<n→ds.getD j 0 * p.getD j 0≤wsum ds p n
 | 0,h=>by omega
 | n+1,h=>by
  have h0:=wsum_nn0 hd hp n
  have h1:0≤ds.getD n 0 * p.getD n 0:=Int.mul_nonneg (hd n) (hp n)
  simp only [wsum]
  rcases Nat.lt_or_ge j n with hj | hj
  ·have:=wsum_ge hd hp (j:=j) n hj
   omega
  ·obtain rfl:j=n:=by omega
   omega
theorem mon_in {ds:List Int} (h8:ds.length≤8) (hd : ∀j,j<ds.length→1≤ds.getD j 0∧ds.getD j 0≤12) {n:Int} (hn:n≤41) {M:Int} {p:Pw} (hp:Pok M p) (hx:Ex ds p) (hw:wsum ds p ds.length=n):p∈monS ds n:=by
 have hd0 : ∀j,0≤ds.getD j 0:=fun j=>by
  by_cases hj:j<ds.length
  ·have:=hd j hj;omega
  ·rw [getD_ge (by omega)];omega
 have hp0 : ∀j,0≤p.getD j 0:=fun j=>(hp.bd j).1;refine enumF_in (by omega) rfl hp.len (fun t ht=>(hd t ht).1) (fun j hj=>?_) hp0 (fun t ht=>?_) (by rw [wsF_0];exact hw)
 ·rw [hx.out j (by omega),show zP=List.replicate 8 0 from rfl,rep_get]
 ·rw [Nat.zero_add];have hdt:=hd t ht;have htm:=tmod_two (d:=ds.getD t 0) (by omega);have hge:=wsum_ge hd0 hp0 (j:=t) ds.length ht;rw [hw] at hge;refine ⟨?_,fun h=>hx.odd t ht (by omega)⟩
  by_cases ho:(ds.getD t 0).tmod 2=1
  ·have:=hx.odd t ht (by omega)
   omega
  ·have h2:2≤ds.getD t 0:=by
    rcases (show ds.getD t 0=1∨2≤ds.getD t 0 by omega) with h | h
    ·rw [h] at ho;exact absurd (by decide) ho
    ·exact h
   have h3:2 * p.getD t 0≤ds.getD t 0 * p.getD t 0:=Int.mul_le_mul_of_nonneg_right h2 (hp0 t)
   omega
theorem dS_wt {ds:List Int} {fs:List (List Term)} (hG:isAlg ds fs=true) (hw:Wfss fs) {M:Int} {p:Pw} (hp:Pok M p) (hx:Ex ds p) {x:Pw × Int} (h:x∈dS ds fs [(p,1)]):Ex ds x.1∧wsum ds x.1 ds.length=wsum ds p ds.length+1:=by
 have hA:=isAlg_ok hG hw;have hn:=hA.hn
 rcases acc_mem h with h | ⟨z,hz,e⟩
 ·simp at h
 rw [e];unfold dAll at hz;simp only [List.flatMap_cons,List.flatMap_nil,List.append_nil] at hz;unfold dLk at hz;obtain ⟨i,hi,hz⟩:=List.mem_flatMap.1 hz;have hi8:=List.mem_range.1 hi;unfold dP at hz
 split at hz
 ·rename_i hpos
  have hid:i<ds.length:=by
   rcases Nat.lt_or_ge i ds.length with h | h
   ·exact h
   ·have h1:=hx.out i h;simp only at hpos
    omega
  obtain ⟨y,hy,ey⟩:=scl_key hz;rw [ey]
  have hif:i<fs.length:=by rw [hA.hl];exact hid
  have him:=(hA.fok i hif).1;have hlp:=leftP_pok hp hpos;have hbp:=behP_pok hp (i+1);have g1:Gok M [(leftP p i,1)]:=(Sok.one hlp (k:=1) (by omega)).g;have g3:Gok M [(behP p (i+1),1)]:=(Sok.one hbp (k:=1) (by omega)).g
  have k1:KEx ds [(leftP p i,1)]:=fun x hx'=>by rw [List.mem_singleton.1 hx'];exact leftP_ex hp hx hpos
  have k3:KEx ds [(behP p (i+1),1)]:=fun x hx'=>by rw [List.mem_singleton.1 hx'];exact behP_ex hp hx (i+1)
  have k2:=hA.kex i hif;have k12:=times_kex g1 him.g k1 k2;have g12:=gtimes (ds:=ds) g1 him.g;refine ⟨times_kex g12.g g3 k12 k3 y hy,?_⟩
  rcases acc_mem hy with h | ⟨a,ha,ea⟩
  ·simp at h
  obtain ⟨u,hu,v,hv,_,e2⟩:=mulL_mem ha;rw [List.mem_singleton.1 hv] at e2
  rcases acc_mem hu with h | ⟨b,hb,eb⟩
  ·simp at h
  obtain ⟨c,hc,d,hd',_,e3⟩:=mulL_mem hb;rw [List.mem_singleton.1 hc] at e3;have hdl:=(him.key d hd').len;have h1:=imsOk_at (isAlg_im hG) hif;unfold imOk at h1;have h2:=(Bool.and_eq_true_iff.1 h1).2;have hwd:=degOk_wt hn hA.hd (hw.fm i) h2 d hd';have hlb:=wsum_lb (ds:=ds) (p:=p) hi8 ds.length hn;rw [if_pos hid] at hlb;rw [ea,e2,wsum_add (by rw [eb,e3];simp [addp]) hbp.len,eb,e3,wsum_add hlp.len hdl,hwd]
  omega
 ·simp at hz
theorem hom_of {ds:List Int} {fs:List (List Term)} (hG:isAlg ds fs=true) (hw:Wfss fs) (h8:ds.length≤8) (hd : ∀j,j<ds.length→1≤ds.getD j 0∧ds.getD j 0≤12) {n:Int} (hn:n≤40) (hf:fit2 ds n):Hom1 ds fs n:=fun p hp x hx=>by
 have hp':=List.mem_of_mem_take hp
 have h1:=dS_wt hG hw (mon_pok h8 hp') (mon_ex h8 hp' hd) hx
 have hA:=isAlg_ok hG hw
 have h2:=dS_one hA h8 hd hp'
 rw [monL_fit hf.2]
 exact mon_in h8 hd (by omega) (h2.key x hx) h1.1 (by rw [h1.2,mon_wt h8 hp'])
theorem fn120:Fn Tryz.prog 120:=⟨_,Tryz.func120,by kernel_rfl,rfl⟩
theorem fn170:Fn Tryz.prog 170:=⟨_,Tryz.func170,by kernel_rfl,rfl⟩
theorem fn74:Fn Tryz.prog 74:=⟨_,Tryz.func74,by kernel_rfl,rfl⟩
theorem alg_112 {ds:List Int} {fs:List (List Term)} (h:isAlg ds fs=true) : ∀j,j<ds.length→1≤ds.getD j 0∧ds.getD j 0≤12:=fun j hj=>by
 have h1:=isDeg_bd (isAlg_deg h) j
 have h2:=isDeg_pos1 (isAlg_deg h) j hj
 omega
def askB (m:Int):Bool:=decide (0≤m) && decide (m≤20)
theorem askB_y {m:Int} (h:askB m=true):0≤m∧m≤20:=by unfold askB at h;simpa using h
def allC (ds:List Int) (fs:List (List Term)) (m:Int):Int:=if isAlg ds fs then if askB m then if wiB ds 0 (m+1) then 0 else 3 else 2 else 1
def cdC (ds:List Int) (fs:List (List Term)) (n:Int):Int:=if isAlg ds fs then if askB n then if wiB ds (n - 1) (n+1) then 0 else 3 else 2 else 1
theorem wi_fit {ds:List Int} {a b k:Int} (h:wiB ds a b=true) (h1:max a 0≤k) (h2:k≤b):fitB ds k=true:=by
 have:=List.all_eq_true.1 h (k - max a 0).toNat (List.mem_range.2 (by omega))
 rwa [show max a 0+(((k - max a 0).toNat:Nat):Int)=k by omega] at this
theorem fit_neg {ds:List Int} {fs:List (List Term)} (hG:isAlg ds fs=true) {n:Int} (h:n<0):fitB ds n=true:=by
 unfold fitB;rw [monS_neg (alg_112 hG) (isDeg_len (isAlg_deg hG)) h]
 rfl
theorem wi_fit' {ds:List Int} {fs:List (List Term)} (hG:isAlg ds fs=true) {a b k:Int} (h:wiB ds a b=true) (h1:a≤k) (h2:k≤b):fitB ds k=true:=by
 by_cases hk:k<0
 ·exact fit_neg hG hk
 ·exact wi_fit h (by omega) h2
def clV (ds:List Int) (fs:List (List Term)) (n:Int) (v:List Int):List Int:=(csS ds fs n).map fun r=>(byS v (bdS ds fs n)).getD (ldR r) 0
theorem clS_len {ds:List Int} {fs:List (List Term)} {n:Int} (hA:AlgOk ds fs) (h8:ds.length≤8) (hd : ∀j,j<ds.length→1≤ds.getD j 0∧ds.getD j 0≤12):(clS ds fs n).length≤121:=Nat.le_trans (clS_red hA h8 hd).count (monL_len ds n)
theorem bdS_len {ds:List Int} {fs:List (List Term)} {n:Int} (hA:AlgOk ds fs) (h8:ds.length≤8) (hd : ∀j,j<ds.length→1≤ds.getD j 0∧ds.getD j 0≤12):(bdS ds fs n).length≤121:=Nat.le_trans (bdS_red hA h8 hd).count (monL_len ds n)
theorem csS_len {ds:List Int} {fs:List (List Term)} {n:Int} (hA:AlgOk ds fs) (h8:ds.length≤8) (hd : ∀j,j<ds.length→1≤ds.getD j 0∧ds.getD j 0≤12):(csS ds fs n).length≤121:=Nat.le_trans (csS_red hA h8 hd).count (monL_len ds n)
theorem Hp.kerM {B:World} {H0 H:HP} {L:List SA} {w:World} {q:Option Addr} {c:Nat} {rs:List (List Int)} {vs:Vs} {W:Nat} (hW : ∀r∈rs,RowOk W r) (hn:rs.length+W≤100000) (hH:Hp B H0 H (mlt (RwK q c rs) H vs::L) w) :
 Calls Tryz.prog 170 [.slice q rs.length c,.int .i64 (W:Int)].toArray w fun e w'=>∃q c vs,e = .returned (.slice q (kerS rs W).length c)∧Hp B H0 H (mlt (RwK q c (kerS rs W)) H vs::L) w':=
 hH.lend .z fun H1 hle hA _ hH1=>(l03Kernel_c (crs:=c) (mlt_rows hle hA).1 hW hn hH1).mono fun e w' h=>by
  obtain ⟨H',q',c',hle',hI,hc,he,hH'⟩:=h
  obtain ⟨vs',h2⟩:=hH.melt (K:=RwK q' c' (kerS rs W)) hH' (hle.trans hle') ⟨hI,hc⟩
  exact ⟨q',c',vs',he,h2⟩
theorem l03Matrix_m {B:World} {H0 H:HP} {L:List SA} {w:World} {qad qaf:Option Addr} {cad caf:Nat} {ad:List Int} {af:List (List Term)} {n:Int} (had:Ints H qad ad) (haf:Forms H qaf af) (hd : ∀j,j<ad.length→1≤ad.getD j 0∧ad.getD j 0≤12) (h8:ad.length≤8) (hn : -1≤n∧n≤100000) (hA:AlgOk ad af) (hfit:fit2 ad n) (hom:Hom1 ad af n) (hH:Hp B H0 H L w) :
 Calls Tryz.prog 120 [.agg [.slice qad ad.length cad,.slice qaf af.length caf].toArray,.int .i64 n].toArray w fun e w'=>∃q c vs,e = .returned (.slice q (matS ad af n).length c)∧Hp B H0 H (mlt (RwK q c (matS ad af n)) H vs::L) w':=(l03Matrix_c had haf hd h8 hn hA hfit hom hH).mono fun e w' h=>by
 obtain ⟨H',q,c,hle,hI,hc,he,hH'⟩:=h
 obtain ⟨vs,h2⟩:=hH.melt (K:=RwK q c (matS ad af n)) hH' hle ⟨hI,hc⟩
 exact ⟨q,c,vs,he,h2⟩
theorem l03All_c {B:World} {H0 H:HP} {L:List SA} {w:World} {qad qaf:Option Addr} {cad caf:Nat} {ad:List Int} {af:List (List Term)} {n:Int} (had:Ints H qad ad) (haf:Forms H qaf af) (hn8:ad.length≤1048576) (hn9:af.length≤1048576) (hl9 : ∀i,i<af.length→(fm af i).length≤1048576) (hH:Hp B H0 H L w):Calls Tryz.prog 64 [.agg [.slice qad ad.length cad,.slice qaf af.length caf].toArray,.int .i64 n].toArray w fun e w'=>e = .returned (.int .i64 (allC ad af n))∧Hp B H0 H L w':=by
 refine Jz Tryz.func64 rfl 19 rfl rfl [(0,.agg [.slice qad ad.length cad,.slice qaf af.length caf].toArray),(1,.int .i64 n)] rfl hH ?_;clear hH;refine Je fun _ hK1 _=>(Jb (Ed rfl rfl rfl fun g2=>(Jg (Jd rfl) rfl (Jf (Ja (hK1 (Je fun _ hK2 _=>(Jm (Je fun _ hK3 _=>(Jb (Jg (Jx rfl At.z (by simpa [*] using ag35)) rfl (Jw fn72 rfl rfl fun w hH=>(l02Is_c had haf (by omega) (by omega) hl9 hH).mono ?_))))))))))));rintro _ w ⟨rfl,hH⟩;refine ⟨_,rfl,fun a hF=>JK hF hH ?_⟩;refine Jg (Ek rfl) rfl (Jg (Jd rfl) rfl (Jf (Ja (hK3 (Eg rfl (fun h5=>?_) (fun h5=>?_))))))
 ·
  refine Je fun _ hK4 _=>(Jb (Jg (Jd rfl) rfl (Jf (Ja (hK4 (Js (JT (Jk (Jq rfl (Res.tmp rfl) fun w hH=>?_)))))))));replace hH:=hH.tail;exact ⟨ri (by rw [allC,if_neg (by rw [not_f h5];decide)]),hH⟩
 ·
  have hG:isAlg ad af=true:=not_t h5;have hwf:=haf.wfss;have hA:=isAlg_ok hG hwf;have h8:=hA.hn;have hd:=alg_112 hG;refine Je fun _ hK5 _=>(Jb (Jg (Jc rfl) rfl (Jw fn73 rfl rfl fun w hH=>(l01In_c hH).mono ?_)));rintro _ w ⟨rfl,hH⟩;refine ⟨_,rfl,fun a hF=>JK hF hH ?_⟩;refine Jg (Ek rfl) rfl (Jg (Jd rfl) rfl (Jf (Ja (hK5 (Eg rfl (fun h9=>?_) (fun h9=>?_))))))
  ·
   refine Je fun _ hK6 _=>(Jb (Jg (Jd rfl) rfl (Jf (Ja (hK6 (Js (JT (Jk (Jq rfl (Res.tmp rfl) fun w hH=>?_)))))))));replace hH:=hH.tail;exact ⟨ri (by rw [allC,if_pos hG,if_neg (by rw [show askB n=false from not_f h9];decide)]),hH⟩
  ·
   have hk:=askB_y (not_t h9);refine Je fun _ hK7 _=>(Jb (Jg (Jx rfl At.z (by simpa [*] using ag35)) rfl (Jg (Jc rfl) rfl (Jg (JC rfl rfl (by first | exact nw _ (by omega) | rfl)) rfl (Jw fn74 rfl rfl fun w hH=>(l03Within_c had haf hd h8 (by omega) (by omega) hH).mono ?_)))));rintro _ w ⟨rfl,hH⟩;refine ⟨_,rfl,fun a hF=>JK hF hH ?_⟩;refine Jg (Ek rfl) rfl (Jg (Jd rfl) rfl (Jf (Ja (hK7 (Eg rfl (fun h13=>?_) (fun h13=>?_))))))
   ·
    refine Je fun _ hK8 _=>(Jb (Jg (Jd rfl) rfl (Jf (Ja (hK8 (Js (JT (Jk (Jq rfl (Res.tmp rfl) fun w hH=>?_)))))))));replace hH:=hH.tail;exact ⟨ri (by rw [allC,if_pos hG,if_pos (show askB n=true from not_t h9),if_neg (by rw [not_f h13];decide)]),hH⟩
   ·
    refine Jo (JF (Ja (hK2 (Je fun _ hK9 _=>(Jb (Jg (Jd rfl) rfl (Jf (Ja (hK9 (Js (Jq rfl (Res.tmp rfl) fun w hH=>?_)))))))))));replace hH:=hH.tail;exact ⟨ri (by rw [allC,if_pos hG,if_pos (show askB n=true from not_t h9),if_pos (not_t h13)]),hH⟩
theorem l03Code_c {B:World} {H0 H:HP} {L:List SA} {w:World} {qad qaf:Option Addr} {cad caf:Nat} {ad:List Int} {af:List (List Term)} {n:Int} (had:Ints H qad ad) (haf:Forms H qaf af) (hn8:ad.length≤1048576) (hn9:af.length≤1048576) (hl9 : ∀i,i<af.length→(fm af i).length≤1048576) (hH:Hp B H0 H L w):Calls Tryz.prog 182 [.agg [.slice qad ad.length cad,.slice qaf af.length caf].toArray,.int .i64 n].toArray w fun e w'=>e = .returned (.int .i64 (cdC ad af n))∧Hp B H0 H L w':=by
 refine Jz Tryz.func182 rfl 21 rfl rfl [(0,.agg [.slice qad ad.length cad,.slice qaf af.length caf].toArray),(1,.int .i64 n)] rfl hH ?_;clear hH;refine Je fun _ hK1 _=>(Jb (Ed rfl rfl rfl fun g2=>(Jg (Jd rfl) rfl (Jf (Ja (hK1 (Je fun _ hK2 _=>(Jm (Je fun _ hK3 _=>(Jb (Jg (Jx rfl At.z (by simpa [*] using ag35)) rfl (Jw fn72 rfl rfl fun w hH=>(l02Is_c had haf (by omega) (by omega) hl9 hH).mono ?_))))))))))));rintro _ w ⟨rfl,hH⟩;refine ⟨_,rfl,fun a hF=>JK hF hH ?_⟩;refine Jg (Ek rfl) rfl (Jg (Jd rfl) rfl (Jf (Ja (hK3 (Eg rfl (fun h5=>?_) (fun h5=>?_))))))
 ·
  refine Je fun _ hK4 _=>(Jb (Jg (Jd rfl) rfl (Jf (Ja (hK4 (Js (JT (Jk (Jq rfl (Res.tmp rfl) fun w hH=>?_)))))))));replace hH:=hH.tail;exact ⟨ri (by rw [cdC,if_neg (by rw [not_f h5];decide)]),hH⟩
 ·
  have hG:isAlg ad af=true:=not_t h5;have hwf:=haf.wfss;have hA:=isAlg_ok hG hwf;have h8:=hA.hn;have hd:=alg_112 hG;refine Je fun _ hK5 _=>(Jb (Jg (Jc rfl) rfl (Jw fn73 rfl rfl fun w hH=>(l01In_c hH).mono ?_)));rintro _ w ⟨rfl,hH⟩;refine ⟨_,rfl,fun a hF=>JK hF hH ?_⟩;refine Jg (Ek rfl) rfl (Jg (Jd rfl) rfl (Jf (Ja (hK5 (Eg rfl (fun h9=>?_) (fun h9=>?_))))))
  ·
   refine Je fun _ hK6 _=>(Jb (Jg (Jd rfl) rfl (Jf (Ja (hK6 (Js (JT (Jk (Jq rfl (Res.tmp rfl) fun w hH=>?_)))))))));replace hH:=hH.tail;exact ⟨ri (by rw [cdC,if_pos hG,if_neg (by rw [show askB n=false from not_f h9];decide)]),hH⟩
  ·
   have hk:=askB_y (not_t h9);refine Je fun _ hK7 _=>(Jb (Jg (Jx rfl At.z (by simpa [*] using ag35)) rfl (Jg (Jc rfl) rfl (Jg (EM rfl rfl (by first | exact nw _ (by omega) | rfl)) rfl (Jg (Jc rfl) rfl (Jg (JC rfl rfl (by first | exact nw _ (by omega) | rfl)) rfl (Jw fn74 rfl rfl fun w hH=>(l03Within_c had haf hd h8 (by omega) (by omega) hH).mono ?_)))))));rintro _ w ⟨rfl,hH⟩;refine ⟨_,rfl,fun a hF=>JK hF hH ?_⟩;refine Jg (Ek rfl) rfl (Jg (Jd rfl) rfl (Jf (Ja (hK7 (Eg rfl (fun h13=>?_) (fun h13=>?_))))))
   ·
    refine Je fun _ hK8 _=>(Jb (Jg (Jd rfl) rfl (Jf (Ja (hK8 (Js (JT (Jk (Jq rfl (Res.tmp rfl) fun w hH=>?_)))))))));replace hH:=hH.tail;exact ⟨ri (by rw [cdC,if_pos hG,if_pos (show askB n=true from not_t h9),if_neg (by rw [not_f h13];decide)]),hH⟩
   ·
    refine Jo (JF (Ja (hK2 (Je fun _ hK9 _=>(Jb (Jg (Jd rfl) rfl (Jf (Ja (hK9 (Js (Jq rfl (Res.tmp rfl) fun w hH=>?_)))))))))));replace hH:=hH.tail;exact ⟨ri (by rw [cdC,if_pos hG,if_pos (show askB n=true from not_t h9),if_pos (not_t h13)]),hH⟩
theorem l03Bounds_c {B:World} {H0 H:HP} {L:List SA} {w:World} {qad qaf:Option Addr} {cad caf:Nat} {ad:List Int} {af:List (List Term)} {n:Int} (had:Ints H qad ad) (haf:Forms H qaf af) (hG:isAlg ad af=true) (hn:0≤n∧n≤40) (hfit:0<n→fit2 ad (n - 1)) (hH:Hp B H0 H L w):Calls Tryz.prog 111 [.agg [.slice qad ad.length cad,.slice qaf af.length caf].toArray,.int .i64 n].toArray w fun e w'=>∃H' q c,Le H H' ∧RowsR H' q (bdS ad af n)∧(bdS ad af n).length≤c∧e = .returned (.slice q (bdS ad af n).length c)∧Hp B H0 H' L w':=by
 refine Jz Tryz.func111 rfl 13 rfl rfl [(0,.agg [.slice qad ad.length cad,.slice qaf af.length caf].toArray),(1,.int .i64 n)] rfl hH ?_;have hw0:=hH.old;have hw1:=hH.le;clear hH;have hwf:=haf.wfss;have hA:=isAlg_ok hG hwf;have h8:=hA.hn;have hd:=alg_112 hG;have hml:=monL_len ad n;have hml1:=monL_len ad (n+1);have hml0:=monL_len ad (n - 1);have hml2:=monL_len ad (n - 1+1);refine Je fun _ hK1 _=>(Jb (Ed rfl rfl rfl fun g2=>(Jg (Jd rfl) rfl (Jf (Ja (hK1 (Je fun _ hK2 _=>(Je fun _ hK3 _=>(Jb (Jg (Jc rfl) rfl (Jg (EF rfl rfl) rfl (Jf (Ja (hK3 (Jp rfl (fun h6=>?_) (fun h6=>?_))))))))))))))))
 ·
  refine Je fun _ hK4 _=>(Jb (EH (EP u57 sz22) rfl fun qo7 co7=>?_));have hnil:=SlF.nil H;refine Ez .z fun Ho7 hleo7 hAo7=>?_;replace had:=had.le hleo7;replace haf:=haf.le hleo7;replace hnil:=hnil.le hleo7;have hxo7:=hnil.rows (Le.refl _) hAo7;have hco7:=own_le hAo7;refine Jg (Jd rfl) rfl (Jf (Ja (hK4 (Js (Jk (Jq rfl (Res.tmp rfl) fun w hH=>?_))))));replace hH:=hH.tail;rw [show bdS ad af n=[] from if_neg (by omega)];exact ⟨_,_,_,hleo7,hxo7,hco7,rfl,hH⟩
 ·
  refine Jo (Ja (hK2 (Je fun _ hK5 _=>(Jb (Jg (Jx rfl At.z (by simpa [*] using ag35)) rfl (Jg (Jc rfl) rfl (Jg (EM rfl rfl (by first | exact nw _ (by omega) | rfl)) rfl (Jw fn120 rfl rfl fun w hH=>(l03Matrix_c had haf hd h8 (by omega) hA (hfit (by omega)) (hom_of hG hwf h8 hd (by omega) (hfit (by omega))) hH).mono ?_))))))));rintro _ w ⟨Hf11,qf11,cf11,hlf11,hI11,hcc11,rfl,hH⟩;refine ⟨_,rfl,fun a hF=>JK hF hH ?_⟩;replace had:=had.le hlf11;replace haf:=haf.le hlf11;refine Jw fn78 rfl rfl fun w hH=>(l03Reduce_c (W:=(monL ad (n - 1+1)).length) hI11 (matS_ok hA h8 hd) (by rw [matS_len];omega) (by omega) hH).mono ?_;rintro _ w ⟨Hf12,qf12,cf12,hlf12,hI12,hcc12,rfl,hH⟩;refine ⟨_,rfl,fun a hF=>JK hF hH ?_⟩;replace had:=had.le hlf12;replace haf:=haf.le hlf12;replace hI11:=hI11.le hlf12;refine Jg (Jd rfl) rfl (Jf (Ja (hK5 (Js (Jq rfl (Res.tmp rfl) fun w hH=>?_)))));replace hH:=hH.tail;rw [show bdS ad af n=redS (matS ad af (n - 1)) from if_pos (by omega)];exact ⟨_,_,_,(hlf11.trans hlf12),hI12,hcc12,rfl,hH⟩
theorem l03Bounds_m {B:World} {H0 H:HP} {L:List SA} {w:World} {qad qaf:Option Addr} {cad caf:Nat} {ad:List Int} {af:List (List Term)} {n:Int} (had:Ints H qad ad) (haf:Forms H qaf af) (hG:isAlg ad af=true) (hn:0≤n∧n≤40) (hfit:0<n→fit2 ad (n - 1)) (hH:Hp B H0 H L w) :
 Calls Tryz.prog 111 [.agg [.slice qad ad.length cad,.slice qaf af.length caf].toArray,.int .i64 n].toArray w fun e w'=>∃q c vs,e = .returned (.slice q (bdS ad af n).length c)∧Hp B H0 H (mlt (RwK q c (bdS ad af n)) H vs::L) w':=(l03Bounds_c had haf hG hn hfit hH).mono fun e w' h=>by
 obtain ⟨H',q,c,hle,hI,hc,he,hH'⟩:=h
 obtain ⟨vs,h2⟩:=hH.melt (K:=RwK q c (bdS ad af n)) hH' hle ⟨hI,hc⟩
 exact ⟨q,c,vs,he,h2⟩
theorem l03Closed_c {B:World} {H0 H:HP} {L:List SA} {w:World} {qad qaf:Option Addr} {cad caf:Nat} {ad:List Int} {af:List (List Term)} {n:Int} (had:Ints H qad ad) (haf:Forms H qaf af) (hG:isAlg ad af=true) (hn:0≤n∧n≤40) (hfit:fit2 ad n) (hH:Hp B H0 H L w):Calls Tryz.prog 127 [.agg [.slice qad ad.length cad,.slice qaf af.length caf].toArray,.int .i64 n].toArray w fun e w'=>∃H' q c,Le H H' ∧RowsR H' q (clS ad af n)∧(clS ad af n).length≤c∧e = .returned (.slice q (clS ad af n).length c)∧Hp B H0 H' L w':=by
 refine Jz Tryz.func127 rfl 15 rfl rfl [(0,.agg [.slice qad ad.length cad,.slice qaf af.length caf].toArray),(1,.int .i64 n)] rfl hH ?_;have hw0:=hH.old;have hw1:=hH.le;clear hH;have hwf:=haf.wfss;have hA:=isAlg_ok hG hwf;have h8:=hA.hn;have hd:=alg_112 hG;have hml:=monL_len ad n;have hml1:=monL_len ad (n+1);have hmT1:=monT_L hfit.2;have hmlen:=matS_len ad af n;refine Je fun _ hK1 _=>(Jb (Ed rfl rfl rfl fun g2=>(Jg (Jd rfl) rfl (Jf (Ja (hK1 (Je fun _ hK2 _=>(El (Rs:=[_]) 11 [[], [], [0,1], [], [3], [], [5], [0,1,2,3,4,5,6], [0,1,2,3,4,5,6,7], [0,1,2,3,4,5,6,7,8], [0,1,2,3,4,5,6,7,8,9]] [[11], [], [], [], [11], [], [], [], [], [], []] [[], [], [], [], [], [], [], [], [], [2], []] rfl rfl (by kernel_rfl) ?_))))))));apply Jl 1 rfl
 iterate 3 focus (intros;(conv=>lhs;simp only [Jh,Jt,JN,Ju,JI,eq_self,Nat.reduceEqDiff,reduceIte,Nat.reduceSub,Nat.reduceAdd,List.cons_append,List.nil_append]);all_goals rfl)
 ·
  intro gh X K zq zc zq2 zc2 zb zv hK;refine Jg (Jx rfl At.z (by simpa [*] using ag35)) rfl (Ji ?_);exact hK zq zc zq2 zc2 zb zv
 ·
  intro gh gh' h
  rfl
 apply Jl 2 rfl
 iterate 3 focus (intros;(conv=>lhs;simp only [Jh,Jt,JN,Ju,JI,eq_self,Nat.reduceEqDiff,reduceIte,Nat.reduceSub,Nat.reduceAdd,List.cons_append,List.nil_append]);all_goals rfl)
 ·
  intro gh X K zq zc zq2 zc2 zb zv hK;refine Jg (Jc rfl) rfl (Ji ?_);exact hK zq zc zq2 zc2 zb zv
 ·
  intro gh gh' h
  rfl
 apply Ea 3 rfl
 iterate 3 focus (intros;(conv=>lhs;simp only [Jh,Jt,JN,Ju,JI,eq_self,Nat.reduceEqDiff,reduceIte,Nat.reduceSub,Nat.reduceAdd,List.cons_append,List.nil_append]);all_goals rfl)
 ·
  intro gh X K zq zc zq2 zc2 zb zv hK;refine Jw fn120 rfl rfl fun w hH=>(l03Matrix_m had haf hd h8 (by omega) hA hfit (hom_of hG hwf h8 hd (by omega) hfit) hH).mono ?_;rintro _ w ⟨qo7,co7,vso7,rfl,hH⟩;refine ⟨_,rfl,fun a hF=>JK hF hH ?_⟩;refine Ji ?_;exact hK qo7 co7 zq2 zc2 zb vso7
 ·
  intro gh gh' h;refine ⟨?_,?_⟩ <;> rfl
 apply Jl 4 rfl
 iterate 3 focus (intros;(conv=>lhs;simp only [Jh,Jt,JN,Ju,JI,eq_self,Nat.reduceEqDiff,reduceIte,Nat.reduceSub,Nat.reduceAdd,List.cons_append,List.nil_append]);all_goals rfl)
 ·
  intro gh X K zq zc zq2 zc2 zb zv hK;refine Jg (Jv u35 rfl sz22 rfl) rfl (Ji ?_);exact hK zq zc zq2 zc2 zb zv
 ·
  intro gh gh' h
  rfl
 apply Jl 5 rfl
 iterate 3 focus (intros;(conv=>lhs;simp only [Jh,Jt,JN,Ju,JI,eq_self,Nat.reduceEqDiff,reduceIte,Nat.reduceSub,Nat.reduceAdd,List.cons_append,List.nil_append]);all_goals rfl)
 ·
  intro gh X K zq zc zq2 zc2 zb zv hK;refine Jg (Jy rfl At.z rfl pl22) rfl (Ji ?_);exact hK zq zc zq2 zc2 zb zv
 ·
  intro gh gh' h
  rfl
 apply Jl 6 rfl
 iterate 3 focus (intros;(conv=>lhs;simp only [Jh,Jt,JN,Ju,JI,eq_self,Nat.reduceEqDiff,reduceIte,Nat.reduceSub,Nat.reduceAdd,List.cons_append,List.nil_append]);all_goals rfl)
 ·
  intro gh X K zq zc zq2 zc2 zb zv hK;refine Jg (Jc rfl) rfl (Ji ?_);exact hK zq zc zq2 zc2 zb zv
 ·
  intro gh gh' h
  rfl
 apply Jl 7 rfl
 iterate 3 focus (intros;(conv=>lhs;simp only [Jh,Jt,JN,Ju,JI,eq_self,Nat.reduceEqDiff,reduceIte,Nat.reduceSub,Nat.reduceAdd,List.cons_append,List.nil_append]);all_goals rfl)
 ·
  intro gh X K zq zc zq2 zc2 zb zv hK;refine Jg (JC rfl rfl (by first | exact nw _ (by omega) | rfl)) rfl (Ji ?_);exact hK zq zc zq2 zc2 zb zv
 ·
  intro gh gh' h
  rfl
 apply Ea 8 rfl
 iterate 3 focus (intros;(conv=>lhs;simp only [Jh,Jt,JN,Ju,JI,eq_self,Nat.reduceEqDiff,reduceIte,Nat.reduceSub,Nat.reduceAdd,List.cons_append,List.nil_append]);all_goals rfl)
 ·
  intro gh X K zq zc zq2 zc2 zb zv hK;refine Jw fn66 rfl rfl fun w hH=>(l01Monomials_c had hd h8 (by omega) hH).mono ?_;rintro _ w ⟨qo12,co12,rfl,hH⟩;refine ⟨_,rfl,fun a hF=>JK hF hH ?_⟩;refine Ji ?_;exact hK qo12 co12 zq2 zc2 zb zv
 ·
  intro gh gh' h;refine ⟨?_,?_⟩ <;> (first | simp only [h 2 rfl] | rfl)
 apply Jl 9 rfl
 iterate 3 focus (intros;(conv=>lhs;simp only [Jh,Jt,JN,Ju,JI,eq_self,Nat.reduceEqDiff,reduceIte,Nat.reduceSub,Nat.reduceAdd,List.cons_append,List.nil_append]);all_goals rfl)
 ·
  intro gh X K zq zc zq2 zc2 zb zv hK;refine Jg (EN (v':=.int .i64 (((monL ad (n+1)).length:Nat):Int)) (by rw [hmT1]) (Jn u88 rfl rfl)) rfl (Ji ?_);exact hK zq zc zq2 zc2 zb zv
 ·
  intro gh gh' h
  first | simp only [h 2 rfl,h 7 rfl] | rfl
 apply Ea 10 rfl
 iterate 3 focus (intros;(conv=>lhs;simp only [Jh,Jt,JN,Ju,JI,eq_self,Nat.reduceEqDiff,reduceIte,Nat.reduceSub,Nat.reduceAdd,List.cons_append,List.nil_append]);all_goals rfl)
 ·
  intro gh X K zq zc zq2 zc2 zb zv hK;refine Jw fn170 rfl rfl fun w hH=>(Hp.kerM (matS_ok hA h8 hd) (by omega) (hH.front .z)).mono ?_;rintro _ w ⟨qo14,co14,vso14,rfl,hH⟩;refine ⟨_,rfl,fun a hF=>JK hF hH ?_⟩;refine Ji ?_;exact hK qo14 co14 zq2 zc2 zb vso14
 ·
  intro gh gh' h;refine ⟨?_,?_⟩ <;> (first | simp only [h 2 rfl,h 7 rfl] | rfl)
 apply Jl 11 rfl
 iterate 3 focus (intros;(conv=>lhs;simp only [Jh,Jt,JN,Ju,JI,eq_self,Nat.reduceEqDiff,reduceIte,Nat.reduceSub,Nat.reduceAdd,List.cons_append,List.nil_append]);all_goals rfl)
 ·
  intro gh X K zq zc zq2 zc2 zb zv hK;refine Jg (Jd rfl) rfl (Ji ?_);exact hK zq zc zq2 zc2 zb zv
 ·
  intro gh gh' h
  first | simp only [h 2 rfl,h 7 rfl,h 9 rfl] | rfl
 apply Ej [0,1,2,3,4,5,6,7,8,9,10] [0,1,3,4,5,6,7,8,9,10,11] foll0 rfl rfl rfl (by rfl)
 iterate 2 focus (intros;(conv=>lhs;simp only [Jh,Jt,JN,Ju,JI,eq_self,Nat.reduceEqDiff,reduceIte,Nat.reduceSub,Nat.reduceAdd,List.cons_append,List.nil_append]);all_goals rfl)
 intro gh;generalize (gh 2).c=co7;generalize (gh 2).q=qo7;generalize (gh 2).vs=vso7;generalize (gh 7).c=co12;generalize (gh 7).q=qo12;generalize (gh 9).c=co14;generalize (gh 9).q=qo14;generalize (gh 9).vs=vso14;clear gh;refine EU (.s .z) fun Ho14 hleo14 hAo14=>?_;replace had:=had.le hleo14;replace haf:=haf.le hleo14;obtain ⟨hxo14,hco14⟩:=mlt_rows hleo14 hAo14;refine Ja (hK2 (Js (Jq rfl (Res.tmp rfl) fun w hH=>?_)));replace hH:=hH.tail;replace hH:=hH.tail;exact ⟨_,_,_,hleo14,hxo14,hco14,rfl,hH⟩
theorem l03Closed_m {B:World} {H0 H:HP} {L:List SA} {w:World} {qad qaf:Option Addr} {cad caf:Nat} {ad:List Int} {af:List (List Term)} {n:Int} (had:Ints H qad ad) (haf:Forms H qaf af) (hG:isAlg ad af=true) (hn:0≤n∧n≤40) (hfit:fit2 ad n) (hH:Hp B H0 H L w) :
 Calls Tryz.prog 127 [.agg [.slice qad ad.length cad,.slice qaf af.length caf].toArray,.int .i64 n].toArray w fun e w'=>∃q c vs,e = .returned (.slice q (clS ad af n).length c)∧Hp B H0 H (mlt (RwK q c (clS ad af n)) H vs::L) w':=(l03Closed_c had haf hG hn hfit hH).mono fun e w' h=>by
 obtain ⟨H',q,c,hle,hI,hc,he,hH'⟩:=h
 obtain ⟨vs,h2⟩:=hH.melt (K:=RwK q c (clS ad af n)) hH' hle ⟨hI,hc⟩
 exact ⟨q,c,vs,he,h2⟩
theorem fn111:Fn Tryz.prog 111:=⟨_,Tryz.func111,by kernel_rfl,rfl⟩
theorem fn127:Fn Tryz.prog 127:=⟨_,Tryz.func127,by kernel_rfl,rfl⟩
theorem fn75:Fn Tryz.prog 75:=⟨_,Tryz.func75,by kernel_rfl,rfl⟩
theorem csK_succ {ds:List Int} {fs:List (List Term)} {n:Int} {k:Nat} (hk:k<(clS ds fs n).length):redS (lfK ds fs n (k+1))=putS (redS (lfK ds fs n k)) (byS (rw_ (clS ds fs n) k) (bdS ds fs n)):=by
 unfold redS;rw [lfK_succ hk,List.foldl_append]
 rfl
theorem Hp.byM {B:World} {H0 H:HP} {L:List SA} {w:World} {q q2:Option Addr} {c c2 W:Nat} {row:List Int} {rs:List (List Int)} {vs:Vs} (hw:RowOk W row) (hW : ∀r∈rs,RowOk W r∧ldR r<W) (hn:rs.length≤1000000) (hWn:W≤1000000) (hH:Hp B H0 H (mlt (RwK q2 c2 rs) H vs::own 2 1 q row.length c (intsC row)::L) w) :
 Calls Tryz.prog 109 [.slice q row.length c,.slice q2 rs.length c2].toArray w fun e w'=>∃q c vs,e = .returned (.slice q (byS row rs).length c)∧Hp B H0 H (mlt (InK q c (byS row rs)) H vs::L) w':=
 hH.lend .z fun H1 hle hA _ hH1=>hH1.lend .z fun H2 hle2 hA2 _ hH2=>(l03By_c (crow:=c) (crs:=c2) (own_ints hA2) ((mlt_rows hle hA).1.le hle2) hw hW hn hWn (own_le hA2) hH2).mono fun e w' h=>by
  obtain ⟨H',q',c',hle',hI,hc,he,hH'⟩:=h
  obtain ⟨vs',h2⟩:=hH.melt (K:=InK q' c' (byS row rs)) hH' ((hle.trans hle2).trans hle') ⟨hI,hc⟩
  exact ⟨q',c',vs',he,h2⟩
theorem l03Classes_c {B:World} {H0 H:HP} {L:List SA} {w:World} {qad qaf:Option Addr} {cad caf:Nat} {ad:List Int} {af:List (List Term)} {n:Int} (had:Ints H qad ad) (haf:Forms H qaf af) (hG:isAlg ad af=true) (hn:0≤n∧n≤40) (hfit:fit3 ad n) (hH:Hp B H0 H L w):Calls Tryz.prog 75 [.agg [.slice qad ad.length cad,.slice qaf af.length caf].toArray,.int .i64 n].toArray w fun e w'=>∃H' q c,Le H H' ∧RowsR H' q (csS ad af n)∧(csS ad af n).length≤c∧e = .returned (.slice q (csS ad af n).length c)∧Hp B H0 H' L w':=by
 refine Jz Tryz.func75 rfl 31 rfl rfl [(0,.agg [.slice qad ad.length cad,.slice qaf af.length caf].toArray),(1,.int .i64 n)] rfl hH ?_;have hw0:=hH.old;have hw1:=hH.le;clear hH;have hwf:=haf.wfss;have hA:=isAlg_ok hG hwf;have h8:=hA.hn;have hd:=alg_112 hG;have hml:=monL_len ad n;have hml1:=monL_len ad (n+1);have hclR:=clS_red (n:=n) hA h8 hd;have hbdR:=bdS_red (n:=n) hA h8 hd;have hcll:=clS_len (n:=n) hA h8 hd;have hbdl:=bdS_len (n:=n) hA h8 hd;have hcsR:=csS_red (n:=n) hA h8 hd;have hcsl:=csS_len (n:=n) hA h8 hd;refine Je fun _ hK1 _=>(Jb (Ed rfl rfl rfl fun g2=>(Jg (Jd rfl) rfl (Jf (Ja (hK1 (Je fun _ hK2 _=>(El (Rs:=[_]) 10 [[], [], [0,1], [], [], [0,1,2,3,4], [], [0,1,2,3,4,5], [0,1,2,3,4,5,7], [0,1,2,3,4,5,6,7,8]] [[10], [], [], [10], [], [], [], [], [], []] [[], [], [], [], [], [], [], [], [], []] rfl rfl (by kernel_rfl) ?_))))))));apply Jl 1 rfl
 iterate 3 focus (intros;(conv=>lhs;simp only [Jh,Jt,JN,Ju,JI,eq_self,Nat.reduceEqDiff,reduceIte,Nat.reduceSub,Nat.reduceAdd,List.cons_append,List.nil_append]);all_goals rfl)
 ·
  intro gh X K zq zc zq2 zc2 zb zv hK;refine Jg (Jx rfl At.z (by simpa [*] using ag35)) rfl (Ji ?_);exact hK zq zc zq2 zc2 zb zv
 ·
  intro gh gh' h
  rfl
 apply Jl 2 rfl
 iterate 3 focus (intros;(conv=>lhs;simp only [Jh,Jt,JN,Ju,JI,eq_self,Nat.reduceEqDiff,reduceIte,Nat.reduceSub,Nat.reduceAdd,List.cons_append,List.nil_append]);all_goals rfl)
 ·
  intro gh X K zq zc zq2 zc2 zb zv hK;refine Jg (Jc rfl) rfl (Ji ?_);exact hK zq zc zq2 zc2 zb zv
 ·
  intro gh gh' h
  rfl
 apply Ea 3 rfl
 iterate 3 focus (intros;(conv=>lhs;simp only [Jh,Jt,JN,Ju,JI,eq_self,Nat.reduceEqDiff,reduceIte,Nat.reduceSub,Nat.reduceAdd,List.cons_append,List.nil_append]);all_goals rfl)
 ·
  intro gh X K zq zc zq2 zc2 zb zv hK;refine Jw fn127 rfl rfl fun w hH=>(l03Closed_m had haf hG (by omega) hfit.1 hH).mono ?_;rintro _ w ⟨qo11,co11,vso11,rfl,hH⟩;refine ⟨_,rfl,fun a hF=>JK hF hH ?_⟩;refine Ji ?_;exact hK qo11 co11 zq2 zc2 zb vso11
 ·
  intro gh gh' h;refine ⟨?_,?_⟩ <;> rfl
 apply Jl 4 rfl
 iterate 3 focus (intros;(conv=>lhs;simp only [Jh,Jt,JN,Ju,JI,eq_self,Nat.reduceEqDiff,reduceIte,Nat.reduceSub,Nat.reduceAdd,List.cons_append,List.nil_append]);all_goals rfl)
 ·
  intro gh X K zq zc zq2 zc2 zb zv hK;refine Jg (Jx rfl At.z (by simpa [*] using ag35)) rfl (Ji ?_);exact hK zq zc zq2 zc2 zb zv
 ·
  intro gh gh' h
  rfl
 apply Jl 5 rfl
 iterate 3 focus (intros;(conv=>lhs;simp only [Jh,Jt,JN,Ju,JI,eq_self,Nat.reduceEqDiff,reduceIte,Nat.reduceSub,Nat.reduceAdd,List.cons_append,List.nil_append]);all_goals rfl)
 ·
  intro gh X K zq zc zq2 zc2 zb zv hK;refine Jg (Jc rfl) rfl (Ji ?_);exact hK zq zc zq2 zc2 zb zv
 ·
  intro gh gh' h
  rfl
 apply Ea 6 rfl
 iterate 3 focus (intros;(conv=>lhs;simp only [Jh,Jt,JN,Ju,JI,eq_self,Nat.reduceEqDiff,reduceIte,Nat.reduceSub,Nat.reduceAdd,List.cons_append,List.nil_append]);all_goals rfl)
 ·
  intro gh X K zq zc zq2 zc2 zb zv hK;refine Jw fn111 rfl rfl fun w hH=>(l03Bounds_m had haf hG (by omega) (fun h=>⟨hfit.2 h,by rw [Int.sub_add_cancel];exact hfit.1.1⟩) hH).mono ?_;rintro _ w ⟨qo14,co14,vso14,rfl,hH⟩;refine ⟨_,rfl,fun a hF=>JK hF hH ?_⟩;refine Ji ?_;exact hK qo14 co14 zq2 zc2 zb vso14
 ·
  intro gh gh' h;refine ⟨?_,?_⟩ <;> (first | simp only [h 2 rfl] | rfl)
 apply Ea 7 rfl
 iterate 3 focus (intros;(conv=>lhs;simp only [Jh,Jt,JN,Ju,JI,eq_self,Nat.reduceEqDiff,reduceIte,Nat.reduceSub,Nat.reduceAdd,List.cons_append,List.nil_append]);all_goals rfl)
 ·
  intro gh X K zq zc zq2 zc2 zb zv hK;refine EH (EP u57 sz22) rfl fun qo15 co15=>(Ji ?_);exact hK qo15 co15 zq2 zc2 zb zv
 ·
  intro gh gh' h;refine ⟨?_,?_⟩ <;> rfl
 apply Jl 8 rfl
 iterate 3 focus (intros;(conv=>lhs;simp only [Jh,Jt,JN,Ju,JI,eq_self,Nat.reduceEqDiff,reduceIte,Nat.reduceSub,Nat.reduceAdd,List.cons_append,List.nil_append]);all_goals rfl)
 ·
  intro gh X K zq zc zq2 zc2 zb zv hK;refine Jg (Jd rfl) rfl (Ji ?_);exact hK zq zc zq2 zc2 zb zv
 ·
  intro gh gh' h
  first | simp only [h 2 rfl,h 5 rfl] | rfl
 apply Jl 9 rfl
 iterate 3 focus (intros;(conv=>lhs;simp only [Jh,Jt,JN,Ju,JI,eq_self,Nat.reduceEqDiff,reduceIte,Nat.reduceSub,Nat.reduceAdd,List.cons_append,List.nil_append]);all_goals rfl)
 ·
  intro gh X K zq zc zq2 zc2 zb zv hK;refine Jg (Jd rfl) rfl (Ji ?_);exact hK zq zc zq2 zc2 zb zv
 ·
  intro gh gh' h
  first | simp only [h 2 rfl,h 5 rfl] | rfl
 apply Jl 10 rfl
 iterate 3 focus (intros;(conv=>lhs;simp only [Jh,Jt,JN,Ju,JI,eq_self,Nat.reduceEqDiff,reduceIte,Nat.reduceSub,Nat.reduceAdd,List.cons_append,List.nil_append]);all_goals rfl)
 ·
  intro gh X K zq zc zq2 zc2 zb zv hK;refine Jg (Jd rfl) rfl (Ji ?_);exact hK zq zc zq2 zc2 zb zv
 ·
  intro gh gh' h
  first | simp only [h 2 rfl,h 5 rfl,h 6 rfl] | rfl
 apply Ej [0,1,2,3,4,5,6,7,8,9] [0,1,2,3,4,5,6,7,8,9,10] foll0 rfl rfl rfl (by rfl)
 iterate 2 focus (intros;(conv=>lhs;simp only [Jh,Jt,JN,Ju,JI,eq_self,Nat.reduceEqDiff,reduceIte,Nat.reduceSub,Nat.reduceAdd,List.cons_append,List.nil_append]);all_goals rfl)
 intro gh;generalize (gh 2).c=co11;generalize (gh 2).q=qo11;generalize (gh 2).vs=vso11;generalize (gh 5).c=co14;generalize (gh 5).q=qo14;generalize (gh 5).vs=vso14;generalize (gh 6).c=co15;generalize (gh 6).q=qo15;clear gh;have hnil:=SlF.nil H;refine EU .z fun Ho11 hleo11 hAo11=>?_;replace had:=had.le hleo11;replace haf:=haf.le hleo11;replace hnil:=hnil.le hleo11;obtain ⟨hxo11,hco11⟩:=mlt_rows hleo11 hAo11;refine EU .z fun Ho14 hleo14 hAo14=>?_;replace had:=had.le hleo14;replace haf:=haf.le hleo14;replace hnil:=hnil.le hleo14;replace hxo11:=hxo11.le hleo14;obtain ⟨hxo14,hco14⟩:=mlt_rows (hleo11.trans hleo14) hAo14;refine EU .z fun Ho15 hleo15 hAo15=>?_;replace had:=had.le hleo15;replace haf:=haf.le hleo15;replace hnil:=hnil.le hleo15;replace hxo11:=hxo11.le hleo15;replace hxo14:=hxo14.le hleo15;have hxo15:=hnil.rows (Le.refl _) hAo15;have hco15:=own_le hAo15;refine Ja (hK2 (Je fun _ hK3 _=>(Je fun _ hK4 _=>(Jb (Jg (Jd rfl) rfl (Jf (Ja (hK4 (Jm (JD (σ:=HP × Option Addr × Nat × Nat) (fun ⟨Hk,q,c,k⟩=>[(8,.int .i64 (k:Int)),(7,.slice q (redS (lfK ad af n k)).length c)]) (fun ⟨Hk,q,c,k⟩=>Hk) (fun ⟨Hk,q,c,k⟩=>obj g2 (.cells [.slice qad ad.length cad,.slice qaf af.length caf].toArray 35 (0,0))::L) (fun ⟨Hk,q,c,k⟩=>Le Ho15 Hk∧RowsR Hk q (redS (lfK ad af n k))∧(redS (lfK ad af n k)).length≤c∧k≤(clS ad af n).length) (fun ⟨Hk,q,c,k⟩=>(clS ad af n).length - k) (Ho15,qo15,co15,0) ⟨Le.refl _,hxo15,hco15,by omega⟩ ⟨rfl,⟨rfl,trivial⟩⟩ rfl rfl ?_))))))))));rintro ⟨Hk,q,c,k⟩ ⟨hlk,hS,hSc,hk⟩ _ hAg0;replace had:=had.le hlk;replace haf:=haf.le hlk;replace hnil:=hnil.le hlk;replace hxo11:=hxo11.le hlk;replace hxo14:=hxo14.le hlk;replace hxo15:=hxo15.le hlk;have hRk:=(redS_ok (lfK_ok (n:=n) (k:=k) hA h8 hd)).1;refine Je fun _ hK5 _=>(Je fun _ hK6 _=>(Jb (Jg (Jc rfl) rfl (Jg (Jc rfl) rfl (Jg (Jn u57 rfl rfl) rfl (Jg (JM rfl rfl) rfl (Jf (Ja (hK6 (Jp rfl (fun h19=>?_) (fun h19=>?_)))))))))))
 ·
  have hk1:k<(clS ad af n).length:=by omega
  have hrk:=hclR.row _ (rw_mem hk1);refine Jo (Ja (hK5 (Je fun _ hK7 _=>(Jm (Jb (Jg (Jc rfl) rfl (Jg (Jc rfl) rfl (Jg (Jc rfl) rfl (Jg (JO u57 sz22 rfl rfl rfl hk1 hxo11.sm) rfl ?_)))))))));obtain ⟨qe26,ce26,he26,le26,Fe26⟩:=hxo11 k hk1;refine Jg (JB rfl he26 pl22) rfl (Jg (Jc rfl) rfl (Jw fn109 rfl rfl fun w hH=>(l03By_c Fe26 hxo14 hrk hbdR.led (by omega) (by omega) le26 hH).mono ?_));rintro _ w ⟨Hf28,qf28,cf28,hlf28,hI28,hcc28,rfl,hH⟩;refine ⟨_,rfl,fun a hF=>JK hF hH ?_⟩;replace had:=had.le hlf28;replace haf:=haf.le hlf28;replace hnil:=hnil.le hlf28;replace hxo11:=hxo11.le hlf28;replace hxo14:=hxo14.le hlf28;replace hxo15:=hxo15.le hlf28;replace hS:=hS.le hlf28;replace Fe26:=Fe26.le hlf28;refine Jw fn128 rfl rfl fun w hH=>(l03Put_c hS hI28 hRk (byS_ok hrk hbdR.row) (by omega) hcc28 hSc hH).mono ?_;rintro _ w ⟨Hf29,qf29,cf29,hlf29,hI29,hcc29,rfl,hH⟩;refine ⟨_,rfl,fun a hF=>JK hF hH ?_⟩;replace had:=had.le hlf29;replace haf:=haf.le hlf29;replace hnil:=hnil.le hlf29;replace hxo11:=hxo11.le hlf29;replace hxo14:=hxo14.le hlf29;replace hxo15:=hxo15.le hlf29;replace hS:=hS.le hlf29;replace Fe26:=Fe26.le hlf29;replace hI28:=hI28.le hlf29;refine Jg (Jd rfl) rfl (Jf (JF (Ja (hK7 (Jb (Jg (Jc rfl) rfl (Jg (JC rfl rfl (by first | exact nw _ (by omega) | rfl)) rfl (Jg (Jd rfl) rfl (Jf (Ja ?_))))))))));exact hAg0 (Hf29,qf29,cf29,k+1) ⟨((hlk.trans hlf28).trans hlf29),by rw [csK_succ hk1];exact hI29,by rw [csK_succ hk1];exact hcc29,by omega⟩ (by show (clS ad af n).length - (k+1)<(clS ad af n).length - k;omega) 18 rfl rfl ⟨rfl,⟨(by rw [csK_succ hk1];rfl),trivial⟩⟩ rfl rfl
 ·
  refine JG (Jj (Jj (JP (Ja (hK3 (Je fun _ hK8 _=>(Jb (Jg (Jc rfl) rfl (Jg (Jd rfl) rfl (Jf (Ja (hK8 (Js (Jq rfl (Res.tmp rfl) fun w hH=>?_))))))))))))));replace hH:=hH.tail
  have hke:k=(clS ad af n).length:=by omega
  rw [lfK_end hke] at hS hSc;exact ⟨_,q,c,(((hleo11.trans hleo14).trans hleo15).trans hlk),hS,hSc,by rw [lfK_end hke],hH⟩
theorem l03Classes_m {B:World} {H0 H:HP} {L:List SA} {w:World} {qad qaf:Option Addr} {cad caf:Nat} {ad:List Int} {af:List (List Term)} {n:Int} (had:Ints H qad ad) (haf:Forms H qaf af) (hG:isAlg ad af=true) (hn:0≤n∧n≤40) (hfit:fit3 ad n) (hH:Hp B H0 H L w) :
 Calls Tryz.prog 75 [.agg [.slice qad ad.length cad,.slice qaf af.length caf].toArray,.int .i64 n].toArray w fun e w'=>∃q c vs,e = .returned (.slice q (csS ad af n).length c)∧Hp B H0 H (mlt (RwK q c (csS ad af n)) H vs::L) w':=(l03Classes_c had haf hG hn hfit hH).mono fun e w' h=>by
 obtain ⟨H',q,c,hle,hI,hc,he,hH'⟩:=h
 obtain ⟨vs,h2⟩:=hH.melt (K:=RwK q c (csS ad af n)) hH' hle ⟨hI,hc⟩
 exact ⟨q,c,vs,he,h2⟩
theorem cfR_ok {ds:List Int} {n:Int} {M:Int} {s:Sm} (hs:Sok M s):RowOk (monL ds n).length ((monL ds n).map (cf s)):=⟨by simp,fun k=>by
 by_cases hk:k<(monL ds n).length
 ·have e:((monL ds n).map (cf s)).getD k 0=cf s (monL ds n)[k]:=by simp [List.getD_eq_getElem?_getD,List.getElem?_eq_getElem hk]
  rw [e]
  exact cf_bd hs _
 ·rw [getD_ge (by simp;omega)]
  omega⟩
theorem vec_mon {ds:List Int} {n:Int} {M:Int} {f:List Term} (h8:ds.length≤8) (hf:Sok M (toS f)) (hi : ∀x∈toS f,x.1∈monL ds n):vec f (monL ds n)=(monL ds n).map (cf (toS f)):=vec_cf hf.srt (monL_srt ds n h8) hi
def clK (ds:List Int) (fs:List (List Term)) (n:Int) (v:List Int) (k:Nat):List Int:=((csS ds fs n).take k).map fun r=>(byS v (bdS ds fs n)).getD (ldR r) 0
theorem clK_succ {ds:List Int} {fs:List (List Term)} {n:Int} {v:List Int} {k:Nat} (hk:k<(csS ds fs n).length):clK ds fs n v (k+1)=clK ds fs n v k++[(byS v (bdS ds fs n)).getD (ldR (rw_ (csS ds fs n) k)) 0]:=by
 unfold clK;rw [rw_take hk,List.map_append]
 rfl
theorem clK_end {ds:List Int} {fs:List (List Term)} {n:Int} {v:List Int} {k:Nat} (hk:k=(csS ds fs n).length):clK ds fs n v k=clV ds fs n v:=by
 subst hk;unfold clK clV;rw [List.take_length]
theorem clK_len {ds:List Int} {fs:List (List Term)} {n:Int} {v:List Int} {k:Nat} (hk:k≤(csS ds fs n).length):(clK ds fs n v k).length=k:=by
 unfold clK;rw [List.length_map,List.length_take]
 omega
theorem clV_len (ds:List Int) (fs:List (List Term)) (n:Int) (v:List Int):(clV ds fs n v).length=(csS ds fs n).length:=by simp [clV]
theorem l03Class_c {B:World} {H0 H:HP} {L:List SA} {w:World} {qad qaf:Option Addr} {cad caf:Nat} {ad:List Int} {af:List (List Term)} {n:Int} {qts:Option Addr} {cts:Nat} {ts:List Term} {M:Int} (had:Ints H qad ad) (haf:Forms H qaf af) (hts:Terms H qts ts) (hG:isAlg ad af=true) (hn:0≤n∧n≤40) (hfit:fit3 ad n) (hfl:ts.length≤1000000) (hfs:Sok M (toS ts)) (hfi : ∀x∈toS ts,x.1∈monL ad n) (hH:Hp B H0 H L w):Calls Tryz.prog 69 [.agg [.slice qad ad.length cad,.slice qaf af.length caf].toArray,.int .i64 n,.agg [.slice qts ts.length cts].toArray].toArray w fun e w'=>∃q c,e = .returned (.slice q (clV ad af n ((monL ad n).map (cf (toS ts)))).length c)∧Hp B H0 H (own 2 1 q (clV ad af n ((monL ad n).map (cf (toS ts)))).length c (intsC (clV ad af n ((monL ad n).map (cf (toS ts)))))::L) w':=by
 refine Jz Tryz.func69 rfl 43 rfl rfl [(0,.agg [.slice qad ad.length cad,.slice qaf af.length caf].toArray),(1,.int .i64 n),(2,.agg [.slice qts ts.length cts].toArray)] rfl hH ?_;have hw0:=hH.old;have hw1:=hH.le;clear hH;have hwf:=haf.wfss;have hA:=isAlg_ok hG hwf;have h8:=hA.hn;have hd:=alg_112 hG;have hml:=monL_len ad n;have hml1:=monL_len ad (n+1);have hclR:=clS_red (n:=n) hA h8 hd;have hbdR:=bdS_red (n:=n) hA h8 hd;have hcll:=clS_len (n:=n) hA h8 hd;have hbdl:=bdS_len (n:=n) hA h8 hd;have hcsR:=csS_red (n:=n) hA h8 hd;have hcsl:=csS_len (n:=n) hA h8 hd;have hmT0:=monT_L hfit.1.1;have hv:=vec_mon h8 hfs hfi;have hvo:=cfR_ok (ds:=ad) (n:=n) hfs;have hbo:=byS_ok hvo hbdR.row;have hbl:=hbo.len;refine Je fun _ hK1 _=>(Jb (Ed rfl rfl rfl fun g3=>(Ed rfl rfl rfl fun g5=>(Jg (Jd rfl) rfl (Jf (Ja (hK1 (Je fun _ hK2 _=>(El (Rs:=[_,_]) 11 [[], [], [1], [], [1,2,3], [0,1,2,3,4], [], [], [0,1,2,3,4,5,6,7], [0,1,2,3,4,5,6,7,8], [0,1,2,3,4,5,6,7,8,9]] [[11], [], [12], [], [], [4], [12], [], [], [], []] [[], [], [], [], [], [], [], [], [], [5,8], []] rfl rfl (by kernel_rfl) ?_)))))))));apply Jl 1 rfl
 iterate 3 focus (intros;(conv=>lhs;simp only [Jh,Jt,JN,Ju,JI,eq_self,Nat.reduceEqDiff,reduceIte,Nat.reduceSub,Nat.reduceAdd,List.cons_append,List.nil_append]);all_goals rfl)
 ·
  intro gh X K zq zc zq2 zc2 zb zv hK;refine Jg (Jx rfl At.z (by simpa [*] using ag39)) rfl (Ji ?_);exact hK zq zc zq2 zc2 zb zv
 ·
  intro gh gh' h
  rfl
 apply Jl 2 rfl
 iterate 3 focus (intros;(conv=>lhs;simp only [Jh,Jt,JN,Ju,JI,eq_self,Nat.reduceEqDiff,reduceIte,Nat.reduceSub,Nat.reduceAdd,List.cons_append,List.nil_append]);all_goals rfl)
 ·
  intro gh X K zq zc zq2 zc2 zb zv hK;refine Jg (Jv u35 rfl sz22 rfl) rfl (Ji ?_);exact hK zq zc zq2 zc2 zb zv
 ·
  intro gh gh' h
  rfl
 apply Jl 3 rfl
 iterate 3 focus (intros;(conv=>lhs;simp only [Jh,Jt,JN,Ju,JI,eq_self,Nat.reduceEqDiff,reduceIte,Nat.reduceSub,Nat.reduceAdd,List.cons_append,List.nil_append]);all_goals rfl)
 ·
  intro gh X K zq zc zq2 zc2 zb zv hK;refine Jg (Jy rfl At.z rfl pl22) rfl (Ji ?_);exact hK zq zc zq2 zc2 zb zv
 ·
  intro gh gh' h
  rfl
 apply Jl 4 rfl
 iterate 3 focus (intros;(conv=>lhs;simp only [Jh,Jt,JN,Ju,JI,eq_self,Nat.reduceEqDiff,reduceIte,Nat.reduceSub,Nat.reduceAdd,List.cons_append,List.nil_append]);all_goals rfl)
 ·
  intro gh X K zq zc zq2 zc2 zb zv hK;refine Jg (Jc rfl) rfl (Ji ?_);exact hK zq zc zq2 zc2 zb zv
 ·
  intro gh gh' h
  rfl
 apply Ea 5 rfl
 iterate 3 focus (intros;(conv=>lhs;simp only [Jh,Jt,JN,Ju,JI,eq_self,Nat.reduceEqDiff,reduceIte,Nat.reduceSub,Nat.reduceAdd,List.cons_append,List.nil_append]);all_goals rfl)
 ·
  intro gh X K zq zc zq2 zc2 zb zv hK;refine Jw fn66 rfl rfl fun w hH=>(l01Monomials_c had hd h8 (by omega) hH).mono ?_;rintro _ w ⟨qo15,co15,rfl,hH⟩;refine ⟨_,rfl,fun a hF=>JK hF hH ?_⟩;refine Ji ?_;exact hK qo15 co15 zq2 zc2 zb zv
 ·
  intro gh gh' h;refine ⟨?_,?_⟩ <;> rfl
 apply Ea 6 rfl
 iterate 3 focus (intros;(conv=>lhs;simp only [Jh,Jt,JN,Ju,JI,eq_self,Nat.reduceEqDiff,reduceIte,Nat.reduceSub,Nat.reduceAdd,List.cons_append,List.nil_append]);all_goals rfl)
 ·
  intro gh X K zq zc zq2 zc2 zb zv hK;refine Jw fn110 rfl rfl fun w hH=>hH.lend .z fun Hl1 hle1 hA1 hB1 hH=>(l03Vector_c (hts.le hle1) (own_monos (monT_8 h8) hA1) (by rw [hmT0];omega) (by omega) (by rw [hmT0];exact monL_mn h8) hH).mono ?_;rintro _ w ⟨qo16,co16,rfl,hH⟩;replace hH:=hB1 _ _ hH;refine ⟨_,rfl,fun a hF=>JK hF hH ?_⟩;refine Jr .z (Jr (.s .z) (Ji ?_));exact hK qo16 co16 zq2 zc2 zb zv
 ·
  intro gh gh' h;refine ⟨?_,?_⟩ <;> (first | simp only [h 4 rfl] | rfl)
 apply Jl 7 rfl
 iterate 3 focus (intros;(conv=>lhs;simp only [Jh,Jt,JN,Ju,JI,eq_self,Nat.reduceEqDiff,reduceIte,Nat.reduceSub,Nat.reduceAdd,List.cons_append,List.nil_append]);all_goals rfl)
 ·
  intro gh X K zq zc zq2 zc2 zb zv hK;refine Jg (Jx rfl At.z (by simpa [*] using ag35)) rfl (Ji ?_);exact hK zq zc zq2 zc2 zb zv
 ·
  intro gh gh' h
  rfl
 apply Jl 8 rfl
 iterate 3 focus (intros;(conv=>lhs;simp only [Jh,Jt,JN,Ju,JI,eq_self,Nat.reduceEqDiff,reduceIte,Nat.reduceSub,Nat.reduceAdd,List.cons_append,List.nil_append]);all_goals rfl)
 ·
  intro gh X K zq zc zq2 zc2 zb zv hK;refine Jg (Jc rfl) rfl (Ji ?_);exact hK zq zc zq2 zc2 zb zv
 ·
  intro gh gh' h
  rfl
 apply Ea 9 rfl
 iterate 3 focus (intros;(conv=>lhs;simp only [Jh,Jt,JN,Ju,JI,eq_self,Nat.reduceEqDiff,reduceIte,Nat.reduceSub,Nat.reduceAdd,List.cons_append,List.nil_append]);all_goals rfl)
 ·
  intro gh X K zq zc zq2 zc2 zb zv hK;refine Jw fn111 rfl rfl fun w hH=>(l03Bounds_m had haf hG (by omega) (fun h=>⟨hfit.2 h,by rw [Int.sub_add_cancel];exact hfit.1.1⟩) hH).mono ?_;rintro _ w ⟨qo19,co19,vso19,rfl,hH⟩;refine ⟨_,rfl,fun a hF=>JK hF hH ?_⟩;refine Ji ?_;exact hK qo19 co19 zq2 zc2 zb vso19
 ·
  intro gh gh' h;refine ⟨?_,?_⟩ <;> (first | simp only [h 4 rfl,h 5 rfl] | rfl)
 apply Ea 10 rfl
 iterate 3 focus (intros;(conv=>lhs;simp only [Jh,Jt,JN,Ju,JI,eq_self,Nat.reduceEqDiff,reduceIte,Nat.reduceSub,Nat.reduceAdd,List.cons_append,List.nil_append]);all_goals rfl)
 ·
  intro gh X K zq zc zq2 zc2 zb zv hK;refine Jw fn109 rfl rfl fun w hH=>(Hp.byM (by rw [hmT0,hv];exact hvo) hbdR.led (by omega) (by omega) ((hH.front .z).front (.s .z))).mono ?_;rintro _ w ⟨qo20,co20,vso20,rfl,hH⟩;refine ⟨_,rfl,fun a hF=>JK hF hH ?_⟩;refine Ji ?_;exact hK qo20 co20 zq2 zc2 zb vso20
 ·
  intro gh gh' h;refine ⟨?_,?_⟩ <;> (first | simp only [h 4 rfl,h 5 rfl,h 8 rfl] | rfl)
 apply Jl 11 rfl
 iterate 3 focus (intros;(conv=>lhs;simp only [Jh,Jt,JN,Ju,JI,eq_self,Nat.reduceEqDiff,reduceIte,Nat.reduceSub,Nat.reduceAdd,List.cons_append,List.nil_append]);all_goals rfl)
 ·
  intro gh X K zq zc zq2 zc2 zb zv hK;refine Jg (Jd rfl) rfl (Ji ?_);exact hK zq zc zq2 zc2 zb zv
 ·
  intro gh gh' h
  first | simp only [h 4 rfl,h 5 rfl,h 8 rfl,h 9 rfl] | rfl
 apply Ej [0,1,2,3,4,5,6,7,8,9,10] [0,1,2,3,4,6,7,9,10,11,12] foll0 rfl rfl rfl (by rfl)
 iterate 2 focus (intros;(conv=>lhs;simp only [Jh,Jt,JN,Ju,JI,eq_self,Nat.reduceEqDiff,reduceIte,Nat.reduceSub,Nat.reduceAdd,List.cons_append,List.nil_append]);all_goals rfl)
 intro gh;generalize (gh 4).c=co15;generalize (gh 4).q=qo15;generalize (gh 5).c=co16;generalize (gh 5).q=qo16;generalize (gh 8).c=co19;generalize (gh 8).q=qo19;generalize (gh 8).vs=vso19;generalize (gh 9).c=co20;generalize (gh 9).q=qo20;generalize (gh 9).vs=vso20;clear gh;refine EU .z fun Ho15 hleo15 hAo15=>?_;replace had:=had.le hleo15;replace haf:=haf.le hleo15;replace hts:=hts.le hleo15;have hxo15:=own_monos (monT_8 h8) hAo15;have hco15:=own_le hAo15;refine EU .z fun Ho20 hleo20 hAo20=>?_;replace had:=had.le hleo20;replace haf:=haf.le hleo20;replace hts:=hts.le hleo20;replace hxo15:=hxo15.le hleo20;obtain ⟨hxo20,hco20⟩:=mlt_ints (hleo15.trans hleo20) hAo20;rw [hmT0,hv] at hxo20 hco20 ⊢;refine Ja (hK2 (Je fun _ hK3 _=>(Jb (Jg (Jx rfl (.s .z) (by simpa [*] using ag35)) rfl (Jg (Jc rfl) rfl (Jw fn75 rfl rfl fun w hH=>(l03Classes_c had haf hG (by omega) hfit hH).mono ?_))))));rintro _ w ⟨Hf23,qf23,cf23,hlf23,hI23,hcc23,rfl,hH⟩;refine ⟨_,rfl,fun a hF=>JK hF hH ?_⟩;replace had:=had.le hlf23;replace haf:=haf.le hlf23;replace hts:=hts.le hlf23;replace hxo15:=hxo15.le hlf23;replace hxo20:=hxo20.le hlf23;refine EH (MK.lit0I u22 sz2) rfl fun qo24 co24=>(Jg (Jd rfl) rfl (Jg (Jd rfl) rfl (Jf (Ja (hK3 (Je fun _ hK4 _=>(Je fun _ hK5 _=>(Jb (Jg (Jd rfl) rfl (Jf (Ja (hK5 (Jm (JD (σ:=Option Addr × Nat × Nat) (fun ⟨q,c,k⟩=>[(10,.int .i64 (k:Int)),(9,.slice q (clK ad af n ((monL ad n).map (cf (toS ts))) k).length c)]) (fun ⟨q,c,k⟩=>Hf23) (fun ⟨q,c,k⟩=>own 2 1 q (clK ad af n ((monL ad n).map (cf (toS ts))) k).length c (intsC (clK ad af n ((monL ad n).map (cf (toS ts))) k))::obj g5 (.cells [.slice qts ts.length cts].toArray 39 (0,0))::obj g3 (.cells [.slice qad ad.length cad,.slice qaf af.length caf].toArray 35 (0,0))::L) (fun ⟨q,c,k⟩=>k≤(csS ad af n).length) (fun ⟨q,c,k⟩=>(csS ad af n).length - k) (qo24,co24,0) (by show 0≤_;omega) ⟨rfl,⟨rfl,trivial⟩⟩ rfl rfl ?_))))))))))))));rintro ⟨q,c,k⟩ hk _ hAg0;have hckl:=clK_len (v:=((monL ad n).map (cf (toS ts)))) hk;refine Je fun _ hK6 _=>(Je fun _ hK7 _=>(Jb (Jg (Jc rfl) rfl (Jg (Jc rfl) rfl (Jg (Jn u57 rfl rfl) rfl (Jg (JM rfl rfl) rfl (Jf (Ja (hK7 (Jp rfl (fun h28=>?_) (fun h28=>?_)))))))))))
 ·
  have hk1:k<(csS ad af n).length:=by omega
  have hrk:=hcsR.led _ (rw_mem hk1);have hrl:=hrk.1.len;have hld:=idxOf_ld (r:=rw_ (csS ad af n) k) (by omega);have hrle:=hrk.2;refine Jo (Ja (hK6 (Je fun _ hK8 _=>(Jm (Jb (Jg (Jc rfl) rfl (Jg (Jc rfl) rfl (Jg (Jc rfl) rfl (Jg (Jc rfl) rfl (Jg (JO u57 sz22 rfl rfl rfl hk1 hI23.sm) rfl ?_))))))))));obtain ⟨qe36,ce36,he36,le36,Fe36⟩:=hI23 k hk1;refine Jg (JB rfl he36 pl22) rfl (Jw fn108 rfl rfl fun w hH=>(l03First_c Fe36 (by omega) hH).mono ?_);rintro _ w ⟨rfl,hH⟩;refine ⟨_,rfl,fun a hF=>JK hF hH ?_⟩;rw [hld];refine Jg (JO u22 sz2 rfl rfl rfl (by omega) hxo20.sm) rfl (Jg (JB rfl (hxo20 _ (by omega)) pl2) rfl (EH (MK.lit1I u22 ze2 sz2 rfl) rfl fun qo40 co40=>(J.appendOI u22 ze2 sz2 by2 rfl rfl (by simp only [List.length_cons,List.length_nil];omega) .z At.z (fun _ _=>At.z) rfl fun qo41 co41=>(Jg (Jd rfl) rfl (Jf (JF (Ja (hK8 (Jb (Jg (Jc rfl) rfl (Jg (JC rfl rfl (by first | exact nw _ (by omega) | rfl)) rfl (Jg (Jd rfl) rfl (Jf (Ja (JL .z ?_)))))))))))))));exact hAg0 (qo41,co41,k+1) (by show k+1≤_;omega) (by show (csS ad af n).length - (k+1)<(csS ad af n).length - k;omega) 21 rfl rfl ⟨rfl,⟨(by rw [clK_succ hk1];rfl),trivial⟩⟩ rfl (by dsimp only;rw [clK_succ hk1])
 ·
  refine JG (Jj (Jj (JP (Ja (hK4 (Je fun _ hK9 _=>(Jb (Jg (Jc rfl) rfl (Jg (Jd rfl) rfl (Jf (Ja (hK9 (Js (Jq rfl (Res.tmp rfl) fun w hH=>?_))))))))))))));replace hH:=hH.sublist (.cons_cons _ (.cons _ (.cons _ (List.Sublist.refl _))))
  have hke:k=(csS ad af n).length:=by omega
  rw [clK_end hke] at hH ⊢;exact ⟨_,_,rfl,hH.weaken ((hleo15.trans hleo20).trans hlf23) hw0 hw1⟩
theorem fn68:Fn Tryz.prog 68:=⟨_,Tryz.func68,by kernel_rfl,rfl⟩
theorem bd172_0_1 : ∀(p0:Option Addr) (b1:Nat) w,(Instr.build 172 #[(0,.pointer p0),(1,.map (some b1))]).run Tryz.prog w = .ok (.agg [.pointer p0,.map (some b1)].toArray) w:=fun p0 b1 _=>by kernel_rfl
theorem lvO_cell : ∀{ls:List (Int × Lv)} {x:Int × Lv} {h:HP},x∈ls→(lvO ls).holds h→(lvB x.2).holds h
 | [],_,_,hx,_=>by simp at hx
 | y::ls,x,h,hx,hh=>by
  rcases List.mem_cons.1 hx with rfl | hx
  ·exact hh.1
  ·exact lvO_cell hx hh.2.1
theorem cpx_cell {lb:Nat} {ls:List (Int × Lv)} {n:Int} {x:Lv} {h:HP} {k:Nat} {v:Value} (hx:(n,x)∈ls) (hh:(cpx lb ls).holds h) (hk:x.cells[k]? = some v):cellO h (some ⟨x.b,0,none⟩) k=some v:=obj_cell (lvO_cell hx hh.2.1) hk
section
variable {P : Program} {ops : Array Oper} {Q : Exit → Act → World → Prop} {n : Nat} {B : World} {H0 H : HP} {rest : List Oper} {us : List (Nat × Value)} {L L' : List SA} {t : TypeId} {p : String} {af : Array Edge} {d : Nat} {x y : Operand}
theorem PR.loadCx {ty:TypeId} {lb k b:Nat} {ls:List (Int × Lv)} {m:Int} {lv:Lv} {v:Value} (hx:opv us x=some (ptr (some ⟨b,0,none⟩) k)) (hat:At L (cpx lb ls) (cpx lb ls) L) (hm:(m,lv)∈ls) (hb:lv.b=b) (hk:lv.cells[k]? = some v) (hp:Plain P ty):PR P n B H0 us H L (.load ty x) t v:=
 fun c' w' d' b' a w hF hH=>by
  subst hb
  exact JB (H:=G.hp w) (L:=[]) (B:=w) (H0:=G.hp w) hx (cpx_cell hm (hH.objs _ hat.mem).1 hk) hp c' w' d' b' a w hF (Hp.start fun _ _ h=>h)
end
theorem Hp.cpx0 {B:World} {H0 H:HP} {L:List SA} {w:World} {lb:Nat} (h:Hp B H0 H (lvM lb []::L) w):Hp B H0 H (cpx lb []::L) w:=(h.emp.front (.s .z)).star
theorem monL_pok {ds:List Int} {n:Int} (h8:ds.length≤8) : ∀p∈monL ds n,Pok 20 p:=fun p hp=>mon_pok h8 (List.mem_of_mem_take hp)
theorem newComplex_c {B:World} {H0 H:HP} {L:List SA} {w:World} {ba:Nat} {qad qaf:Option Addr} {cad caf:Nat} {ad:List Int} {af:List (List Term)} (pad:CellAt H ba 0 (.slice qad ad.length cad)) (paf:CellAt H ba 1 (.slice qaf af.length caf)) (had:Ints H qad ad) (haf:Forms H qaf af) (hH:Hp B H0 H L w):Calls Tryz.prog 83 [.pointer (some ⟨ba,0,none⟩)].toArray w fun e w'=>∃H' b lc,Le H H' ∧CellAt H' b 0 (.pointer (some ⟨ba,0,none⟩))∧CellAt H' b 1 (.map (some lc))∧e = .returned (.pointer (some ⟨b,0,none⟩))∧Hp B H0 H' (cpx lc []::L) w':=by
 refine Jz Tryz.func83 rfl 7 rfl rfl [(0,.pointer (some ⟨ba,0,none⟩))] rfl hH ?_;clear hH;refine Je fun _ hK1 _=>(Jb (Jg (Jd rfl) rfl (Jf (Ja (hK1 (Je fun _ hK2 _=>(Jb (Jg (Jc rfl) rfl (EI ekI evB okI rfl fun bm4=>(Jg (EV rfl rfl (fun w=>bd172_0_1 _ _ w)) rfl (Ed rfl rfl rfl fun g6=>(EQ .z fun H6 hle6 hc6=>?_))))))))))));replace pad:=pad.le hle6;replace paf:=paf.le hle6;replace had:=had.le hle6;replace haf:=haf.le hle6;refine Jg (Jd rfl) rfl (Jf (Ja (hK2 (Js (Jq rfl (Res.tmp rfl) fun w hH=>?_)))));replace hH:=hH.sublist (.cons_cons _ (List.Sublist.refl _));exact ⟨_,_,_,hle6,hc6 0 _ rfl,hc6 1 _ rfl,rfl,hH.cpx0⟩
theorem class_c {B:World} {H0 H:HP} {L:List SA} {w:World} {bc lc:Nat} {bca:Nat} {qcad qcaf:Option Addr} {ccad ccaf:Nat} {cad:List Int} {caf:List (List Term)} {lsc:List (Int × Lv)} {n:Int} {vs:Value} {Ms:Int} {s:Sm} (pc0:CellAt H bc 0 (.pointer (some ⟨bca,0,none⟩))) (pc1:CellAt H bc 1 (.map (some lc))) (pcad:CellAt H bca 0 (.slice qcad cad.length ccad)) (pcaf:CellAt H bca 1 (.slice qcaf caf.length ccaf)) (hcad:Ints H qcad cad) (hcaf:Forms H qcaf caf) (hs:SumH H vs s) (ks:Sok Ms s) (hGc:isAlg cad caf=true) (hn:0≤n∧n≤39) (hfit:fit3 cad n) (hCc:CpxOk H cad caf (fun _=>False) lsc) (hNc:Nxt (fun _=>False) lsc) (hM:Ms≤1000000) (hin : ∀x∈s,x.1∈monL cad n) (hH:Hp B H0 H (cpx lc lsc::L) w):Calls Tryz.prog 70 [.pointer (some ⟨bc,0,none⟩),.int .i64 n,vs].toArray w fun e w'=>∃H' ls' q c,Le H H' ∧CpxOk H' cad caf (fun _=>False) ls' ∧Nxt (fun _=>False) ls' ∧Kp lsc ls' ∧e = .returned (.slice q (clV cad caf n ((monL cad n).map (cf s))).length c)∧Hp B H0 H' (own 2 1 q (clV cad caf n ((monL cad n).map (cf s))).length c (intsC (clV cad caf n ((monL cad n).map (cf s))))::cpx lc ls'::L) w':=by
 refine Jz Tryz.func70 rfl 43 rfl rfl [(0,.pointer (some ⟨bc,0,none⟩)),(1,.int .i64 n),(2,vs)] rfl hH ?_;clear hH;have hwc:=hcaf.wfss;have hAc:=isAlg_ok hGc hwc;have h8c:=hAc.hn;have hdc:=alg_112 hGc;have hml:=monL_len cad n;have hcsR:=csS_red (n:=n) hAc h8c hdc;have hcsl:=csS_len (n:=n) hAc h8c hdc;have hbdR:=bdS_red (n:=n) hAc h8c hdc;have hbdl:=bdS_len (n:=n) hAc h8c hdc;have hclR:=clS_red (n:=n) hAc h8c hdc;have hcll:=clS_len (n:=n) hAc h8c hdc;have hvo:=cfR_ok (ds:=cad) (n:=n) ks;have hbo:=byS_ok hvo hbdR.row;have hbl:=hbo.len;refine Je fun _ hK1 _=>(Jb (Jg (Jd rfl) rfl (Jf (Ja (hK1 (Je fun _ hK2 _=>(Jb (Jg (Jc rfl) rfl (Jg (Jc rfl) rfl (Jw fn68 rfl rfl fun w hH=>(at_c pc0 pc1 pcad pcaf hcad hcaf hdc h8c (by omega) hAc hfit (fun m hm hf=>hom_of hGc hwc h8c hdc (by omega) hf) hCc hNc (hH.front .z)).mono ?_))))))))));rintro _ w ⟨Hf14,ls14,⟨b14,p14,⟨ql14,kl14,cl14⟩,⟨qm14,km14,cm14⟩,⟨qz14,kz14,cz14⟩,⟨qy14,ky14,cy14⟩,⟨qx14,kx14,cx14⟩⟩,hlf14,hC14,hN14,hx14,⟨hL14,hM14,hkp14⟩,rfl,hH⟩;refine ⟨_,rfl,fun a hF=>JK hF hH ?_⟩;replace pc0:=pc0.le hlf14;replace pc1:=pc1.le hlf14;replace pcad:=pcad.le hlf14;replace pcaf:=pcaf.le hlf14;replace hcad:=hcad.le hlf14;replace hcaf:=hcaf.le hlf14;replace hs:=hs.le hlf14;replace hCc:=hCc.le hlf14;obtain rfl:kl14=(monL cad (n)).length:=(hC14.ok _ hx14).one.len;have hpw14:Pows Hf14 ql14 (monL cad (n)):=(hC14.ok _ hx14).one.pw;have hpl14:SumH Hf14 (.map (some p14)) (plM (monL cad (n))):=(hC14.ok _ hx14).one.pl;obtain ⟨⟨e1,hz14⟩,⟨e2,hb14⟩,e3,hs14⟩:(kz14=(clS cad caf (n)).length∧RowsR Hf14 qz14 (clS cad caf (n)))∧(ky14=(bdS cad caf (n)).length∧RowsR Hf14 qy14 (bdS cad caf (n)))∧kx14=(csS cad caf (n)).length∧RowsR Hf14 qx14 (csS cad caf (n)):=hL14;subst e1 e2 e3;refine Jg (Jd rfl) rfl (Jf (Ja (hK2 (Je fun _ hK3 _=>(El (Rs:=[_]) 11 [[], [], [0,1], [], [3], [3,4], [3,4,5], [0,1,2,3,4,5,6], [], [0,1,2,3,4,5,6,7], [0,1,2,3,4,5,6,7,8,9]] [[], [], [11], [], [], [], [11], [2], [], [], []] [[], [], [], [], [], [], [], [], [], [], []] rfl rfl (by kernel_rfl) ?_)))));apply Jl 1 rfl
 iterate 3 focus (intros;(conv=>lhs;simp only [Jh,Jt,JN,Ju,JI,eq_self,Nat.reduceEqDiff,reduceIte,Nat.reduceSub,Nat.reduceAdd,List.cons_append,List.nil_append]);all_goals rfl)
 ·
  intro gh X K zq zc zq2 zc2 zb zv hK;refine Jg (Jc rfl) rfl (Ji ?_);exact hK zq zc zq2 zc2 zb zv
 ·
  intro gh gh' h
  rfl
 apply Jl 2 rfl
 iterate 3 focus (intros;(conv=>lhs;simp only [Jh,Jt,JN,Ju,JI,eq_self,Nat.reduceEqDiff,reduceIte,Nat.reduceSub,Nat.reduceAdd,List.cons_append,List.nil_append]);all_goals rfl)
 ·
  intro gh X K zq zc zq2 zc2 zb zv hK;refine Jg (Jc rfl) rfl (Ji ?_);exact hK zq zc zq2 zc2 zb zv
 ·
  intro gh gh' h
  rfl
 apply Ea 3 rfl
 iterate 3 focus (intros;(conv=>lhs;simp only [Jh,Jt,JN,Ju,JI,eq_self,Nat.reduceEqDiff,reduceIte,Nat.reduceSub,Nat.reduceAdd,List.cons_append,List.nil_append]);all_goals rfl)
 ·
  intro gh X K zq zc zq2 zc2 zb zv hK;refine Jw fn117 rfl rfl fun w hH=>hH.lend .z fun Hl1 hle1 hA1 hB1 hH=>(row_c (cpx_cell hx14 hA1 rfl) (cpx_cell hx14 hA1 rfl) (hs.le hle1) ks (hpw14.le hle1) (hpl14.le hle1) (monL_nodup h8c _) (by omega) hin (by omega) hH).mono ?_;rintro _ w ⟨qo17,co17,rfl,hH⟩;replace hH:=hB1 _ _ hH;refine ⟨_,rfl,fun a hF=>JK hF hH ?_⟩;refine Jr .z (Jr (.s .z) (Ji ?_));exact hK qo17 co17 zq2 zc2 zb zv
 ·
  intro gh gh' h;refine ⟨?_,?_⟩ <;> rfl
 apply Jl 4 rfl
 iterate 3 focus (intros;(conv=>lhs;simp only [Jh,Jt,JN,Ju,JI,eq_self,Nat.reduceEqDiff,reduceIte,Nat.reduceSub,Nat.reduceAdd,List.cons_append,List.nil_append]);all_goals rfl)
 ·
  intro gh X K zq zc zq2 zc2 zb zv hK;refine Jg (Jc rfl) rfl (Ji ?_);exact hK zq zc zq2 zc2 zb zv
 ·
  intro gh gh' h
  rfl
 apply Jl 5 rfl
 iterate 3 focus (intros;(conv=>lhs;simp only [Jh,Jt,JN,Ju,JI,eq_self,Nat.reduceEqDiff,reduceIte,Nat.reduceSub,Nat.reduceAdd,List.cons_append,List.nil_append]);all_goals rfl)
 ·
  intro gh X K zq zc zq2 zc2 zb zv hK;refine Jg (JH rfl) rfl (Ji ?_);exact hK zq zc zq2 zc2 zb zv
 ·
  intro gh gh' h
  rfl
 apply Jl 6 rfl
 iterate 3 focus (intros;(conv=>lhs;simp only [Jh,Jt,JN,Ju,JI,eq_self,Nat.reduceEqDiff,reduceIte,Nat.reduceSub,Nat.reduceAdd,List.cons_append,List.nil_append]);all_goals rfl)
 ·
  intro gh X K zq zc zq2 zc2 zb zv hK;refine Jg (Jv u95 rfl sz57 rfl) rfl (Ji ?_);exact hK zq zc zq2 zc2 zb zv
 ·
  intro gh gh' h
  rfl
 apply Jl 7 rfl
 iterate 3 focus (intros;(conv=>lhs;simp only [Jh,Jt,JN,Ju,JI,eq_self,Nat.reduceEqDiff,reduceIte,Nat.reduceSub,Nat.reduceAdd,List.cons_append,List.nil_append]);all_goals rfl)
 ·
  intro gh X K zq zc zq2 zc2 zb zv hK;refine Jg (PR.loadCx (b:=b14) (k:=4) (v:=.slice qy14 (bdS cad caf (n)).length cy14) rfl At.z hx14 rfl rfl pl57) rfl (Ji ?_);exact hK zq zc zq2 zc2 zb zv
 ·
  intro gh gh' h
  rfl
 apply Ea 8 rfl
 iterate 3 focus (intros;(conv=>lhs;simp only [Jh,Jt,JN,Ju,JI,eq_self,Nat.reduceEqDiff,reduceIte,Nat.reduceSub,Nat.reduceAdd,List.cons_append,List.nil_append]);all_goals rfl)
 ·
  intro gh X K zq zc zq2 zc2 zb zv hK;refine Jw fn116 rfl rfl fun w hH=>hH.lend .z fun Hl1 hle1 hA1 hB1 hH=>(reduceBy_c (own_ints hA1) (hb14.le hle1) (hvo) hbdR.led (by omega) (by omega) hH).mono ?_;rintro _ w ⟨qo22,co22,rfl,hH⟩;replace hH:=hB1 _ _ hH;refine ⟨_,rfl,fun a hF=>JK hF hH ?_⟩;refine Jr .z (Jr (.s .z) (Ji ?_));exact hK qo22 co22 zq2 zc2 zb zv
 ·
  intro gh gh' h;refine ⟨?_,?_⟩ <;> (first | simp only [h 2 rfl] | rfl)
 apply Ea 9 rfl
 iterate 3 focus (intros;(conv=>lhs;simp only [Jh,Jt,JN,Ju,JI,eq_self,Nat.reduceEqDiff,reduceIte,Nat.reduceSub,Nat.reduceAdd,List.cons_append,List.nil_append]);all_goals rfl)
 ·
  intro gh X K zq zc zq2 zc2 zb zv hK;refine EH (MK.lit0I u22 sz2) rfl fun qo23 co23=>(Ji ?_);exact hK qo23 co23 zq2 zc2 zb zv
 ·
  intro gh gh' h;refine ⟨?_,?_⟩ <;> rfl
 apply Jl 10 rfl
 iterate 3 focus (intros;(conv=>lhs;simp only [Jh,Jt,JN,Ju,JI,eq_self,Nat.reduceEqDiff,reduceIte,Nat.reduceSub,Nat.reduceAdd,List.cons_append,List.nil_append]);all_goals rfl)
 ·
  intro gh X K zq zc zq2 zc2 zb zv hK;refine Jg (Jd rfl) rfl (Ji ?_);exact hK zq zc zq2 zc2 zb zv
 ·
  intro gh gh' h
  first | simp only [h 2 rfl,h 7 rfl] | rfl
 apply Jl 11 rfl
 iterate 3 focus (intros;(conv=>lhs;simp only [Jh,Jt,JN,Ju,JI,eq_self,Nat.reduceEqDiff,reduceIte,Nat.reduceSub,Nat.reduceAdd,List.cons_append,List.nil_append]);all_goals rfl)
 ·
  intro gh X K zq zc zq2 zc2 zb zv hK;refine Jg (Jd rfl) rfl (Ji ?_);exact hK zq zc zq2 zc2 zb zv
 ·
  intro gh gh' h
  first | simp only [h 2 rfl,h 7 rfl,h 8 rfl] | rfl
 apply Ej [0,1,2,3,4,5,6,7,8,9,10] [0,1,2,3,4,5,6,7,8,9,10,11] foll0 rfl rfl rfl (by rfl)
 iterate 2 focus (intros;(conv=>lhs;simp only [Jh,Jt,JN,Ju,JI,eq_self,Nat.reduceEqDiff,reduceIte,Nat.reduceSub,Nat.reduceAdd,List.cons_append,List.nil_append]);all_goals rfl)
 intro gh;generalize (gh 2).c=co17;generalize (gh 2).q=qo17;generalize (gh 7).c=co22;generalize (gh 7).q=qo22;generalize (gh 8).c=co23;generalize (gh 8).q=qo23;clear gh;refine Ja (hK3 (Je fun _ hK4 _=>(Je fun _ hK5 _=>(Jb (Jg (Jc rfl) rfl (Jg (JH rfl) rfl (Jg (Jv u95 rfl sz57 rfl) rfl (Jg (PR.loadCx (b:=b14) (k:=5) (v:=.slice qx14 (csS cad caf (n)).length cx14) rfl (.s (.s (.s .z))) hx14 rfl rfl pl57) rfl (Jg (Jn u57 rfl rfl) rfl (Jg (Jc rfl) rfl (Jf (Ja (hK5 (Jm (JD (σ:=Option Addr × Nat × Nat) (fun ⟨q,c,k⟩=>[(29,.int .i64 (k:Int)),(9,.slice q (clK cad caf n ((monL cad n).map (cf s)) k).length c)]) (fun ⟨q,c,k⟩=>Hf14) (fun ⟨q,c,k⟩=>own 2 1 qo17 ((monL cad n).map (cf s)).length co17 (intsC ((monL cad n).map (cf s)))::own 2 1 qo22 (byS ((monL cad n).map (cf s)) (bdS cad caf n)).length co22 (intsC (byS ((monL cad n).map (cf s)) (bdS cad caf n)))::own 2 1 q (clK cad caf n ((monL cad n).map (cf s)) k).length c (intsC (clK cad caf n ((monL cad n).map (cf s)) k))::cpx lc ls14::L) (fun ⟨q,c,k⟩=>k≤(csS cad caf n).length) (fun ⟨q,c,k⟩=>(csS cad caf n).length - k) (qo23,co23,0) (by show 0≤_;omega) ⟨rfl,⟨rfl,trivial⟩⟩ rfl rfl ?_)))))))))))))));rintro ⟨q,c,k⟩ hk _ hAg0;have hckl:=clK_len (ds:=cad) (fs:=caf) (v:=((monL cad n).map (cf s))) hk;refine Je fun _ hK6 _=>(Jb (Jg (JM rfl rfl) rfl (Jf (Ja (hK6 (Je fun _ hK7 _=>(Jp rfl (fun h30=>?_) (fun h30=>?_))))))))
 ·
  have hk1:k<(csS cad caf n).length:=by omega
  have hrk:=hcsR.led _ (rw_mem hk1);have hrl:=hrk.1.len;have hld:=idxOf_ld (r:=rw_ (csS cad caf n) k) (by omega);have hrle:=hrk.2;refine Jo (Ja (hK7 (Je fun _ hK8 _=>(Jm (Je fun _ hK9 _=>(Jb (Jg (JO u57 sz22 rfl rfl rfl hk1 hs14.sm) rfl ?_)))))));obtain ⟨qe32,ce32,he32,le32,Fe32⟩:=hs14 k hk1;refine Jg (JB rfl he32 pl22) rfl (Jg (Jd rfl) rfl (Jf (Ja (hK9 (Jb (Jg (Jc rfl) rfl (Jg (Jc rfl) rfl (Jg (Jc rfl) rfl (Jw fn125 rfl rfl fun w hH=>(lead_c Fe32 (by omega) hH).mono ?_)))))))));rintro _ w ⟨rfl,hH⟩;refine ⟨_,rfl,fun a hF=>JK hF hH ?_⟩;rw [hld];refine Jg (Ey u22 sz2 rfl rfl rfl (by omega) (.s .z)) rfl (Jg (EE rfl (.s .z) (intsC_get (by omega)) pl2) rfl (EH (MK.lit1I u22 ze2 sz2 rfl) rfl fun qo39 co39=>(J.appendOI u22 ze2 sz2 by2 rfl rfl (by simp only [List.length_cons,List.length_nil];omega) .z (.s (.s .z)) (fun _ _=>(.s (.s .z))) rfl fun qo40 co40=>(Jg (Jd rfl) rfl (Jf (JF (Ja (hK8 (Jb (Jg (JC rfl rfl (by first | exact nw _ (by omega) | rfl)) rfl (Jg (Jc rfl) rfl (Jf (Ja (JL .z ?_))))))))))))));exact hAg0 (qo40,co40,k+1) (by show k+1≤_;omega) (by show (csS cad caf n).length - (k+1)<(csS cad caf n).length - k;omega) 17 rfl rfl ⟨rfl,⟨(by rw [clK_succ hk1];rfl),trivial⟩⟩ rfl (by dsimp only;rw [clK_succ hk1])
 ·
  refine JG (Jj (Jj (JP (Ja (hK4 (Je fun _ hK10 _=>(Jb (Jg (Jc rfl) rfl (Jg (Jd rfl) rfl (Jf (Ja (hK10 (Js (Jq rfl (Res.tmp rfl) fun w hH=>?_))))))))))))));replace hH:=hH.sublist (.cons _ (.cons _ (.cons_cons _ (.cons_cons _ (List.Sublist.refl _)))))
  have hke:k=(csS cad caf n).length:=by omega
  rw [clK_end hke] at hH ⊢;exact ⟨_,_,_,_,hlf14,hC14,hN14,hkp14,rfl,hH⟩
theorem fn83:Fn Tryz.prog 83:=⟨_,Tryz.func83,by kernel_rfl,rfl⟩
theorem fn88:Fn Tryz.prog 88:=⟨_,Tryz.func88,by kernel_rfl,rfl⟩
theorem ar_wi (ds:List Int) (fs:List (List Term)) (hG:isAlg ds fs=true) (n:Int):arB ds n=wiB ds (n - 1) (n+1):=by
 cases h:wiB ds (n - 1) (n+1) with
 | true=>
  unfold arB;rw [wi_fit' hG h (by omega) (by omega),wi_fit' hG h (by omega) (by omega),wi_fit' hG h (by omega) (by omega)]
  rfl
 | false=>
  cases h2:arB ds n with
  | false=>rfl
  | true=>
   exfalso
   unfold arB at h2;simp only [Bool.and_eq_true] at h2;rw [wiB_yes fun k hk=>?_] at h
   ·cases h
   ·rcases (show max (n - 1) 0+(k:Int)=n - 1∨max (n - 1) 0+(k:Int)=n∨max (n - 1) 0+(k:Int)=n+1 by omega) with e | e | e <;> rw [e]
    ·exact h2.1
    ·exact h2.2.1
    ·exact h2.2.2
theorem arC_one (ds:List Int) (n:Int):arC ds [n]=if arB ds n then 0 else 3:=by unfold arC;simp
theorem fn69:Fn Tryz.prog 69:=⟨_,Tryz.func69,by kernel_rfl,rfl⟩
theorem fn70:Fn Tryz.prog 70:=⟨_,Tryz.func70,by kernel_rfl,rfl⟩
theorem fn129:Fn Tryz.prog 129:=⟨_,Tryz.func129,by kernel_rfl,rfl⟩
theorem fn172:Fn Tryz.prog 172:=⟨_,Tryz.func172,by kernel_rfl,rfl⟩
def fmR (ps:List Pw) (rs:List (List Int)):List (List Term):=rs.map (fmS ps)
def fmRK (ps:List Pw) (rs:List (List Int)) (k:Nat):List (List Term):=(rs.take k).map (fmS ps)
theorem fmRK_len {ps:List Pw} {rs:List (List Int)} {k:Nat} (hk:k≤rs.length):(fmRK ps rs k).length=k:=by
 unfold fmRK;rw [List.length_map,List.length_take]
 omega
theorem fmRK_succ {ps:List Pw} {rs:List (List Int)} {k:Nat} (hk:k<rs.length):fmRK ps rs (k+1)=fmRK ps rs k++[fmS ps (rw_ rs k)]:=by
 unfold fmRK;rw [rw_take hk,List.map_append]
 rfl
theorem fmRK_end {ps:List Pw} {rs:List (List Int)} {k:Nat} (hk:k=rs.length):fmRK ps rs k=fmR ps rs:=by
 subst hk;unfold fmRK fmR;rw [List.take_length]
@[simp] theorem fmR_len (ps:List Pw) (rs:List (List Int)):(fmR ps rs).length=rs.length:=by simp [fmR]
theorem fmR_at {ps:List Pw} {rs:List (List Int)} {k:Nat} (hk:k<rs.length):fm (fmR ps rs) k=fmS ps (rw_ rs k):=by
 simp [fm,fmR,rw_,List.getD_eq_getElem?_getD,List.getElem?_eq_getElem hk]
theorem fmR_wf {W:Nat} {ps:List Pw} {rs:List (List Int)} (hp : ∀p∈ps,Mono p) (hr : ∀r∈rs,RowOk W r):Wfss (fmR ps rs):=fun f hf=>by
 obtain ⟨r,hr',rfl⟩:=List.mem_map.1 hf
 exact fmK_wf hp (hr r hr').val (Nat.le_refl _)
theorem fmS_len (ps:List Pw) (row:List Int):(fmS ps row).length≤ps.length:=fmK_len ps row _
theorem fmS_mon {ds:List Int} {n:Int} {row:List Int} (h8:ds.length≤8) (hr:RowOk (monL ds n).length row):toS (fmS (monL ds n) row)=sumR (monL ds n) row:=by
 rw [fmS_sum (M:=20) (monL_srt ds n h8) (monL_pok h8) hr.val hr.len,toS_ofS]
theorem sumR_mon {ds:List Int} {n:Int} {row:List Int} (h8:ds.length≤8) (hr:row.length≤(monL ds n).length):Sok 20 (sumR (monL ds n) row):=sumR_sok (monL_pok h8) hr
theorem sumR_key {ps:List Pw} {row:List Int} (hr:row.length≤ps.length) : ∀x∈sumR ps row,x.1∈ps:=fun x hx=>by
 rcases acc_mem hx with h | ⟨y,hy,e⟩
 ·simp at h
 ·obtain ⟨i,hi,rfl⟩:=List.mem_map.1 hy
  rw [e]
  exact rw_mem (by have:=List.mem_range.1 hi;omega)
theorem monL_wt {ds:List Int} {n:Int} (h8:ds.length≤8) : ∀p∈monL ds n,wsum ds p ds.length=n:=fun p hp=>mon_wt h8 (List.mem_of_mem_take hp)
theorem l03Forms_c {B:World} {H0 H:HP} {L:List SA} {w:World} {qrs:Option Addr} {crs:Nat} {rs:List (List Int)} {qps:Option Addr} {cps:Nat} {ps:List (List Int)} {W:Nat} (hrs:RowsR H qrs rs) (hps:Monos H qps ps) (hW : ∀r∈rs,RowOk ps.length r) (hn:rs.length≤1000000) (hpn:ps.length≤1000000) (hpm : ∀p∈ps,Mono p) (hH:Hp B H0 H L w):Calls Tryz.prog 129 [.slice qrs rs.length crs,.slice qps ps.length cps].toArray w fun e w'=>∃q c vs,e = .returned (.slice q (fmR ps rs).length c)∧Hp B H0 H (ownFs 39 152 q c vs (fmR ps rs)::L) w':=by
 refine Jz Tryz.func129 rfl 24 rfl rfl [(0,.slice qrs rs.length crs),(1,.slice qps ps.length cps)] rfl hH ?_;clear hH;refine Je fun _ hK1 _=>(Jb (Jg (Jd rfl) rfl (Jf (Ja (hK1 (Je fun _ hK2 _=>(Jb (EH (EP u33 sz39) rfl fun qo7 co7=>(J.ts0 152 (Jg (Jd rfl) rfl (Jf (Ja (hK2 (Je fun _ hK3 _=>(Je fun _ hK4 _=>(Jb ?_))))))))))))))));refine Jg (Jd rfl) rfl (Jf (Ja (hK4 (Jm (JD (σ:=Option Addr × Nat × Vs × Nat) (fun ⟨q,c,vs,k⟩=>[(6,.int .i64 (k:Int)),(5,.slice q k c)]) (fun ⟨q,c,vs,k⟩=>H) (fun ⟨q,c,vs,k⟩=>ownTs 152 vs (fmRK ps rs k)::own 39 1 q k c (slicesC vs (fmRK ps rs k))::L) (fun ⟨q,c,vs,k⟩=>k≤rs.length) (fun ⟨q,c,vs,k⟩=>rs.length - k) (qo7,co7,nilVs,0) (by show 0≤rs.length;omega) ⟨rfl,⟨rfl,trivial⟩⟩ rfl rfl ?_)))));rintro ⟨q,c,vs,k⟩ hk _ hAg0;refine Je fun _ hK5 _=>(Je fun _ hK6 _=>(Jb (Jg (Jc rfl) rfl (Jg (Jc rfl) rfl (Jg (Jn u57 rfl rfl) rfl (Jg (JM rfl rfl) rfl (Jf (Ja (hK6 (Jp rfl (fun h11=>?_) (fun h11=>?_)))))))))))
 ·
  have hk1:k<rs.length:=by omega
  have hrk:=hW _ (rw_mem hk1);refine Jo (Ja (hK5 (Je fun _ hK7 _=>(Jm (Jb (Jg (Jc rfl) rfl (Jg (Jc rfl) rfl (Jg (Jc rfl) rfl (Jg (JO u57 sz22 rfl rfl rfl hk1 hrs.sm) rfl ?_)))))))));obtain ⟨qe18,ce18,he18,le18,Fe18⟩:=hrs k hk1;refine Jg (JB rfl he18 pl22) rfl (Jg (Jc rfl) rfl (Jw fn172 rfl rfl fun w hH=>(l03Form_c Fe18 hps hrk.len hpn hpm hrk.val hH).mono ?_));rintro _ w ⟨qo20,co20,rfl,hH⟩;refine ⟨_,rfl,fun a hF=>JK hF hH ?_⟩;refine EH (EK u33 ze39 sz39 rfl rfl) rfl fun qo21 co21=>(ED u33 ze39 sz39 by39 rfl rfl rfl rfl (by omega) .z (.s (.s .z)) (fun _ _=>(.s (.s .z))) rfl fun qo22 co22=>(Jg (Jd rfl) rfl (Jf (JF (Ja (hK7 (Jb (Jg (Jc rfl) rfl (Jg (JC rfl rfl (by first | exact nw _ (by omega) | rfl)) rfl (Jg (Jd rfl) rfl (Jf (Ja (Jr (.s (.s (.s .z))) (Jr (.s .z) (Jr (.s (.s (.s .z))) ?_)))))))))))))));refine Jr (.s (.s (.s .z))) (EJ.fsSnoc (fs:=fmRK ps rs k) (fmRK_len hk) rfl (JL (.s .z) ?_));exact hAg0 (qo22,co22,setV vs k (qo20,co20),k+1) (by show k+1≤rs.length;omega) (by show rs.length - (k+1)<rs.length - k;omega) 19 rfl rfl ⟨rfl,⟨rfl,trivial⟩⟩ rfl (by dsimp only;rw [fmRK_succ hk1,slicesC_set (fmRK_len hk)])
 ·
  refine JG (Jj (Jj (JP (Ja (hK3 (Je fun _ hK8 _=>(Jb (Jg (Jc rfl) rfl (Jg (Jd rfl) rfl (Jf (Ja (hK8 (Js (Jq rfl (Res.tmp rfl) fun w hH=>?_))))))))))))));replace hH:=hH.sublist (.cons_cons _ (.cons_cons _ (List.Sublist.refl _)))
  have hke:k=rs.length:=by omega
  rw [fmRK_end hke] at hH;exact ⟨q,c,vs,by rw [fmR_len,hke],by unfold ownFs;rw [fmR_len,← hke];exact (hH.front (.s .z)).star⟩
theorem l03ClassForms_c {B:World} {H0 H:HP} {L:List SA} {w:World} {qad qaf:Option Addr} {cad caf:Nat} {ad:List Int} {af:List (List Term)} {n:Int} (had:Ints H qad ad) (haf:Forms H qaf af) (hG:isAlg ad af=true) (hn:0≤n∧n≤40) (hfit:fit3 ad n) (hH:Hp B H0 H L w):Calls Tryz.prog 76 [.agg [.slice qad ad.length cad,.slice qaf af.length caf].toArray,.int .i64 n].toArray w fun e w'=>∃q c vs,e = .returned (.slice q (fmR (monL ad n) (csS ad af n)).length c)∧Hp B H0 H (ownFs 39 152 q c vs (fmR (monL ad n) (csS ad af n))::L) w':=by
 refine Jz Tryz.func76 rfl 13 rfl rfl [(0,.agg [.slice qad ad.length cad,.slice qaf af.length caf].toArray),(1,.int .i64 n)] rfl hH ?_;have hw0:=hH.old;have hw1:=hH.le;clear hH;have hwf:=haf.wfss;have hA:=isAlg_ok hG hwf;have h8:=hA.hn;have hd:=alg_112 hG;have hml:=monL_len ad n;have hml1:=monL_len ad (n+1);have hclR:=clS_red (n:=n) hA h8 hd;have hbdR:=bdS_red (n:=n) hA h8 hd;have hcll:=clS_len (n:=n) hA h8 hd;have hbdl:=bdS_len (n:=n) hA h8 hd;have hcsR:=csS_red (n:=n) hA h8 hd;have hcsl:=csS_len (n:=n) hA h8 hd;have hmT0:=monT_L hfit.1.1;refine Je fun _ hK1 _=>(Jb (Ed rfl rfl rfl fun g2=>(Jg (Jd rfl) rfl (Jf (Ja (hK1 (Je fun _ hK2 _=>(El (Rs:=[_]) 9 [[], [], [0,1], [], [3], [], [0,1,2,3,4,5], [0,1,2,3,4,5,6], [0,1,2,3,4,5,6,7]] [[9], [], [], [], [9], [], [], [2,6], []] [[], [], [], [], [], [], [], [], []] rfl rfl (by kernel_rfl) ?_))))))));apply Jl 1 rfl
 iterate 3 focus (intros;(conv=>lhs;simp only [Jh,Jt,JN,Ju,JI,eq_self,Nat.reduceEqDiff,reduceIte,Nat.reduceSub,Nat.reduceAdd,List.cons_append,List.nil_append]);all_goals rfl)
 ·
  intro gh X K zq zc zq2 zc2 zb zv hK;refine Jg (Jx rfl At.z (by simpa [*] using ag35)) rfl (Ji ?_);exact hK zq zc zq2 zc2 zb zv
 ·
  intro gh gh' h
  rfl
 apply Jl 2 rfl
 iterate 3 focus (intros;(conv=>lhs;simp only [Jh,Jt,JN,Ju,JI,eq_self,Nat.reduceEqDiff,reduceIte,Nat.reduceSub,Nat.reduceAdd,List.cons_append,List.nil_append]);all_goals rfl)
 ·
  intro gh X K zq zc zq2 zc2 zb zv hK;refine Jg (Jc rfl) rfl (Ji ?_);exact hK zq zc zq2 zc2 zb zv
 ·
  intro gh gh' h
  rfl
 apply Ea 3 rfl
 iterate 3 focus (intros;(conv=>lhs;simp only [Jh,Jt,JN,Ju,JI,eq_self,Nat.reduceEqDiff,reduceIte,Nat.reduceSub,Nat.reduceAdd,List.cons_append,List.nil_append]);all_goals rfl)
 ·
  intro gh X K zq zc zq2 zc2 zb zv hK;refine Jw fn75 rfl rfl fun w hH=>(l03Classes_m had haf hG (by omega) hfit hH).mono ?_;rintro _ w ⟨qo7,co7,vso7,rfl,hH⟩;refine ⟨_,rfl,fun a hF=>JK hF hH ?_⟩;refine Ji ?_;exact hK qo7 co7 zq2 zc2 zb vso7
 ·
  intro gh gh' h;refine ⟨?_,?_⟩ <;> rfl
 apply Jl 4 rfl
 iterate 3 focus (intros;(conv=>lhs;simp only [Jh,Jt,JN,Ju,JI,eq_self,Nat.reduceEqDiff,reduceIte,Nat.reduceSub,Nat.reduceAdd,List.cons_append,List.nil_append]);all_goals rfl)
 ·
  intro gh X K zq zc zq2 zc2 zb zv hK;refine Jg (Jv u35 rfl sz22 rfl) rfl (Ji ?_);exact hK zq zc zq2 zc2 zb zv
 ·
  intro gh gh' h
  rfl
 apply Jl 5 rfl
 iterate 3 focus (intros;(conv=>lhs;simp only [Jh,Jt,JN,Ju,JI,eq_self,Nat.reduceEqDiff,reduceIte,Nat.reduceSub,Nat.reduceAdd,List.cons_append,List.nil_append]);all_goals rfl)
 ·
  intro gh X K zq zc zq2 zc2 zb zv hK;refine Jg (Jy rfl At.z rfl pl22) rfl (Ji ?_);exact hK zq zc zq2 zc2 zb zv
 ·
  intro gh gh' h
  rfl
 apply Jl 6 rfl
 iterate 3 focus (intros;(conv=>lhs;simp only [Jh,Jt,JN,Ju,JI,eq_self,Nat.reduceEqDiff,reduceIte,Nat.reduceSub,Nat.reduceAdd,List.cons_append,List.nil_append]);all_goals rfl)
 ·
  intro gh X K zq zc zq2 zc2 zb zv hK;refine Jg (Jc rfl) rfl (Ji ?_);exact hK zq zc zq2 zc2 zb zv
 ·
  intro gh gh' h
  rfl
 apply Ea 7 rfl
 iterate 3 focus (intros;(conv=>lhs;simp only [Jh,Jt,JN,Ju,JI,eq_self,Nat.reduceEqDiff,reduceIte,Nat.reduceSub,Nat.reduceAdd,List.cons_append,List.nil_append]);all_goals rfl)
 ·
  intro gh X K zq zc zq2 zc2 zb zv hK;refine Jw fn66 rfl rfl fun w hH=>(l01Monomials_c had hd h8 (by omega) hH).mono ?_;rintro _ w ⟨qo11,co11,rfl,hH⟩;refine ⟨_,rfl,fun a hF=>JK hF hH ?_⟩;refine Ji ?_;exact hK qo11 co11 zq2 zc2 zb zv
 ·
  intro gh gh' h;refine ⟨?_,?_⟩ <;> (first | simp only [h 2 rfl] | rfl)
 apply Ea 8 rfl
 iterate 3 focus (intros;(conv=>lhs;simp only [Jh,Jt,JN,Ju,JI,eq_self,Nat.reduceEqDiff,reduceIte,Nat.reduceSub,Nat.reduceAdd,List.cons_append,List.nil_append]);all_goals rfl)
 ·
  intro gh X K zq zc zq2 zc2 zb zv hK;refine Jw fn129 rfl rfl fun w hH=>hH.lend .z fun Hl1 hle1 hA1 hB1 hH=>hH.lend .z fun Hl2 hle2 hA2 hB2 hH=>(l03Forms_c (W:=0) ((mlt_rows hle1 hA1).1.le hle2) (own_monos (monT_8 h8) hA2) (by rw [hmT0];exact hcsR.row) (by omega) (by rw [hmT0];omega) (by rw [hmT0];exact monL_mn h8) hH).mono ?_;rintro _ w ⟨qo12,co12,vso12,rfl,hH⟩;replace hH:=hB2 _ _ hH;replace hH:=hB1 _ _ hH;refine ⟨_,rfl,fun a hF=>JK hF hH ?_⟩;refine Jr (.s .z) (Jr (.s .z) (Jr (.s (.s .z)) (Ji ?_)));exact hK qo12 co12 zq2 zc2 zb vso12
 ·
  intro gh gh' h;refine ⟨?_,?_⟩ <;> (first | simp only [h 2 rfl,h 6 rfl] | rfl)
 apply Jl 9 rfl
 iterate 3 focus (intros;(conv=>lhs;simp only [Jh,Jt,JN,Ju,JI,eq_self,Nat.reduceEqDiff,reduceIte,Nat.reduceSub,Nat.reduceAdd,List.cons_append,List.nil_append]);all_goals rfl)
 ·
  intro gh X K zq zc zq2 zc2 zb zv hK;refine Jg (Jd rfl) rfl (Ji ?_);exact hK zq zc zq2 zc2 zb zv
 ·
  intro gh gh' h
  first | simp only [h 2 rfl,h 6 rfl,h 7 rfl] | rfl
 apply Ej [0,1,2,3,4,5,6,7,8] [0,1,2,3,4,5,6,7,8,9] foll0 rfl rfl rfl (by rfl)
 iterate 2 focus (intros;(conv=>lhs;simp only [Jh,Jt,JN,Ju,JI,eq_self,Nat.reduceEqDiff,reduceIte,Nat.reduceSub,Nat.reduceAdd,List.cons_append,List.nil_append]);all_goals rfl)
 intro gh;generalize (gh 2).c=co7;generalize (gh 2).q=qo7;generalize (gh 2).vs=vso7;generalize (gh 6).c=co11;generalize (gh 6).q=qo11;generalize (gh 7).c=co12;generalize (gh 7).q=qo12;generalize (gh 7).vs=vso12;clear gh;refine Ja (hK2 (Js (Jq rfl (Res.tmp rfl) fun w hH=>?_)));replace hH:=hH.sublist (.cons _ (.cons _ (.cons_cons _ (.cons _ (List.Sublist.refl _)))));rw [hmT0] at hH ⊢;exact ⟨_,_,_,rfl,hH⟩
theorem fn137:Fn Tryz.prog 137:=⟨_,Tryz.func137,by kernel_rfl,rfl⟩
theorem fn79:Fn Tryz.prog 79:=⟨_,Tryz.func79,by kernel_rfl,rfl⟩
theorem fn87:Fn Tryz.prog 87:=⟨_,Tryz.func87,by kernel_rfl,rfl⟩
section
variable {ds : List Int} {fs : List (List Term)} {n i m j : Int}
def pcA (n i m j:Int):Bool:=!decide (i<0) && (!decide (j<0) && (askB n && (askB m && askB (n+m))))
def pc1 (ds:List Int) (fs:List (List Term)) (n i m j:Int):Int:=if isAlg ds fs then if pcA n i m j then 0 else 2 else 1
theorem ar_fit3 (h:arB ds n=true):fit3 ds n:=by
 unfold arB at h;simp only [Bool.and_eq_true] at h;exact ⟨h.2,fun _=>h.1⟩
end
theorem isAsked_c {B:World} {H0 H:HP} {L:List SA} {w:World} {n:Int} (hH:Hp B H0 H L w):Calls Tryz.prog 87 [.int .i64 n].toArray w fun e w'=>e = .returned (.bool (askB n))∧Hp B H0 H L w':=by
 refine Jz Tryz.func87 rfl 5 rfl rfl [(0,.int .i64 n)] rfl hH ?_;clear hH;refine Je fun _ hK1 _=>(Jb (Jg (Jd rfl) rfl (Jf (Ja (hK1 (Je fun _ hK2 _=>(Jb (Jg (Jc rfl) rfl (Jw fn82 rfl rfl fun w hH=>(within_c hH).mono ?_)))))))));rintro _ w ⟨rfl,hH⟩;refine ⟨_,rfl,fun a hF=>JK hF hH ?_⟩;refine Jg (Jd rfl) rfl (Jf (Ja (hK2 (Js (Jq rfl (Res.tmp rfl) fun w hH=>?_)))));exact ⟨rfl,hH⟩
theorem fn76:Fn Tryz.prog 76:=⟨_,Tryz.func76,by kernel_rfl,rfl⟩
theorem fn146:Fn Tryz.prog 146:=⟨_,Tryz.func146,by kernel_rfl,rfl⟩
theorem fn147:Fn Tryz.prog 147:=⟨_,Tryz.func147,by kernel_rfl,rfl⟩
theorem fn182:Fn Tryz.prog 182:=⟨_,Tryz.func182,by kernel_rfl,rfl⟩
theorem fn94:Fn Tryz.prog 94:=⟨_,Tryz.func94,by kernel_rfl,rfl⟩
theorem fn95:Fn Tryz.prog 95:=⟨_,Tryz.func95,by kernel_rfl,rfl⟩
def clF (ds:List Int) (fs:List (List Term)) (n:Int):List (List Term):=if cdC ds fs n=0 then fmR (monL ds n) (csS ds fs n) else []
def imS (bd:List Int) (ms:List (List Term)) (s:Sm):Sm:=leadS bd (ssF ms) ms.length s
def mmR (ad bd:List Int) (bf ms:List (List Term)) (n:Int) (r:List Int):List Int:=clV bd bf n ((monL bd n).map (cf (imS bd ms (sumR (monL ad n) r))))
def mmS (ad:List Int) (af:List (List Term)) (bd:List Int) (bf ms:List (List Term)) (n:Int):List (List Int):=(csS ad af n).map (mmR ad bd bf ms n)
def mmK (ad:List Int) (af:List (List Term)) (bd:List Int) (bf ms:List (List Term)) (n:Int) (k:Nat):List (List Int):=((csS ad af n).take k).map (mmR ad bd bf ms n)
def mm1 (ad:List Int) (af:List (List Term)) (bd:List Int) (bf ms:List (List Term)) (n:Int):Int:=if isMp ad af bd bf ms then if askB n then 0 else 2 else 1
def mm2 (ad bd:List Int) (n:Int):Int:=if arB ad n && arB bd n then 0 else 3
def mmC (ad:List Int) (af:List (List Term)) (bd:List Int) (bf ms:List (List Term)) (n:Int):Int:=if mm1 ad af bd bf ms n=0 then mm2 ad bd n else mm1 ad af bd bf ms n
def mmV (ad:List Int) (af:List (List Term)) (bd:List Int) (bf ms:List (List Term)) (n:Int):List (List Int):=if mmC ad af bd bf ms n=0 then mmS ad af bd bf ms n else []
section
variable {ad bd : List Int} {af bf ms : List (List Term)} {n : Int}
theorem mmK_len {k:Nat} (hk:k≤(csS ad af n).length):(mmK ad af bd bf ms n k).length=k:=by
 unfold mmK;rw [List.length_map,List.length_take_of_le hk]
theorem mmK_succ {k:Nat} (hk:k<(csS ad af n).length):mmK ad af bd bf ms n (k+1)=mmK ad af bd bf ms n k++[mmR ad bd bf ms n (rw_ (csS ad af n) k)]:=by
 unfold mmK;rw [List.take_succ_eq_append_getElem hk,List.map_append]
 show _=_++[mmR ad bd bf ms n (rw_ (csS ad af n) k)]
 unfold rw_;rw [List.getD_eq_getElem?_getD,List.getElem?_eq_getElem hk]
 rfl
theorem mmK_end {k:Nat} (hk:k=(csS ad af n).length):mmK ad af bd bf ms n k=mmS ad af bd bf ms n:=by
 unfold mmK mmS;rw [hk,List.take_length]
theorem mmS_len:(mmS ad af bd bf ms n).length=(csS ad af n).length:=by simp [mmS]
theorem mmR_len (r:List Int):(mmR ad bd bf ms n r).length=(csS bd bf n).length:=clV_len _ _ _ _
theorem clF_len (h:cdC ad af n=0):(clF ad af n).length=(csS ad af n).length:=by unfold clF;rw [if_pos h];simp [fmR]
theorem clF_at (h:cdC ad af n=0) (hA:AlgOk ad af) (h8:ad.length≤8) (hd : ∀j,j<ad.length→1≤ad.getD j 0∧ad.getD j 0≤12) {i:Nat} (hi:i<(csS ad af n).length):toS (fm (clF ad af n) i)=sumR (monL ad n) (rw_ (csS ad af n) i):=by
 unfold clF;rw [if_pos h,fmR_at hi,fmS_mon h8 ((csS_red (n:=n) hA h8 hd).row _ (rw_mem hi))]
theorem clF_flen (h:cdC ad af n=0) {i:Nat} (hi:i<(csS ad af n).length):(fm (clF ad af n) i).length≤121:=by
 unfold clF;rw [if_pos h,fmR_at hi];exact Nat.le_trans (fmS_len _ _) (monL_len ad n)
theorem clF_wf (hG:isAlg ad af=true) (hw:Wfss af):Wfss (clF ad af n):=by
 unfold clF
 split
 ·have hA:=isAlg_ok hG hw;exact fmR_wf (monL_mn hA.hn) (csS_red (n:=n) hA hA.hn (alg_112 hG)).row
 ·intro f hf
  simp at hf
theorem Ld.cls (hM:isMp ad af bd bf ms=true) (hwa:Wfss af) (hwm:Wfss ms) (hn:n≤20) {r:List Int} (hr:r∈csS ad af n):Ld bd ad (ssF ms) ms.length 20 (sumR (monL ad n) r):=by
 unfold isMp at hM;simp only [Bool.and_eq_true] at hM;obtain ⟨⟨hA,hB⟩,⟨hl,h⟩,_⟩:=hM;have hl:=of_decide_eq_true hl;have hD:=isAlg_deg hA;have hd:=isDeg_bd hD;have hAo:=isAlg_ok hA hwa;have h8:=hAo.hn;have hrl:=((csS_red (n:=n) hAo h8 (alg_112 hA)).row _ hr).len;refine ⟨Dg.of (isAlg_deg hB),fun j=>(hd j).1,fun j hj=>?_,sumR_mon h8 (by omega),fun x hx=>?_⟩
 ·have h4:=mpsOk_at h hj;unfold mpOk at h4;obtain ⟨h5,h6⟩:=Bool.and_eq_true_iff.1 h4;exact form_ws (isAlg_deg hB) (hwm.fm j) h5 h6 (by have:=hd j;omega)
 ·rw [hl,monL_wt h8 _ (sumR_key (by omega) x hx)];exact hn
theorem im_mon (hM:isMp ad af bd bf ms=true) (hwa:Wfss af) (hwb:Wfss bf) (hwm:Wfss ms) (hn:n≤20) (hf:fitB bd n=true) {r:List Int} (hr:r∈csS ad af n) : ∀x∈imS bd ms (sumR (monL ad n) r),x.1∈monL bd n:=fun x hx=>by
 have hL:=Ld.cls hM hwa hwm hn hr
 unfold isMp at hM
 simp only [Bool.and_eq_true] at hM
 obtain ⟨⟨hA,hB⟩,⟨hl,_⟩,_⟩:=hM
 have hl:=of_decide_eq_true hl
 have hAo:=isAlg_ok hA hwa
 have hBo:=isAlg_ok hB hwb
 have hrl:=((csS_red (n:=n) hAo hAo.hn (alg_112 hA)).row _ hr).len
 rcases acc_mem hx with h1 | ⟨y,hy,e⟩
 ·simp at h1
 ·obtain ⟨z,hz,h1⟩:=List.mem_flatMap.1 hy
  obtain ⟨u,hu,rfl⟩:=List.mem_map.1 h1
  have hp:=hL.pr hz (Ws.one (c:=1) (by omega)) (Nat.le_refl ms.length)
  have hzw:wsum ad z.1 ms.length=n:=by rw [hl];exact monL_wt hAo.hn _ (sumR_key (by omega) z hz)
  rw [hzw] at hp
  rw [monL_fit hf]
  rw [e]
  exact mon_in hBo.hn (alg_112 hB) (by omega) (hp.sok.key u hu) (hp.kex u hu) (hp.wt u hu)
theorem im_sok (hM:isMp ad af bd bf ms=true) (hwa:Wfss af) (hwm:Wfss ms) (hn:n≤20) {r:List Int} (hr:r∈csS ad af n):Sok 20 (imS bd ms (sumR (monL ad n) r)):=(Ld.cls hM hwa hwm hn hr).lead
theorem nd_len {α:Type} [DecidableEq α] : ∀{a b:List α},a.Nodup→(∀x∈a,x∈b)→a.length≤b.length
 | [],_,_,_=>Nat.zero_le _
 | x::a,b,h,hs=>by
  have h1:=List.nodup_cons.1 h
  have ih:=nd_len (a:=a) (b:=b.erase x) h1.2 fun y hy=>(List.mem_erase_of_ne (fun e:y=x=>h1.1 (by rw [← e];exact hy))).2 (hs y (by simp [hy]))
  have hm:=hs x (by simp)
  rw [List.length_erase_of_mem hm] at ih
  have:=List.length_pos_of_mem hm
  simp only [List.length_cons]
  omega
theorem sok_mon {M:Int} {s:Sm} {ps:List Pw} (h:Sok M s) (hk : ∀x∈s,x.1∈ps):s.length≤ps.length:=by
 have:=nd_len h.nodup (b:=ps) fun p hp=>by
  obtain ⟨x,hx,rfl⟩:=List.mem_map.1 hp;exact hk x hx
 rwa [List.length_map] at this
theorem byS_0 {W:Nat} : ∀{B:List (List Int)} {v:List Int},RowOk W v→(∀r∈B,RowOk W r)→(∀k,v.getD k 0=0)→∀k,(byS v B).getD k 0=0
 | [],_,_,_,h=>h
 | r::B,v,hv,hB,h=>by
  have hr:=hB r (by simp)
  exact byS_0 (B:=B) (hv.one hr) (fun r hr=>hB r (by simp [hr])) fun k=>by
   rw [oneBy_get hv hr,h k,h (ldR r),Int.zero_mul]
   exact fld_0
theorem mmR_0 (hG:isAlg bd bf=true) (hw:Wfss bf) {r:List Int} (h:imS bd ms (sumR (monL ad n) r)=[]):mmR ad bd bf ms n r=List.replicate (csS bd bf n).length 0:=by
 have hA:=isAlg_ok hG hw;unfold mmR clV;rw [h];refine List.eq_replicate_iff.2 ⟨by simp,fun x hx=>?_⟩;obtain ⟨s,_,rfl⟩:=List.mem_map.1 hx
 exact byS_0 (cfR_ok (M:=20) Sok.nil) (bdS_red (n:=n) hA hA.hn (alg_112 hG)).row (fun k=>by
  rw [List.getD_eq_getElem?_getD,List.getElem?_map]
  cases (monL bd n)[k]? <;> rfl) _
theorem mm1_1 (h:isMp ad af bd bf ms=false):mm1 ad af bd bf ms n=1:=by unfold mm1;rw [h];rfl
theorem mm1_2 (h:isMp ad af bd bf ms=true) (h2:askB n=false):mm1 ad af bd bf ms n=2:=by unfold mm1;rw [h,h2];rfl
theorem mm1_0 (h:isMp ad af bd bf ms=true) (h2:askB n=true):mm1 ad af bd bf ms n=0:=by unfold mm1;rw [h,h2];rfl
theorem mm1_y (h : ¬mm1 ad af bd bf ms n≠0):isMp ad af bd bf ms=true∧askB n=true:=by
 unfold mm1 at h
 cases h1:isMp ad af bd bf ms with
 | false=>rw [h1] at h;simp at h
 | true=>
  rw [h1] at h
  cases h2:askB n with
  | true=>exact ⟨rfl,rfl⟩
  | false=>rw [h2] at h;simp at h
theorem isMp_1 (h:isMp ad af bd bf ms=true):isAlg ad af=true:=by unfold isMp at h;simp only [Bool.and_eq_true] at h;exact h.1.1
theorem isMp_2 (h:isMp ad af bd bf ms=true):isAlg bd bf=true:=by unfold isMp at h;simp only [Bool.and_eq_true] at h;exact h.1.2
theorem isMp_l (h:isMp ad af bd bf ms=true):ms.length=ad.length:=by unfold isMp at h;simp only [Bool.and_eq_true] at h;exact of_decide_eq_true h.2.1.1
theorem isMp_ps (h:isMp ad af bd bf ms=true):mpsOk bd ms ad=true:=by unfold isMp at h;simp only [Bool.and_eq_true] at h;exact h.2.1.2
theorem cdC_y (hG:isAlg ad af=true) (ha:askB n=true):cdC ad af n=if arB ad n then 0 else 3:=by unfold cdC;rw [hG,ha,ar_wi ad af hG n];rfl
theorem cdC_n (hG:isAlg ad af=true) (ha:askB n=true) (h:cdC ad af n≠0):cdC ad af n=3∧arB ad n=false:=by
 rw [cdC_y hG ha] at h ⊢
 cases hh:arB ad n with
 | true=>rw [hh] at h;exact absurd rfl h
 | false=>exact ⟨rfl,rfl⟩
theorem cdC_0 (hG:isAlg ad af=true) (ha:askB n=true) (h : ¬cdC ad af n≠0):cdC ad af n=0∧arB ad n=true:=by
 have h0:cdC ad af n=0:=Decidable.not_not.1 h;refine ⟨h0,?_⟩;rw [cdC_y hG ha] at h0
 cases hh:arB ad n with
 | true=>rfl
 | false=>rw [hh] at h0;simp at h0
theorem cdC_y' {x:Int} (h : ¬cdC ad af n≠0):isAlg ad af=true∧askB n=true:=by
 unfold cdC at h
 cases h1:isAlg ad af with
 | false=>rw [h1] at h;simp at h
 | true=>
  rw [h1] at h
  cases h2:askB n with
  | true=>exact ⟨rfl,rfl⟩
  | false=>rw [h2] at h;simp at h
theorem mm2_n1 (h:arB ad n=false):mm2 ad bd n=3:=by unfold mm2;rw [h];rfl
theorem mm2_n2 (h:arB bd n=false):mm2 ad bd n=3:=by unfold mm2;rw [h];simp
theorem mm2_y (h:arB ad n=true) (h2:arB bd n=true):mm2 ad bd n=0:=by unfold mm2;rw [h,h2];rfl
end
theorem sClassForms_c {B:World} {H0 H:HP} {L:List SA} {w:World} {qad qaf:Option Addr} {cad caf:Nat} {ad:List Int} {af:List (List Term)} {n:Int} (had:Ints H qad ad) (haf:Forms H qaf af) (hn8:ad.length≤1048576) (hn9:af.length≤1048576) (hl9 : ∀i,i<af.length→(fm af i).length≤1048576) (hH:Hp B H0 H L w):Calls Tryz.prog 147 [.agg [.slice qad ad.length cad,.slice qaf af.length caf].toArray,.int .i64 n].toArray w fun e w'=>∃q c vs,e = .returned (.tuple #[.slice q (clF ad af n).length c,.int .i64 (cdC ad af n)])∧Hp B H0 H (ownFs 39 152 q c vs (clF ad af n)::L) w':=by
 refine Jz Tryz.func147 rfl 16 rfl rfl [(0,.agg [.slice qad ad.length cad,.slice qaf af.length caf].toArray),(1,.int .i64 n)] rfl hH ?_;have hw0:=hH.old;have hw1:=hH.le;clear hH;refine Je fun _ hK1 _=>(Jb (Ed rfl rfl rfl fun g2=>(Jg (Jd rfl) rfl (Jg (Jd rfl) rfl (Jf (Ja (hK1 (Je fun _ hK2 _=>(Je fun _ hK3 _=>(Jb (Jg (Jx rfl At.z (by simpa [*] using ag35)) rfl (Jg (Jc rfl) rfl (Jw fn182 rfl rfl fun w hH=>(l03Code_c had haf (by omega) (by omega) hl9 hH).mono ?_)))))))))))));rintro _ w ⟨rfl,hH⟩;refine ⟨_,rfl,fun a hF=>JK hF hH ?_⟩;refine Jg (Jd rfl) rfl (Jf (Ja (hK3 (Je fun _ hK4 _=>(Jb (Jg (Jc rfl) rfl (Jg (Em rfl rfl) rfl (Jf (Ja (hK4 (Jp rfl (fun h11=>?_) (fun h11=>?_))))))))))))
 ·
  refine Je fun _ hK5 _=>(Jb (Jg (Jc rfl) rfl (Jg (Jd rfl) rfl (Jg (Jd rfl) rfl (Jf (Ja (hK5 (Js (Jk (EC rfl (Res.tmp rfl) (Res.tmp rfl) fun w hH=>?_))))))))));replace hH:=hH.sublist (.cons _ (List.Sublist.refl _));refine ⟨none,0,nilVs,?_,?_⟩
  ·rw [show clF ad af n=[] from if_neg h11]
   rfl
  ·rw [show clF ad af n=[] from if_neg h11];exact hH.ownFsNil 39 152
 ·
  obtain ⟨hG,hak⟩:=cdC_y' (x:=0) h11;have hask:=askB_y hak;have har:=(cdC_0 hG hak h11).2;have hf3:=ar_fit3 har;have h0:cdC ad af n=0:=Decidable.not_not.1 h11;refine Jo (Ja (hK2 (Je fun _ hK6 _=>(Jb (Jg (Jx rfl At.z (by simpa [*] using ag35)) rfl (Jg (Jc rfl) rfl (Jw fn76 rfl rfl fun w hH=>(l03ClassForms_c had haf hG (by omega) hf3 hH).mono ?_)))))));rintro _ w ⟨qo15,co15,vso15,rfl,hH⟩;refine ⟨_,rfl,fun a hF=>JK hF hH ?_⟩;refine Jg (Jd rfl) rfl (Jg (Jd rfl) rfl (Jf (Ja (hK6 (Js (EC rfl (Res.tmp rfl) (Res.tmp rfl) fun w hH=>?_))))));replace hH:=hH.sublist (.cons_cons _ (.cons _ (List.Sublist.refl _)));rw [show clF ad af n=_ from if_pos h0,h0];exact ⟨_,_,_,rfl,hH⟩
theorem l04Code_c {B:World} {H0 H:HP} {L:List SA} {w:World} {qad qaf:Option Addr} {cad caf:Nat} {ad:List Int} {af:List (List Term)} {qbd qbf:Option Addr} {cbd cbf:Nat} {bd:List Int} {bf:List (List Term)} {qms:Option Addr} {cms:Nat} {ms:List (List Term)} {n:Int} (had:Ints H qad ad) (haf:Forms H qaf af) (hbd:Ints H qbd bd) (hbf:Forms H qbf bf) (hms:Forms H qms ms) (hn8:ad.length≤1048576) (hn9:af.length≤1048576) (hl9 : ∀i,i<af.length→(fm af i).length≤1048576) (hbn8:bd.length≤1048576) (hbn9:bf.length≤1048576) (hbl9 : ∀i,i<bf.length→(fm bf i).length≤1048576) (hmn9:ms.length≤1048576) (hml9 : ∀i,i<ms.length→(fm ms i).length≤1048576) (hH:Hp B H0 H L w):Calls Tryz.prog 94 [.agg [.slice qad ad.length cad,.slice qaf af.length caf].toArray,.agg [.slice qbd bd.length cbd,.slice qbf bf.length cbf].toArray,.slice qms ms.length cms,.int .i64 n].toArray w fun e w'=>e = .returned (.int .i64 (mm1 ad af bd bf ms n))∧Hp B H0 H L w':=by
 refine Jz Tryz.func94 rfl 19 rfl rfl [(0,.agg [.slice qad ad.length cad,.slice qaf af.length caf].toArray),(1,.agg [.slice qbd bd.length cbd,.slice qbf bf.length cbf].toArray),(2,.slice qms ms.length cms),(3,.int .i64 n)] rfl hH ?_;have hw0:=hH.old;have hw1:=hH.le;clear hH;refine Je fun _ hK1 _=>(Jb (Ed rfl rfl rfl fun g4=>(Ed rfl rfl rfl fun g5=>(Jg (Jd rfl) rfl (Jf (Ja (hK1 (Je fun _ hK2 _=>(Jm (Je fun _ hK3 _=>(Jb (Jg (Jx rfl (.s .z) (by simpa [*] using ag35)) rfl (Jg (Jx rfl At.z (by simpa [*] using ag35)) rfl (Jg (Jc rfl) rfl (Jw fn146 rfl rfl fun w hH=>(l04Is_c had haf hbd hbf hms (by omega) (by omega) hl9 (by omega) (by omega) hbl9 (by omega) hml9 hH).mono ?_)))))))))))))));rintro _ w ⟨rfl,hH⟩;refine ⟨_,rfl,fun a hF=>JK hF hH ?_⟩;refine Jg (Ek rfl) rfl (Jg (Jd rfl) rfl (Jf (Ja (hK3 (Eg rfl (fun h9=>?_) (fun h9=>?_))))))
 ·
  refine Je fun _ hK4 _=>(Jb (Jg (Jd rfl) rfl (Jf (Ja (hK4 (Js (JT (Jk (Jq rfl (Res.tmp rfl) fun w hH=>?_)))))))));replace hH:=hH.tail;replace hH:=hH.tail;exact ⟨ri (mm1_1 (not_f h9)).symm,hH⟩
 ·
  have hM:isMp ad af bd bf ms=true:=not_t h9;refine Je fun _ hK5 _=>(Jb (Jg (Jc rfl) rfl (Jw fn73 rfl rfl fun w hH=>(l01In_c hH).mono ?_)));rintro _ w ⟨rfl,hH⟩;refine ⟨_,rfl,fun a hF=>JK hF hH ?_⟩;refine Jg (Ek rfl) rfl (Jg (Jd rfl) rfl (Jf (Ja (hK5 (Eg rfl (fun h15=>?_) (fun h15=>?_))))))
  ·
   refine Je fun _ hK6 _=>(Jb (Jg (Jd rfl) rfl (Jf (Ja (hK6 (Js (JT (Jk (Jq rfl (Res.tmp rfl) fun w hH=>?_)))))))));replace hH:=hH.tail;replace hH:=hH.tail;exact ⟨ri (mm1_2 hM (not_f h15)).symm,hH⟩
  ·
   refine Jo (JF (Ja (hK2 (Je fun _ hK7 _=>(Jb (Jg (Jd rfl) rfl (Jf (Ja (hK7 (Js (Jq rfl (Res.tmp rfl) fun w hH=>?_)))))))))));replace hH:=hH.tail;replace hH:=hH.tail;exact ⟨ri (mm1_0 hM (not_t h15)).symm,hH⟩
theorem l04Matrix_c {B:World} {H0 H:HP} {L:List SA} {w:World} {qad qaf:Option Addr} {cad caf:Nat} {ad:List Int} {af:List (List Term)} {qbd qbf:Option Addr} {cbd cbf:Nat} {bd:List Int} {bf:List (List Term)} {qms:Option Addr} {cms:Nat} {ms:List (List Term)} {n:Int} (had:Ints H qad ad) (haf:Forms H qaf af) (hbd:Ints H qbd bd) (hbf:Forms H qbf bf) (hms:Forms H qms ms) (hn8:ad.length≤1048576) (hn9:af.length≤1048576) (hl9 : ∀i,i<af.length→(fm af i).length≤1048576) (hbn8:bd.length≤1048576) (hbn9:bf.length≤1048576) (hbl9 : ∀i,i<bf.length→(fm bf i).length≤1048576) (hmn9:ms.length≤1048576) (hml9 : ∀i,i<ms.length→(fm ms i).length≤1048576) (hM:isMp ad af bd bf ms=true) (hn:0≤n∧n≤20) (hH:Hp B H0 H L w):Calls Tryz.prog 95 [.agg [.slice qad ad.length cad,.slice qaf af.length caf].toArray,.agg [.slice qbd bd.length cbd,.slice qbf bf.length cbf].toArray,.slice qms ms.length cms,.int .i64 n].toArray w fun e w'=>∃q c vs,e = .returned (.tuple #[.slice q (if mm2 ad bd n=0 then mmS ad af bd bf ms n else []).length c,.int .i64 (mm2 ad bd n)])∧Hp B H0 H (ownRs 22 2 q c vs (if mm2 ad bd n=0 then mmS ad af bd bf ms n else [])::L) w':=by
 refine Jz Tryz.func95 rfl 69 rfl rfl [(0,.agg [.slice qad ad.length cad,.slice qaf af.length caf].toArray),(1,.agg [.slice qbd bd.length cbd,.slice qbf bf.length cbf].toArray),(2,.slice qms ms.length cms),(3,.int .i64 n)] rfl hH ?_;have hw0:=hH.old;have hw1:=hH.le;clear hH;have hGa:=isMp_1 hM;have hGb:=isMp_2 hM
 have hak:askB n=true:=by unfold askB;rw [decide_eq_true hn.1,decide_eq_true hn.2];rfl
 have hAa:=isAlg_ok hGa haf.wfss;have hAb:=isAlg_ok hGb hbf.wfss;have hda:=alg_112 hGa;have hdb:=alg_112 hGb;have h8a:=hAa.hn;have h8b:=hAb.hn;have hml:=isMp_l hM;have hcna:=csS_len (n:=n) hAa h8a hda;have hcnb:=csS_len (n:=n) hAb h8b hdb;refine Je fun _ hK1 _=>(Jb (Ed rfl rfl rfl fun g4=>(Ed rfl rfl rfl fun g5=>(Jg (Jd rfl) rfl (Jg (Jd rfl) rfl (Jf (Ja (hK1 (Je fun _ hK2 _=>(Jb (Jg (Jx rfl (.s .z) (by simpa [*] using ag35)) rfl (Jg (Jc rfl) rfl (Jw fn147 rfl rfl fun w hH=>(sClassForms_c had haf (by omega) (by omega) hl9 hH).mono ?_)))))))))))));rintro _ w ⟨qo21,co21,vso21,rfl,hH⟩;refine ⟨_,rfl,fun a hF=>JK hF hH ?_⟩;refine Jg (Jc rfl) rfl (Jg (JQ rfl rfl) rfl (Jg (JQ rfl rfl) rfl (Jg (Jd rfl) rfl (Jg (Jd rfl) rfl (Ez .z fun Ho21 hleo21 hAo21=>?_)))));replace had:=had.le hleo21;replace haf:=haf.le hleo21;replace hbd:=hbd.le hleo21;replace hbf:=hbf.le hleo21;replace hms:=hms.le hleo21;have hxo21:=(own_forms (clF_wf hGa haf.wfss) hAo21);have hco21:=own_le hAo21.1;refine Jf (Ja (hK2 (Je fun _ hK3 _=>(Jb (Jg (Jx rfl At.z (by simpa [*] using ag35)) rfl (Jg (Jc rfl) rfl (Jw fn147 rfl rfl fun w hH=>(sClassForms_c hbd hbf (by omega) (by omega) hbl9 hH).mono ?_)))))));rintro _ w ⟨qo27,co27,vso27,rfl,hH⟩;refine ⟨_,rfl,fun a hF=>JK hF hH ?_⟩;refine Jg (Jc rfl) rfl (Jg (JQ rfl rfl) rfl (Jg (JQ rfl rfl) rfl (Jg (Jd rfl) rfl (Jg (Jd rfl) rfl (Ez .z fun Ho27 hleo27 hAo27=>?_)))));replace had:=had.le hleo27;replace haf:=haf.le hleo27;replace hbd:=hbd.le hleo27;replace hbf:=hbf.le hleo27;replace hms:=hms.le hleo27;replace hxo21:=hxo21.le hleo27;have hxo27:=(own_forms (clF_wf hGb hbf.wfss) hAo27);have hco27:=own_le hAo27.1;refine Jf (Ja (hK3 (Je fun _ hK4 _=>(Jm (Je fun _ hK5 _=>(Jb (Jg (Jc rfl) rfl (Jg (Em rfl rfl) rfl (Jg (Jd rfl) rfl (Jf (Ja (hK5 (Jp rfl (fun h30=>?_) (fun h30=>?_))))))))))))))
 ·
  obtain ⟨e3,hno⟩:=cdC_n hGa hak h30;refine Je fun _ hK6 _=>(Jb (Jg (Jc rfl) rfl (Jg (Jd rfl) rfl (Jg (Jd rfl) rfl (Jf (Ja (hK6 (Js (JT (Jk (EC rfl (Res.tmp rfl) (Res.tmp rfl) fun w hH=>?_)))))))))));replace hH:=hH.sublist (.cons _ (.cons _ (List.Sublist.refl _)));rw [show (if mm2 ad bd n=0 then mmS ad af bd bf ms n else [])=[] from if_neg (by rw [mm2_n1 hno];decide),e3,mm2_n1 hno];exact ⟨none,0,nilVs,rfl,(Hp.rsNil 22 2 (hH.own0 22 1)).weaken (hleo21.trans hleo27) hw0 hw1⟩
 ·
  obtain ⟨e0,har⟩:=cdC_0 hGa hak h30;have hf1:=ar_fit3 har;have hla:=clF_len e0;refine Je fun _ hK7 _=>(Jb (Jg (Jc rfl) rfl (Jg (Em rfl rfl) rfl (Jg (Jd rfl) rfl (Jf (Ja (hK7 (Jp rfl (fun h34=>?_) (fun h34=>?_)))))))))
  ·
   obtain ⟨e3,hno⟩:=cdC_n hGb hak h34;refine Je fun _ hK8 _=>(Jb (Jg (Jc rfl) rfl (Jg (Jd rfl) rfl (Jg (Jd rfl) rfl (Jf (Ja (hK8 (Js (JT (Jk (EC rfl (Res.tmp rfl) (Res.tmp rfl) fun w hH=>?_)))))))))));replace hH:=hH.sublist (.cons _ (.cons _ (List.Sublist.refl _)));rw [show (if mm2 ad bd n=0 then mmS ad af bd bf ms n else [])=[] from if_neg (by rw [mm2_n2 hno];decide),e3,mm2_n2 hno];exact ⟨none,0,nilVs,rfl,(Hp.rsNil 22 2 (hH.own0 22 1)).weaken (hleo21.trans hleo27) hw0 hw1⟩
  ·
   obtain ⟨e0b,harb⟩:=cdC_0 hGb hak h34;have hf2:=ar_fit3 harb;have hlb:=clF_len e0b;refine Jo (JF (Ja (hK4 (Je fun _ hK9 _=>(Jb (EH (EP u57 sz22) rfl fun qo38 co38=>(J.is0 2 (Jg (Jd rfl) rfl (Jf (Ja (hK9 (Je fun _ hK10 _=>(Je fun _ hK11 _=>(Jb (Jg (Jd rfl) rfl (Jf ?_))))))))))))))));refine Ja (hK11 (Jm (JD (σ:=Option Addr × Nat × Vs × Nat) (fun ⟨q,c,vs,i⟩=>[(15,.int .i64 (i:Int)),(14,.slice q i c)]) (fun ⟨q,c,vs,i⟩=>Ho27) (fun ⟨q,c,vs,i⟩=>ownIs 2 vs (mmK ad af bd bf ms n i)::own 22 1 q i c (slicesI vs (mmK ad af bd bf ms n i))::obj g5 (.cells [.slice qbd bd.length cbd,.slice qbf bf.length cbf].toArray 35 (0,0))::obj g4 (.cells [.slice qad ad.length cad,.slice qaf af.length caf].toArray 35 (0,0))::L) (fun ⟨q,c,vs,i⟩=>i≤(csS ad af n).length) (fun ⟨q,c,vs,i⟩=>(csS ad af n).length - i) (qo38,co38,nilVs,0) (by show 0≤_;omega) ⟨rfl,⟨rfl,trivial⟩⟩ rfl rfl ?_)));rintro ⟨q,c,vs,i⟩ hi _ hAg0;refine Je fun _ hK12 _=>(Je fun _ hK13 _=>(Jb (Jg (Jc rfl) rfl (Jg (Jc rfl) rfl (Jg (Jn u33 rfl rfl) rfl (Jg (JM rfl rfl) rfl (Jf (Ja (hK13 (Jp rfl (fun h42=>?_) (fun h42=>?_)))))))))))
   ·
    have hil:i<(csS ad af n).length:=by omega
    have hrm:=rw_mem hil;have hfa:=clF_at e0 hAa h8a hda hil;have hfl:=clF_flen e0 hil;have hLd:=Ld.cls hM haf.wfss hms.wfss hn.2 hrm;have hik:=im_mon hM haf.wfss hbf.wfss hms.wfss hn.2 hf2.1.1 hrm;have his:=im_sok hM haf.wfss hms.wfss hn.2 hrm;unfold imS at hik his;have hlen:=sok_mon his hik;have hmn9:=monL_len bd n;rw [← hfa] at hLd hik his hlen;refine Jo (Ja (hK12 (Je fun _ hK14 _=>(Jm (Je fun _ hK15 _=>(El (Rs:=[_,_,_,_]) 10 [[], [0], [], [], [], [3,4], [3,4,5], [0,1,2,3,4,5,6], [], [0,1,2,3,4,5,6,7,8]] [[], [12], [], [], [], [], [], [], [], []] [[], [], [], [], [], [], [], [], [], [8]] rfl rfl (by kernel_rfl) ?_))))));apply Jl 1 rfl
    iterate 3 focus (intros;(conv=>lhs;simp only [Jh,Jt,JN,Ju,JI,eq_self,Nat.reduceEqDiff,reduceIte,Nat.reduceSub,Nat.reduceAdd,List.cons_append,List.nil_append]);all_goals rfl)
    ·
     intro gh X K zq zc zq2 zc2 zb zv hK;refine Jg (Jv u35 rfl sz22 rfl) rfl (Ji ?_);exact hK zq zc zq2 zc2 zb zv
    ·
     intro gh gh' h
     rfl
    apply Jl 2 rfl
    iterate 3 focus (intros;(conv=>lhs;simp only [Jh,Jt,JN,Ju,JI,eq_self,Nat.reduceEqDiff,reduceIte,Nat.reduceSub,Nat.reduceAdd,List.cons_append,List.nil_append]);all_goals rfl)
    ·
     intro gh X K zq zc zq2 zc2 zb zv hK;refine Jg (Jy rfl At.z rfl pl22) rfl (Ji ?_);exact hK zq zc zq2 zc2 zb zv
    ·
     intro gh gh' h
     rfl
    apply Jl 3 rfl
    iterate 3 focus (intros;(conv=>lhs;simp only [Jh,Jt,JN,Ju,JI,eq_self,Nat.reduceEqDiff,reduceIte,Nat.reduceSub,Nat.reduceAdd,List.cons_append,List.nil_append]);all_goals rfl)
    ·
     intro gh X K zq zc zq2 zc2 zb zv hK;refine Jg (Jc rfl) rfl (Ji ?_);exact hK zq zc zq2 zc2 zb zv
    ·
     intro gh gh' h
     rfl
    apply Jl 4 rfl
    iterate 3 focus (intros;(conv=>lhs;simp only [Jh,Jt,JN,Ju,JI,eq_self,Nat.reduceEqDiff,reduceIte,Nat.reduceSub,Nat.reduceAdd,List.cons_append,List.nil_append]);all_goals rfl)
    ·
     intro gh X K zq zc zq2 zc2 zb zv hK;refine Jg (Jc rfl) rfl (Ji ?_);exact hK zq zc zq2 zc2 zb zv
    ·
     intro gh gh' h
     rfl
    apply Jl 5 rfl
    iterate 3 focus (intros;(conv=>lhs;simp only [Jh,Jt,JN,Ju,JI,eq_self,Nat.reduceEqDiff,reduceIte,Nat.reduceSub,Nat.reduceAdd,List.cons_append,List.nil_append]);all_goals rfl)
    ·
     intro gh X K zq zc zq2 zc2 zb zv hK;refine Jg (Jc rfl) rfl (Ji ?_);exact hK zq zc zq2 zc2 zb zv
    ·
     intro gh gh' h
     rfl
    apply Jl 6 rfl
    iterate 3 focus (intros;(conv=>lhs;simp only [Jh,Jt,JN,Ju,JI,eq_self,Nat.reduceEqDiff,reduceIte,Nat.reduceSub,Nat.reduceAdd,List.cons_append,List.nil_append]);all_goals rfl)
    ·
     intro gh X K zq zc zq2 zc2 zb zv hK;refine Jg (JO u33 sz39 rfl rfl rfl (by omega) hxo21.sm) rfl (Ji ?_);exact hK zq zc zq2 zc2 zb zv
    ·
     intro gh gh' h
     rfl
    obtain ⟨qe51,ce51,he51,le51,Fe51⟩:=hxo21 i (by omega);apply Jl 7 rfl
    iterate 3 focus (intros;(conv=>lhs;simp only [Jh,Jt,JN,Ju,JI,eq_self,Nat.reduceEqDiff,reduceIte,Nat.reduceSub,Nat.reduceAdd,List.cons_append,List.nil_append]);all_goals rfl)
    ·
     intro gh X K zq zc zq2 zc2 zb zv hK;refine Jg (JR (cs:=[_]) rfl (one_cell he51) (hxo21.sm (i:=i) (by omega)) ag39) rfl (Ji ?_);exact hK zq zc zq2 zc2 zb zv
    ·
     intro gh gh' h
     rfl
    apply Ea 8 rfl
    iterate 3 focus (intros;(conv=>lhs;simp only [Jh,Jt,JN,Ju,JI,eq_self,Nat.reduceEqDiff,reduceIte,Nat.reduceSub,Nat.reduceAdd,List.cons_append,List.nil_append]);all_goals rfl)
    ·
     intro gh X K zq zc zq2 zc2 zb zv hK;refine Jw fn148 rfl rfl fun w hH=>(l04Apply_c hbd hms Fe51 hLd (by omega) (by omega) (by omega) hH).mono ?_;rintro _ w ⟨qo52,co52,rfl,hH⟩;refine ⟨_,rfl,fun a hF=>JK hF hH ?_⟩;refine Ji ?_;exact hK qo52 co52 zq2 zc2 zb zv
    ·
     intro gh gh' h;refine ⟨?_,?_⟩ <;> rfl
    apply Ea 9 rfl
    iterate 3 focus (intros;(conv=>lhs;simp only [Jh,Jt,JN,Ju,JI,eq_self,Nat.reduceEqDiff,reduceIte,Nat.reduceSub,Nat.reduceAdd,List.cons_append,List.nil_append]);all_goals rfl)
    ·
     intro gh X K zq zc zq2 zc2 zb zv hK;refine JV ze39 rfl fun g16=>(Ji ?_);exact hK zq zc zq2 zc2 g16 zv
    ·
     intro gh gh' h;refine ⟨?_,?_⟩ <;> rfl
    apply ER 10 rfl
    iterate 3 focus (intros;(conv=>lhs;simp only [Jh,Jt,JN,Ju,JI,eq_self,Nat.reduceEqDiff,reduceIte,Nat.reduceSub,Nat.reduceAdd,List.cons_append,List.nil_append]);all_goals rfl)
    ·
     intro gh X K hK;refine JJ rfl rfl (by first | exact bytesC_one _ | exact intsC_one _ | exact Term.c_one _ | simp [Value.oneCell']) (by simpa [*] using sz39) (by simp [*]) At.z (Ji ?_);exact hK
    ·
     intro gh gh' h
     first | simp only [h 7 rfl,h 8 rfl] | rfl
    apply Ej [0,1,2,3,4,5,6,7,8,9] [0,1,2,3,4,5,6,7,9,10,11,12,13] foll0 rfl rfl rfl (by rfl)
    iterate 2 focus (intros;(conv=>lhs;simp only [Jh,Jt,JN,Ju,JI,eq_self,Nat.reduceEqDiff,reduceIte,Nat.reduceSub,Nat.reduceAdd,List.cons_append,List.nil_append]);all_goals rfl)
    intro gh;generalize (gh 7).c=co52;generalize (gh 7).q=qo52;generalize (gh 8).b=g16;clear gh;refine Ja (hK15 (Je fun _ hK16 _=>(Jb (Jg (Jc rfl) rfl (Jg (Jn u33 rfl rfl) rfl (EH (MK.makeI (m:=(clF bd bf n).length) u22 ze2 sz2 by2 rfl rfl rfl rfl (by omega)) rfl fun qo55 co55=>(Jg (Jd rfl) rfl (Jf (Ja (hK16 (CJ.cutU (σ:=Option Addr × Nat) (fun ⟨qr,cr⟩=>[(17,.slice qr (mmR ad bd bf ms n (rw_ (csS ad af n) i)).length cr)]) (fun ⟨qr,cr⟩=>Ho27) (fun ⟨qr,cr⟩=>own 2 1 qr (mmR ad bd bf ms n (rw_ (csS ad af n) i)).length cr (intsC (mmR ad bd bf ms n (rw_ (csS ad af n) i)))::ownIs 2 vs (mmK ad af bd bf ms n i)::own 22 1 q i c (slicesI vs (mmK ad af bd bf ms n i))::obj g5 (.cells [.slice qbd bd.length cbd,.slice qbf bf.length cbf].toArray 35 (0,0))::obj g4 (.cells [.slice qad ad.length cad,.slice qaf af.length caf].toArray 35 (0,0))::L) (fun ⟨qr,cr⟩=>True) ?_ ?_)))))))))))
    ·
     intro _ hMt1;refine Je fun _ hK17 _=>(Jb (Jg (Jv u39 rfl sz37 rfl) rfl (Jg (Jy rfl (.s (.s .z)) rfl pl37) rfl (Jg (Jn u37 rfl rfl) rfl (Jg (EB rfl rfl) rfl (Jf (Ja (hK17 (Jp rfl (fun h59=>?_) (fun h59=>?_))))))))))
     ·
      refine Jb (Jg (Jx rfl (.s (.s (.s (.s (.s .z))))) (by simpa [*] using ag35)) rfl (Jg (Jc rfl) rfl (Jg (Jx rfl (.s (.s .z)) (by simpa [*] using ag39)) rfl (Jw fn69 rfl rfl fun w hH=>hH.lend (.s .z) fun Hl1 hle1 hA1 hB1 hH=>(l03Class_c (M:=20) (hbd.le hle1) (hbf.le hle1) (own_terms (his.wf (by omega)) hA1) hGb (by omega) hf2 (by rw [ofS_len];omega) (by rw [toS_ofS];exact his) (by rw [toS_ofS];exact hik) hH).mono ?_))));rintro _ w ⟨qo63,co63,rfl,hH⟩;replace hH:=hB1 _ _ hH;refine ⟨_,rfl,fun a hF=>JK hF hH ?_⟩;refine Jg (Jd rfl) rfl (Jf (Ja (JL .z (JL (.s .z) (JL (.s .z) ?_)))));exact hMt1 (qo63,co63) trivial 9 rfl rfl ⟨(by rw [toS_ofS,hfa];rfl),trivial⟩ rfl (by rw [toS_ofS,hfa];rfl)
     ·
      have hz9:mmR ad bd bf ms n (rw_ (csS ad af n) i)=List.replicate (clF bd bf n).length 0:=by rw [hlb];exact mmR_0 hGb hbf.wfss (by unfold imS;rw [← hfa];rw [ofS_len] at h59;exact List.eq_nil_of_length_eq_zero (by omega))
      refine Jo (Ja (JL (.s .z) (JL (.s .z) ?_)));exact hMt1 (qo55,co55) trivial 4 rfl rfl ⟨(by rw [hz9,List.length_replicate];rfl),trivial⟩ rfl (by rw [hz9,List.length_replicate])
    ·
     rintro ⟨qr,cr⟩ _;refine Jb (Jg (Jc rfl) rfl (Jg (Jc rfl) rfl (EH (EK u57 ze22 sz22 rfl rfl) rfl fun qo66 co66=>(ED u57 ze22 sz22 by22 rfl rfl rfl rfl (by omega) .z (.s (.s .z)) (fun _ _=>(.s (.s .z))) rfl fun qo67 co67=>(Jg (Jd rfl) rfl (Jf (JF (Ja (hK14 (Jb (Jg (Jc rfl) rfl (Jg (JC rfl rfl (by first | exact nw _ (by omega) | rfl)) rfl (Jg (Jd rfl) rfl (Jf (Ja ?_)))))))))))))));refine Jr (.s (.s (.s (.s (.s .z))))) (Jr (.s (.s (.s (.s (.s .z))))) (Jr (.s (.s (.s (.s (.s .z))))) (Jr (.s (.s (.s .z))) (Jr (.s (.s (.s (.s (.s .z))))) (Jr (.s (.s (.s (.s (.s .z))))) (EJ.isSnoc (rs:=mmK ad af bd bf ms n i) (mmK_len hi) rfl (JL (.s .z) ?_)))))));exact hAg0 (qo67,co67,setV vs i (qr,cr),i+1) (by show i+1≤_;omega) (by show (csS ad af n).length - (i+1)<(csS ad af n).length - i;omega) 28 rfl rfl ⟨rfl,⟨rfl,trivial⟩⟩ rfl (by dsimp only;rw [mmK_succ hil,slicesI_set (mmK_len hi)])
   ·
    refine JG (Jj (Jj (JP (Ja (hK10 (Je fun _ hK18 _=>(Jb (Jg (Jc rfl) rfl (Jg (Jd rfl) rfl (Jg (Jd rfl) rfl (Jf (Ja (hK18 (Js (EC rfl (Res.tmp rfl) (Res.tmp rfl) fun w hH=>?_)))))))))))))));replace hH:=hH.sublist (.cons_cons _ (.cons_cons _ (.cons _ (.cons _ (List.Sublist.refl _)))))
    obtain rfl:i=(csS ad af n).length:=by omega
    rw [mmK_end rfl] at hH;rw [show (if mm2 ad bd n=0 then mmS ad af bd bf ms n else [])=mmS ad af bd bf ms n from if_pos (mm2_y har harb),mm2_y har harb];exact ⟨q,c,vs,by rw [mmS_len],by unfold ownRs;rw [mmS_len];exact ((hH.front (.s .z)).star).weaken (hleo21.trans hleo27) hw0 hw1⟩
section
variable {ad bd : List Int} {af bf ms : List (List Term)} {n : Int}
theorem mmC_n (h:mm1 ad af bd bf ms n≠0):mmC ad af bd bf ms n=mm1 ad af bd bf ms n:=if_neg h
theorem mmC_y (h : ¬mm1 ad af bd bf ms n≠0):mmC ad af bd bf ms n=mm2 ad bd n:=if_pos (Decidable.not_not.1 h)
theorem mmV_n (h:mm1 ad af bd bf ms n≠0):mmV ad af bd bf ms n=[]:=if_neg (by rw [mmC_n h];exact h)
theorem mmV_y (h : ¬mm1 ad af bd bf ms n≠0):mmV ad af bd bf ms n=if mm2 ad bd n=0 then mmS ad af bd bf ms n else []:=by unfold mmV;rw [mmC_y h]
end
theorem sMapMatrix_c {B:World} {H0 H:HP} {L:List SA} {w:World} {qad qaf:Option Addr} {cad caf:Nat} {ad:List Int} {af:List (List Term)} {qbd qbf:Option Addr} {cbd cbf:Nat} {bd:List Int} {bf:List (List Term)} {qms:Option Addr} {cms:Nat} {ms:List (List Term)} {n:Int} (had:Ints H qad ad) (haf:Forms H qaf af) (hbd:Ints H qbd bd) (hbf:Forms H qbf bf) (hms:Forms H qms ms) (hn8:ad.length≤1048576) (hn9:af.length≤1048576) (hl9 : ∀i,i<af.length→(fm af i).length≤1048576) (hbn8:bd.length≤1048576) (hbn9:bf.length≤1048576) (hbl9 : ∀i,i<bf.length→(fm bf i).length≤1048576) (hmn9:ms.length≤1048576) (hml9 : ∀i,i<ms.length→(fm ms i).length≤1048576) (hH:Hp B H0 H L w):Calls Tryz.prog 49 [.agg [.slice qad ad.length cad,.slice qaf af.length caf].toArray,.agg [.slice qbd bd.length cbd,.slice qbf bf.length cbf].toArray,.slice qms ms.length cms,.int .i64 n].toArray w fun e w'=>∃q c vs,e = .returned (.tuple #[.slice q (mmV ad af bd bf ms n).length c,.int .i64 (mmC ad af bd bf ms n)])∧Hp B H0 H (ownRs 22 2 q c vs (mmV ad af bd bf ms n)::L) w':=by
 refine Jz Tryz.func49 rfl 26 rfl rfl [(0,.agg [.slice qad ad.length cad,.slice qaf af.length caf].toArray),(1,.agg [.slice qbd bd.length cbd,.slice qbf bf.length cbf].toArray),(2,.slice qms ms.length cms),(3,.int .i64 n)] rfl hH ?_;have hw0:=hH.old;have hw1:=hH.le;clear hH;refine Je fun _ hK1 _=>(Jb (Ed rfl rfl rfl fun g4=>(Ed rfl rfl rfl fun g5=>(Jg (Jd rfl) rfl (Jg (Jd rfl) rfl (Jf (Ja (hK1 (Je fun _ hK2 _=>(Je fun _ hK3 _=>(Jb (Jg (Jx rfl (.s .z) (by simpa [*] using ag35)) rfl (Jg (Jx rfl At.z (by simpa [*] using ag35)) rfl (Jg (Jc rfl) rfl (Jg (Jc rfl) rfl ?_)))))))))))))));refine Jw fn94 rfl rfl fun w hH=>(l04Code_c had haf hbd hbf hms hn8 hn9 hl9 hbn8 hbn9 hbl9 hmn9 hml9 hH).mono ?_;rintro _ w ⟨rfl,hH⟩;refine ⟨_,rfl,fun a hF=>JK hF hH ?_⟩;refine Jg (Jd rfl) rfl (Jf (Ja (hK3 (Je fun _ hK4 _=>(Jb (Jg (Jc rfl) rfl (Jg (Em rfl rfl) rfl (Jf (Ja (hK4 (Jp rfl (fun h17=>?_) (fun h17=>?_))))))))))))
 ·
  refine Je fun _ hK5 _=>(Jb (Jg (Jc rfl) rfl (Jg (Jd rfl) rfl (Jg (Jd rfl) rfl (Jf (Ja (hK5 (Js (Jk (EC rfl (Res.tmp rfl) (Res.tmp rfl) fun w hH=>?_))))))))));replace hH:=hH.sublist (.cons _ (.cons _ (List.Sublist.refl _)));rw [mmV_n h17,mmC_n h17];exact ⟨none,0,nilVs,rfl,Hp.rsNil 22 2 (hH.own0 22 1)⟩
 ·
  obtain ⟨hM,hak⟩:=mm1_y h17;have hask:=askB_y hak;refine Jo (Ja (hK2 (Je fun _ hK6 _=>(Jb (Jg (Jx rfl (.s .z) (by simpa [*] using ag35)) rfl (Jg (Jx rfl At.z (by simpa [*] using ag35)) rfl (Jg (Jc rfl) rfl (Jg (Jc rfl) rfl (Jw fn95 rfl rfl fun w hH=>(l04Matrix_c had haf hbd hbf hms hn8 hn9 hl9 hbn8 hbn9 hbl9 hmn9 hml9 hM hask hH).mono ?_)))))))));rintro _ w ⟨qo23,co23,vso23,rfl,hH⟩;refine ⟨_,rfl,fun a hF=>JK hF hH ?_⟩;refine Jg (JQ rfl rfl) rfl (Jg (JQ rfl rfl) rfl (Jg (Jd rfl) rfl (Jg (Jd rfl) rfl (Jf (Ja (hK6 (Js (EC rfl (Res.tmp rfl) (Res.tmp rfl) fun w hH=>?_))))))));replace hH:=hH.sublist (.cons_cons _ (.cons _ (.cons _ (List.Sublist.refl _))));rw [mmV_y h17,mmC_y h17];exact ⟨_,_,_,rfl,hH⟩
theorem fn100:Fn Tryz.prog 100:=⟨_,Tryz.func100,by kernel_rfl,rfl⟩
theorem fn50:Fn Tryz.prog 50:=⟨_,Tryz.func50,by kernel_rfl,rfl⟩
theorem fn97:Fn Tryz.prog 97:=⟨_,Tryz.func97,by kernel_rfl,rfl⟩
def moR (cad xad:List Int) (xaf:List (List Term)) (ldt:List Int) (lds:Nat→Sm) (N:Nat) (n:Int) (r:List Int):List Int:=clV xad xaf n ((monL xad n).map (cf (leadS ldt lds N (sumR (monL cad n) r))))
def moK (cad:List Int) (caf:List (List Term)) (xad:List Int) (xaf:List (List Term)) (ldt:List Int) (lds:Nat→Sm) (N:Nat) (n:Int) (k:Nat):List (List Int):=((csS cad caf n).take k).map (moR cad xad xaf ldt lds N n)
def moS (cad:List Int) (caf:List (List Term)) (xad:List Int) (xaf:List (List Term)) (ldt:List Int) (lds:Nat→Sm) (N:Nat) (n:Int):List (List Int):=(csS cad caf n).map (moR cad xad xaf ldt lds N n)
section
variable {cad xad : List Int} {caf xaf : List (List Term)} {ldt : List Int} {lds : Nat → Sm} {N : Nat} {n : Int}
theorem moK_len {k:Nat} (hk:k≤(csS cad caf n).length):(moK cad caf xad xaf ldt lds N n k).length=k:=by
 unfold moK;rw [List.length_map,List.length_take_of_le hk]
theorem moK_succ {k:Nat} (hk:k<(csS cad caf n).length):moK cad caf xad xaf ldt lds N n (k+1)=moK cad caf xad xaf ldt lds N n k++[moR cad xad xaf ldt lds N n (rw_ (csS cad caf n) k)]:=by
 unfold moK;rw [List.take_succ_eq_append_getElem hk,List.map_append]
 show _=_++[moR cad xad xaf ldt lds N n (rw_ (csS cad caf n) k)]
 unfold rw_;rw [List.getD_eq_getElem?_getD,List.getElem?_eq_getElem hk]
 rfl
theorem moK_end {k:Nat} (hk:k=(csS cad caf n).length):moK cad caf xad xaf ldt lds N n k=moS cad caf xad xaf ldt lds N n:=by
 unfold moK moS;rw [hk,List.take_length]
theorem moS_len:(moS cad caf xad xaf ldt lds N n).length=(csS cad caf n).length:=by simp [moS]
end
theorem matrixOf_c {B:World} {H0 H:HP} {L:List SA} {w:World} {bld kbld nld:Nat} {qldf qldt qldi:Option Addr} {cldf cldt cldi:Nat} {ldf ldt:List Int} {lds:Nat→Sm} {bc lc:Nat} {bca:Nat} {qcad qcaf:Option Addr} {ccad ccaf:Nat} {cad:List Int} {caf:List (List Term)} {lsc:List (Int × Lv)} {bx lx:Nat} {bxa:Nat} {qxad qxaf:Option Addr} {cxad cxaf:Nat} {xad:List Int} {xaf:List (List Term)} {lsx:List (Int × Lv)} {n:Int} {km:Nat} {kv:Vs} (pld0:CellAt H bld 0 (.slice qldf ldf.length cldf)) (pld1:CellAt H bld 1 (.slice qldt ldt.length cldt)) (pld2:CellAt H bld 2 (.slice qldi nld cldi)) (pld3:CellAt H bld 3 (.map (some kbld))) (hldf:Ints H qldf ldf) (hldt:Ints H qldt ldt) (hldi:ImR H qldi nld lds) (pc0:CellAt H bc 0 (.pointer (some ⟨bca,0,none⟩))) (pc1:CellAt H bc 1 (.map (some lc))) (pcad:CellAt H bca 0 (.slice qcad cad.length ccad)) (pcaf:CellAt H bca 1 (.slice qcaf caf.length ccaf)) (hcad:Ints H qcad cad) (hcaf:Forms H qcaf caf) (px0:CellAt H bx 0 (.pointer (some ⟨bxa,0,none⟩))) (px1:CellAt H bx 1 (.map (some lx))) (pxad:CellAt H bxa 0 (.slice qxad xad.length cxad)) (pxaf:CellAt H bxa 1 (.slice qxaf xaf.length cxaf)) (hxad:Ints H qxad xad) (hxaf:Forms H qxaf xaf) (hGc:isAlg cad caf=true) (hGx:isAlg xad xaf=true) (hn:0≤n∧n≤20) (hfit:fit3 cad n) (hfix:fit3 xad n) (hCc:CpxOk H cad caf (fun _=>False) lsc) (hNc:Nxt (fun _=>False) lsc) (hCx:CpxOk H xad xaf (fun _=>False) lsx) (hNx:Nxt (fun _=>False) lsx) (hnn:ldf.length=nld) (hn8:nld≤8) (hLd : ∀r∈csS cad caf n,Ld ldt cad lds ldf.length 20 (sumR (monL cad n) r)) (him : ∀r∈csS cad caf n,∀x∈leadS ldt lds ldf.length (sumR (monL cad n) r),x.1∈monL xad n) (hH:Hp B H0 H (knw (kF ldt lds) kbld km kv::cpx lc lsc::cpx lx lsx::L) w):Calls Tryz.prog 100 [.pointer (some ⟨bld,0,none⟩),.pointer (some ⟨bc,0,none⟩),.pointer (some ⟨bx,0,none⟩),.int .i64 n].toArray w fun e w'=>∃H' lc' lx' m' vs' q c vs,Le H H' ∧(CpxOk H' cad caf (fun _=>False) lc' ∧Nxt (fun _=>False) lc')∧(CpxOk H' xad xaf (fun _=>False) lx' ∧Nxt (fun _=>False) lx')∧e = .returned (.slice q (moS cad caf xad xaf ldt lds ldf.length n).length c)∧Hp B H0 H' (ownRs 22 2 q c vs (moS cad caf xad xaf ldt lds ldf.length n)::cpx lc lc'::knw (kF ldt lds) kbld m' vs'::cpx lx lx'::L) w':=by
 refine Jz Tryz.func100 rfl 39 rfl rfl [(0,.pointer (some ⟨bld,0,none⟩)),(1,.pointer (some ⟨bc,0,none⟩)),(2,.pointer (some ⟨bx,0,none⟩)),(3,.int .i64 n)] rfl hH ?_;clear hH;have hwc:=hcaf.wfss;have hAc:=isAlg_ok hGc hwc;have h8c:=hAc.hn;have hdc:=alg_112 hGc;have hml:=monL_len cad n;have hcsR:=csS_red (n:=n) hAc h8c hdc;have hcsl:=csS_len (n:=n) hAc h8c hdc;have hbdR:=bdS_red (n:=n) hAc h8c hdc;have hbdl:=bdS_len (n:=n) hAc h8c hdc;have hclR:=clS_red (n:=n) hAc h8c hdc;have hcll:=clS_len (n:=n) hAc h8c hdc;have hwx:=hxaf.wfss;have hAx:=isAlg_ok hGx hwx;have h8x:=hAx.hn;have hdx:=alg_112 hGx;refine Je fun _ hK1 _=>(Jb (Jg (Jd rfl) rfl (Jf (Ja (hK1 (Je fun _ hK2 _=>(Jb (EH (EP u57 sz22) rfl fun qo12 co12=>(J.is0 2 (Jg (Jd rfl) rfl (Jf (Ja (hK2 (Je fun _ hK3 _=>(Je fun _ hK4 _=>(Jb ?_))))))))))))))));refine Jg (Jc rfl) rfl (Jg (Jc rfl) rfl (Jw fn68 rfl rfl fun w hH=>(at_c pc0 pc1 pcad pcaf hcad hcaf hdc h8c (by omega) hAc hfit (fun m hm hf=>hom_of hGc hwc h8c hdc (by omega) hf) hCc hNc (hH.front (.s (.s (.s .z))))).mono ?_));rintro _ w ⟨Hf15,ls15,⟨b15,p15,⟨ql15,kl15,cl15⟩,⟨qm15,km15,cm15⟩,⟨qz15,kz15,cz15⟩,⟨qy15,ky15,cy15⟩,⟨qx15,kx15,cx15⟩⟩,hlf15,hC15,hN15,hx15,⟨hL15,hM15,hkp15⟩,rfl,hH⟩;refine ⟨_,rfl,fun a hF=>JK hF hH ?_⟩;replace pld0:=pld0.le hlf15;replace pld1:=pld1.le hlf15;replace pld2:=pld2.le hlf15;replace pld3:=pld3.le hlf15;replace hldf:=hldf.le hlf15;replace hldt:=hldt.le hlf15;replace hldi:=hldi.le hlf15;replace pc0:=pc0.le hlf15;replace pc1:=pc1.le hlf15;replace pcad:=pcad.le hlf15;replace pcaf:=pcaf.le hlf15;replace hcad:=hcad.le hlf15;replace hcaf:=hcaf.le hlf15;replace px0:=px0.le hlf15;replace px1:=px1.le hlf15;replace pxad:=pxad.le hlf15;replace pxaf:=pxaf.le hlf15;replace hxad:=hxad.le hlf15;replace hxaf:=hxaf.le hlf15;replace hCc:=hCc.le hlf15;replace hCx:=hCx.le hlf15;obtain rfl:kl15=(monL cad (n)).length:=(hC15.ok _ hx15).one.len;have hpw15:Pows Hf15 ql15 (monL cad (n)):=(hC15.ok _ hx15).one.pw;have hpl15:SumH Hf15 (.map (some p15)) (plM (monL cad (n))):=(hC15.ok _ hx15).one.pl;obtain ⟨⟨e1,hz15⟩,⟨e2,hb15⟩,e3,hs15⟩:(kz15=(clS cad caf (n)).length∧RowsR Hf15 qz15 (clS cad caf (n)))∧(ky15=(bdS cad caf (n)).length∧RowsR Hf15 qy15 (bdS cad caf (n)))∧kx15=(csS cad caf (n)).length∧RowsR Hf15 qx15 (csS cad caf (n)):=hL15;subst e1 e2 e3;refine Jg (JH rfl) rfl (Jg (Jv u95 rfl sz57 rfl) rfl (Jg (PR.loadCx (b:=b15) (k:=5) (v:=.slice qx15 (csS cad caf (n)).length cx15) rfl At.z hx15 rfl rfl pl57) rfl (Jg (Jn u57 rfl rfl) rfl (Jg (Jc rfl) rfl (Jf (Ja (hK4 (Jm (JD (σ:=HP × List (Int × Lv) × List (Int × Lv) × Nat × Vs × Option Addr × Nat × Vs × Nat) (fun ⟨Hk,lck,lxk,mk,vk,q,c,vs,k⟩=>[(20,.int .i64 (k:Int)),(9,.slice q k c)]) (fun ⟨Hk,lck,lxk,mk,vk,q,c,vs,k⟩=>Hk) (fun ⟨Hk,lck,lxk,mk,vk,q,c,vs,k⟩=>cpx lc lck::ownIs 2 vs (moK cad caf xad xaf ldt lds ldf.length n k)::own 22 1 q k c (slicesI vs (moK cad caf xad xaf ldt lds ldf.length n k))::knw (kF ldt lds) kbld mk vk::cpx lx lxk::L) (fun ⟨Hk,lck,lxk,mk,vk,q,c,vs,k⟩=>Le Hf15 Hk∧(CpxOk Hk cad caf (fun _=>False) lck∧Nxt (fun _=>False) lck)∧(CpxOk Hk xad xaf (fun _=>False) lxk∧Nxt (fun _=>False) lxk)∧k≤(csS cad caf n).length) (fun ⟨Hk,lck,lxk,mk,vk,q,c,vs,k⟩=>(csS cad caf n).length - k) (_,ls15,lsx,km,kv,qo12,co12,nilVs,0) ⟨Le.refl _,⟨hC15,hN15⟩,⟨hCx,hNx⟩,by show 0≤_;omega⟩ ⟨rfl,⟨rfl,trivial⟩⟩ rfl rfl ?_)))))))));rintro ⟨Hk,lck,lxk,mk,vk,q,c,vs,k⟩ ⟨hlk,⟨hCk,hNk⟩,⟨hXk,hYk⟩,hk⟩ _ hAg0;replace pld0:=pld0.le hlk;replace pld1:=pld1.le hlk;replace pld2:=pld2.le hlk;replace pld3:=pld3.le hlk;replace hldf:=hldf.le hlk;replace hldt:=hldt.le hlk;replace hldi:=hldi.le hlk;replace pc0:=pc0.le hlk;replace pc1:=pc1.le hlk;replace pcad:=pcad.le hlk;replace pcaf:=pcaf.le hlk;replace hcad:=hcad.le hlk;replace hcaf:=hcaf.le hlk;replace px0:=px0.le hlk;replace px1:=px1.le hlk;replace pxad:=pxad.le hlk;replace pxaf:=pxaf.le hlk;replace hxad:=hxad.le hlk;replace hxaf:=hxaf.le hlk;replace hCc:=hCc.le hlk;replace hCx:=hCx.le hlk;replace hC15:=hC15.le hlk;replace hpw15:=hpw15.le hlk;replace hpl15:=hpl15.le hlk;replace hz15:=hz15.le hlk;replace hb15:=hb15.le hlk;replace hs15:=hs15.le hlk;refine Je fun _ hK5 _=>(Jb (Jg (JM rfl rfl) rfl (Jf (Ja (hK5 (Je fun _ hK6 _=>(Jp rfl (fun h21=>?_) (fun h21=>?_))))))))
 ·
  have hk1:k<(csS cad caf n).length:=by omega
  have hrm:=rw_mem hk1;have hrk:=hcsR.led _ hrm;have hrl:=hrk.1.len;have hL9:=hLd _ hrm;have hi9:=him _ hrm;have hlead:=hL9.lead;refine Jo (Ja (hK6 (Je fun _ hK7 _=>(Jm (Je fun _ hK8 _=>(Jb (Jg (JO u57 sz22 rfl rfl rfl hk1 hs15.sm) rfl ?_)))))));obtain ⟨qe23,ce23,he23,le23,Fe23⟩:=hs15 k hk1;refine Jg (JB rfl he23 pl22) rfl (Jg (Jd rfl) rfl (Jf (Ja (hK8 (Jb (Jg (Jc rfl) rfl (Jg (Jc rfl) rfl (Jg (Jc rfl) rfl (Jg (Jc rfl) rfl (Jg (Jc rfl) rfl (Jg (Jc rfl) rfl (Jw fn68 rfl rfl fun w hH=>(at_c pc0 pc1 pcad pcaf hcad hcaf hdc h8c (by omega) hAc hfit (fun m hm hf=>hom_of hGc hwc h8c hdc (by omega) hf) hCk hNk (hH.front .z)).mono ?_))))))))))));rintro _ w ⟨Hf30,ls30,⟨b30,p30,⟨ql30,kl30,cl30⟩,⟨qm30,km30,cm30⟩,⟨qz30,kz30,cz30⟩,⟨qy30,ky30,cy30⟩,⟨qx30,kx30,cx30⟩⟩,hlf30,hC30,hN30,hx30,⟨hL30,hM30,hkp30⟩,rfl,hH⟩;refine ⟨_,rfl,fun a hF=>JK hF hH ?_⟩;replace pld0:=pld0.le hlf30;replace pld1:=pld1.le hlf30;replace pld2:=pld2.le hlf30;replace pld3:=pld3.le hlf30;replace hldf:=hldf.le hlf30;replace hldt:=hldt.le hlf30;replace hldi:=hldi.le hlf30;replace pc0:=pc0.le hlf30;replace pc1:=pc1.le hlf30;replace pcad:=pcad.le hlf30;replace pcaf:=pcaf.le hlf30;replace hcad:=hcad.le hlf30;replace hcaf:=hcaf.le hlf30;replace px0:=px0.le hlf30;replace px1:=px1.le hlf30;replace pxad:=pxad.le hlf30;replace pxaf:=pxaf.le hlf30;replace hxad:=hxad.le hlf30;replace hxaf:=hxaf.le hlf30;replace hCc:=hCc.le hlf30;replace hCx:=hCx.le hlf30;replace hC15:=hC15.le hlf30;replace hpw15:=hpw15.le hlf30;replace hpl15:=hpl15.le hlf30;replace hz15:=hz15.le hlf30;replace hb15:=hb15.le hlf30;replace hs15:=hs15.le hlf30;replace hCk:=hCk.le hlf30;replace hXk:=hXk.le hlf30;replace Fe23:=Fe23.le hlf30;obtain rfl:kl30=(monL cad (n)).length:=(hC30.ok _ hx30).one.len;have hpw30:Pows Hf30 ql30 (monL cad (n)):=(hC30.ok _ hx30).one.pw;have hpl30:SumH Hf30 (.map (some p30)) (plM (monL cad (n))):=(hC30.ok _ hx30).one.pl;obtain ⟨⟨e1,hz30⟩,⟨e2,hb30⟩,e3,hs30⟩:(kz30=(clS cad caf (n)).length∧RowsR Hf30 qz30 (clS cad caf (n)))∧(ky30=(bdS cad caf (n)).length∧RowsR Hf30 qy30 (bdS cad caf (n)))∧kx30=(csS cad caf (n)).length∧RowsR Hf30 qx30 (csS cad caf (n)):=hL30;subst e1 e2 e3;refine Jg (Jc rfl) rfl (Jw fn137 rfl rfl fun w hH=>hH.lend .z fun Hl1 hle1 hA1 hB1 hH=>(sum_c (M:=20) (cpx_cell hx30 hA1 rfl) (cpx_cell hx30 hA1 rfl) (Fe23.le hle1) (hpw30.le hle1) (monL_pok h8c) (by omega) (by omega) (fun j=>by have:=hrk.1.val j;omega) (by omega) hH).mono ?_);rintro _ w ⟨bo32,rfl,hH⟩;replace hH:=hB1 _ _ hH;refine ⟨_,rfl,fun a hF=>JK hF hH ?_⟩;refine Jw fn150 rfl rfl fun w hH=>hH.lend (.s .z) fun Hl1 hle1 hA1 hB1 hH=>(leadTo_c (pld0.le hle1) (pld1.le hle1) (pld2.le hle1) (pld3.le hle1) (hldf.le hle1) (hldt.le hle1) (hldi.le hle1) (omap_H hA1) (sumR_mon h8c (by omega)) hL9 hnn hn8 (by omega) (hH.front (.s (.s (.s .z))))).mono ?_;rintro _ w ⟨bo33,mo33,vo33,rfl,hH⟩;replace hH:=hB1 _ _ hH;refine ⟨_,rfl,fun a hF=>JK hF hH ?_⟩;refine Ez (.s .z) fun Ho33 hleo33 hAo33=>?_;replace pld0:=pld0.le hleo33;replace pld1:=pld1.le hleo33;replace pld2:=pld2.le hleo33;replace pld3:=pld3.le hleo33;replace hldf:=hldf.le hleo33;replace hldt:=hldt.le hleo33;replace hldi:=hldi.le hleo33;replace pc0:=pc0.le hleo33;replace pc1:=pc1.le hleo33;replace pcad:=pcad.le hleo33;replace pcaf:=pcaf.le hleo33;replace hcad:=hcad.le hleo33;replace hcaf:=hcaf.le hleo33;replace px0:=px0.le hleo33;replace px1:=px1.le hleo33;replace pxad:=pxad.le hleo33;replace pxaf:=pxaf.le hleo33;replace hxad:=hxad.le hleo33;replace hxaf:=hxaf.le hleo33;replace hCc:=hCc.le hleo33;replace hCx:=hCx.le hleo33;replace hC15:=hC15.le hleo33;replace hpw15:=hpw15.le hleo33;replace hpl15:=hpl15.le hleo33;replace hz15:=hz15.le hleo33;replace hb15:=hb15.le hleo33;replace hs15:=hs15.le hleo33;replace hCk:=hCk.le hleo33;replace hXk:=hXk.le hleo33;replace Fe23:=Fe23.le hleo33;replace hC30:=hC30.le hleo33;replace hpw30:=hpw30.le hleo33;replace hpl30:=hpl30.le hleo33;replace hz30:=hz30.le hleo33;replace hb30:=hb30.le hleo33;replace hs30:=hs30.le hleo33;have hxo33:=omap_H hAo33;refine Jw fn70 rfl rfl fun w hH=>(class_c (Ms:=20) px0 px1 pxad pxaf hxad hxaf hxo33 hlead hGx (by omega) hfix hXk hYk (by omega) hi9 (hH.front (.s (.s (.s (.s (.s .z))))))).mono ?_;rintro _ w ⟨Hf34,ls34,qo34,co34,hlf34,hC34,hN34,hkp34,rfl,hH⟩;refine ⟨_,rfl,fun a hF=>JK hF hH ?_⟩;replace pld0:=pld0.le hlf34;replace pld1:=pld1.le hlf34;replace pld2:=pld2.le hlf34;replace pld3:=pld3.le hlf34;replace hldf:=hldf.le hlf34;replace hldt:=hldt.le hlf34;replace hldi:=hldi.le hlf34;replace pc0:=pc0.le hlf34;replace pc1:=pc1.le hlf34;replace pcad:=pcad.le hlf34;replace pcaf:=pcaf.le hlf34;replace hcad:=hcad.le hlf34;replace hcaf:=hcaf.le hlf34;replace px0:=px0.le hlf34;replace px1:=px1.le hlf34;replace pxad:=pxad.le hlf34;replace pxaf:=pxaf.le hlf34;replace hxad:=hxad.le hlf34;replace hxaf:=hxaf.le hlf34;replace hCc:=hCc.le hlf34;replace hCx:=hCx.le hlf34;replace hC15:=hC15.le hlf34;replace hpw15:=hpw15.le hlf34;replace hpl15:=hpl15.le hlf34;replace hz15:=hz15.le hlf34;replace hb15:=hb15.le hlf34;replace hs15:=hs15.le hlf34;replace hCk:=hCk.le hlf34;replace hXk:=hXk.le hlf34;replace Fe23:=Fe23.le hlf34;replace hC30:=hC30.le hlf34;replace hpw30:=hpw30.le hlf34;replace hpl30:=hpl30.le hlf34;replace hz30:=hz30.le hlf34;replace hb30:=hb30.le hlf34;replace hs30:=hs30.le hlf34;replace hxo33:=hxo33.le hlf34;refine EH (EK u57 ze22 sz22 rfl rfl) rfl fun qo35 co35=>(ED u57 ze22 sz22 by22 rfl rfl rfl rfl (by omega) .z (.s (.s (.s (.s (.s (.s .z)))))) (fun _ _=>(.s (.s (.s (.s (.s (.s .z))))))) rfl fun qo36 co36=>(Jg (Jd rfl) rfl (Jf (JF (Ja (hK7 (Jb (Jg (JC rfl rfl (by first | exact nw _ (by omega) | rfl)) rfl (Jg (Jc rfl) rfl (Jf (Ja (Jr (.s (.s (.s (.s (.s (.s (.s .z))))))) (Jr (.s (.s (.s (.s (.s (.s .z)))))) (Jr (.s (.s (.s (.s (.s (.s .z)))))) (Jr (.s (.s (.s (.s (.s (.s .z)))))) ?_)))))))))))))));refine Jr (.s (.s (.s (.s (.s (.s .z)))))) (Jr (.s (.s (.s (.s (.s .z))))) (Jr (.s (.s (.s (.s (.s (.s (.s .z))))))) (Jr (.s (.s (.s (.s (.s (.s (.s .z))))))) (EJ.isSnoc (rs:=moK cad caf xad xaf ldt lds ldf.length n k) (moK_len hk) rfl (JL (.s .z) (JL (.s (.s .z)) (Jr (.s .z) (Jr (.s (.s .z)) (Jr (.s (.s (.s (.s .z)))) (Jr (.s (.s (.s .z))) (Jr (.s (.s (.s (.s .z)))) ?_)))))))))));exact hAg0 (_,ls30,ls34,mo33,vo33,qo36,co36,setV vs k (qo34,co34),k+1) ⟨(((hlk.trans hlf30).trans hleo33).trans hlf34),⟨hC30,hN30⟩,⟨hC34,hN34⟩,by show k+1≤_;omega⟩ (by show (csS cad caf n).length - (k+1)<(csS cad caf n).length - k;omega) 22 rfl rfl ⟨rfl,⟨rfl,trivial⟩⟩ rfl (by dsimp only;rw [moK_succ hk1,slicesI_set (moK_len hk)];rfl)
 ·
  refine JG (Jj (Jj (JP (Ja (hK3 (Je fun _ hK9 _=>(Jb (Jg (Jc rfl) rfl (Jg (Jd rfl) rfl (Jf (Ja (hK9 (Js (Jq rfl (Res.tmp rfl) fun w hH=>?_))))))))))))));replace hH:=hH.sublist (.cons_cons _ (.cons_cons _ (.cons_cons _ (.cons_cons _ (.cons_cons _ (List.Sublist.refl _))))))
  have hke:k=(csS cad caf n).length:=by omega
  rw [moK_end hke] at hH;exact ⟨_,_,_,_,_,q,c,vs,(hlf15.trans hlk),⟨hCk,hNk⟩,⟨hXk,hYk⟩,by rw [moS_len,hke],by unfold ownRs;rw [moS_len,← hke];exact ((hH.front (.s .z)).front (.s (.s .z))).star⟩
section
variable {ad bd : List Int} {af bf ms : List (List Term)} {n : Int}
theorem first_mm:firstOf [mpC ad af bd bf ms,if (!askB n)=true then 2 else 0]=mm1 ad af bd bf ms n:=by
 rw [firstOf_two];unfold mpC mm1
 cases isMp ad af bd bf ms <;> cases askB n <;> rfl
theorem first_ar:firstOf [arC ad [n],arC bd [n]]=mm2 ad bd n:=by
 rw [firstOf_two,arC_one,arC_one];unfold mm2
 cases arB ad n <;> cases arB bd n <;> rfl
theorem mm2_both (h : ¬mm2 ad bd n≠0):arB ad n=true∧arB bd n=true:=by
 unfold mm2 at h
 cases h1:arB ad n <;> cases h2:arB bd n <;> simp_all
theorem mmV_n2 (h : ¬mm1 ad af bd bf ms n≠0) (h2:mm2 ad bd n≠0):mmV ad af bd bf ms n=[]:=by rw [mmV_y h,if_neg h2]
theorem mmV_y2 (h : ¬mm1 ad af bd bf ms n≠0) (h2 : ¬mm2 ad bd n≠0):mmV ad af bd bf ms n=mmS ad af bd bf ms n:=by rw [mmV_y h,if_pos (Decidable.not_not.1 h2)]
theorem mo_mm (h:ms.length=ad.length):moS ad af bd bf bd (ssF ms) ad.length n=mmS ad af bd bf ms n:=by
 unfold moS mmS
 congr 1
 funext r
 unfold moR mmR imS;rw [h]
end
theorem MapMatrix_c {B:World} {H0 H:HP} {L:List SA} {w:World} {qad qaf:Option Addr} {cad caf:Nat} {ad:List Int} {af:List (List Term)} {qbd qbf:Option Addr} {cbd cbf:Nat} {bd:List Int} {bf:List (List Term)} {qms:Option Addr} {cms:Nat} {ms:List (List Term)} {n:Int} (had:Ints H qad ad) (haf:Forms H qaf af) (hbd:Ints H qbd bd) (hbf:Forms H qbf bf) (hms:Forms H qms ms) (hn8:ad.length≤1048576) (hn9:af.length≤1048576) (hl9 : ∀i,i<af.length→(fm af i).length≤1048576) (hbn8:bd.length≤1048576) (hbn9:bf.length≤1048576) (hbl9 : ∀i,i<bf.length→(fm bf i).length≤1048576) (hmn9:ms.length≤1048576) (hml9 : ∀i,i<ms.length→(fm ms i).length≤1048576) (hH:Hp B H0 H L w):Calls Tryz.prog 50 [.agg [.slice qad ad.length cad,.slice qaf af.length caf].toArray,.agg [.slice qbd bd.length cbd,.slice qbf bf.length cbf].toArray,.slice qms ms.length cms,.int .i64 n].toArray w fun e w'=>∃q c vs,e = .returned (.tuple #[.slice q (mmV ad af bd bf ms n).length c,.int .i64 (mmC ad af bd bf ms n)])∧Hp B H0 H (ownRs 22 2 q c vs (mmV ad af bd bf ms n)::L) w':=by
 refine Jz Tryz.func50 rfl 50 rfl rfl [(0,.agg [.slice qad ad.length cad,.slice qaf af.length caf].toArray),(1,.agg [.slice qbd bd.length cbd,.slice qbf bf.length cbf].toArray),(2,.slice qms ms.length cms),(3,.int .i64 n)] rfl hH ?_;have hw0:=hH.old;have hw1:=hH.le;clear hH;refine Je fun _ hK1 _=>(Jb (Ed rfl rfl rfl fun g4=>(EQ .z fun Hz4 hlez4 hcz4=>?_)));replace had:=had.le hlez4;replace haf:=haf.le hlez4;replace hbd:=hbd.le hlez4;replace hbf:=hbf.le hlez4;replace hms:=hms.le hlez4;have pad:CellAt Hz4 g4 0 (.slice qad ad.length cad):=hcz4 0 _ rfl;have paf:CellAt Hz4 g4 1 (.slice qaf af.length caf):=hcz4 1 _ rfl;refine Ed rfl rfl rfl fun g5=>(EQ .z fun Hz5 hlez5 hcz5=>?_);replace had:=had.le hlez5;replace haf:=haf.le hlez5;replace hbd:=hbd.le hlez5;replace hbf:=hbf.le hlez5;replace hms:=hms.le hlez5;replace pad:=pad.le hlez5;replace paf:=paf.le hlez5;have pbd:CellAt Hz5 g5 0 (.slice qbd bd.length cbd):=hcz5 0 _ rfl;have pbf:CellAt Hz5 g5 1 (.slice qbf bf.length cbf):=hcz5 1 _ rfl;refine Jg (Jd rfl) rfl (Jg (Jd rfl) rfl (Jf (Ja (hK1 (Je fun _ hK2 _=>(Je fun _ hK3 _=>(Jb (Jg (Jc rfl) rfl (Jw fn97 rfl rfl fun w hH=>(mapCode_c pad paf had haf pbd pbf hbd hbf hms hn8 hn9 hl9 hbn8 hbn9 hbl9 hmn9 hml9 hH).mono ?_)))))))));rintro _ w ⟨rfl,hH⟩;refine ⟨_,rfl,fun a hF=>JK hF hH ?_⟩;refine Jg (Jc rfl) rfl (Jw fn87 rfl rfl fun w hH=>(isAsked_c hH).mono ?_);rintro _ w ⟨rfl,hH⟩;refine ⟨_,rfl,fun a hF=>JK hF hH ?_⟩;refine Jg (Ek rfl) rfl (Jw fn81 rfl rfl fun w hH=>(when_c hH).mono ?_);rintro _ w ⟨rfl,hH⟩;refine ⟨_,rfl,fun a hF=>JK hF hH ?_⟩;refine J.litI2 u22 ze2 sz2 rfl rfl rfl fun g20=>(Jw fn79 rfl rfl fun w hH=>hH.lend .z fun Hl1 hle1 hA1 hB1 hH=>(first_c (own_ints hA1) (by simp) hH).mono ?_);rintro _ w ⟨rfl,hH⟩;replace hH:=hB1 _ _ hH;refine ⟨_,rfl,fun a hF=>JK hF hH ?_⟩;refine Jg (Jd rfl) rfl (Jf (Ja (hK3 (Je fun _ hK4 _=>(Jb (Jg (Jc rfl) rfl (Jg (Em rfl rfl) rfl (Jf (Ja (hK4 (Jp rfl (fun h23=>?_) (fun h23=>?_))))))))))))
 ·
  rw [first_mm] at h23 ⊢;refine Je fun _ hK5 _=>(Jb (Jg (Jc rfl) rfl (Jg (Jd rfl) rfl (Jg (Jd rfl) rfl (Jf (Ja (hK5 (Js (Jk (EC rfl (Res.tmp rfl) (Res.tmp rfl) fun w hH=>?_))))))))));replace hH:=hH.sublist (.cons _ (List.Sublist.refl _));rw [mmV_n h23,mmC_n h23];exact ⟨none,0,nilVs,rfl,(Hp.rsNil 22 2 (hH.own0 22 1)).weaken (hlez4.trans hlez5) hw0 hw1⟩
 ·
  rw [first_mm] at h23;obtain ⟨hM,hak⟩:=mm1_y h23;have hn:=askB_y hak;have hwa:=haf.wfss;have hwb:=hbf.wfss;have hGa:=isMp_1 hM;have hGb:=isMp_2 hM;have hAa:=isAlg_ok hGa haf.wfss;have hAb:=isAlg_ok hGb hbf.wfss;have hda:=alg_112 hGa;have hdb:=alg_112 hGb;have h8a:=hAa.hn;have h8b:=hAb.hn;have hml:=isMp_l hM;have hcna:=csS_len (n:=n) hAa h8a hda;have hcnb:=csS_len (n:=n) hAb h8b hdb;refine Jo (Ja (hK2 (Je fun _ hK6 _=>(Jb (Jw fn83 rfl rfl fun w hH=>(newComplex_c pad paf had haf hH).mono ?_)))));rintro _ w ⟨Hf25,bn25,ln25,hlf25,pn250,pn251,rfl,hH⟩;refine ⟨_,rfl,fun a hF=>JK hF hH ?_⟩;replace had:=had.le hlf25;replace haf:=haf.le hlf25;replace hbd:=hbd.le hlf25;replace hbf:=hbf.le hlf25;replace hms:=hms.le hlf25;replace pad:=pad.le hlf25;replace paf:=paf.le hlf25;replace pbd:=pbd.le hlf25;replace pbf:=pbf.le hlf25;refine Jw fn83 rfl rfl fun w hH=>(newComplex_c pbd pbf hbd hbf hH).mono ?_;rintro _ w ⟨Hf26,bn26,ln26,hlf26,pn260,pn261,rfl,hH⟩;refine ⟨_,rfl,fun a hF=>JK hF hH ?_⟩;replace had:=had.le hlf26;replace haf:=haf.le hlf26;replace hbd:=hbd.le hlf26;replace hbf:=hbf.le hlf26;replace hms:=hms.le hlf26;replace pad:=pad.le hlf26;replace paf:=paf.le hlf26;replace pbd:=pbd.le hlf26;replace pbf:=pbf.le hlf26;replace pn250:=pn250.le hlf26;replace pn251:=pn251.le hlf26;refine Jg (Jd rfl) rfl (Jg (Jd rfl) rfl (Jf (Ja (hK6 (Je fun _ hK7 _=>(Je fun _ hK8 _=>(Jb (Jg (Jc rfl) rfl (Jg (Jc rfl) rfl (EH (MK.lit1I u22 ze2 sz2 rfl) rfl fun qo29 co29=>(Jw fn88 rfl rfl fun w hH=>hH.lend .z fun Hl1 hle1 hA1 hB1 hH=>(around_c (pn250.le hle1) (pn251.le hle1) (pad.le hle1) (paf.le hle1) (had.le hle1) (haf.le hle1) (own_ints hA1) hda h8a (fun i hi=>by simp at hi;subst hi;simp;omega) (by simp) hH).mono ?_)))))))))));rintro _ w ⟨rfl,hH⟩;replace hH:=hB1 _ _ hH;refine ⟨_,rfl,fun a hF=>JK hF hH ?_⟩;refine Jg (Jc rfl) rfl (Jg (Jc rfl) rfl (EH (MK.lit1I u22 ze2 sz2 rfl) rfl fun qo33 co33=>(Jw fn88 rfl rfl fun w hH=>hH.lend .z fun Hl1 hle1 hA1 hB1 hH=>(around_c (pn260.le hle1) (pn261.le hle1) (pbd.le hle1) (pbf.le hle1) (hbd.le hle1) (hbf.le hle1) (own_ints hA1) hdb h8b (fun i hi=>by simp at hi;subst hi;simp;omega) (by simp) hH).mono ?_)));rintro _ w ⟨rfl,hH⟩;replace hH:=hB1 _ _ hH;refine ⟨_,rfl,fun a hF=>JK hF hH ?_⟩;refine J.litI2 u22 ze2 sz2 rfl rfl rfl fun g35=>(Jw fn79 rfl rfl fun w hH=>hH.lend .z fun Hl1 hle1 hA1 hB1 hH=>(first_c (own_ints hA1) (by simp) hH).mono ?_);rintro _ w ⟨rfl,hH⟩;replace hH:=hB1 _ _ hH;refine ⟨_,rfl,fun a hF=>JK hF hH ?_⟩;refine Jg (Jd rfl) rfl (Jf (Ja (hK8 (Je fun _ hK9 _=>(Jb (Jg (Jc rfl) rfl (Jg (Em rfl rfl) rfl (Jf (Ja (hK9 (Jp rfl (fun h38=>?_) (fun h38=>?_))))))))))))
  ·
   rw [first_ar] at h38 ⊢;refine Je fun _ hK10 _=>(Jb (Jg (Jc rfl) rfl (Jg (Jd rfl) rfl (Jg (Jd rfl) rfl (Jf (Ja (hK10 (Js (Jk (EC rfl (Res.tmp rfl) (Res.tmp rfl) fun w hH=>?_))))))))));replace hH:=hH.sublist (.cons _ (.cons _ (.cons _ (.cons _ (.cons _ (.cons _ (List.Sublist.refl _)))))));rw [mmV_n2 h23 h38,mmC_y h23];exact ⟨none,0,nilVs,rfl,(Hp.rsNil 22 2 (hH.own0 22 1)).weaken (((hlez4.trans hlez5).trans hlf25).trans hlf26) hw0 hw1⟩
  ·
   rw [first_ar] at h38;obtain ⟨har,harb⟩:=mm2_both h38;have hf1:=ar_fit3 har;have hf2:=ar_fit3 harb;have hmf:Fok 20 ms:=fun i hi=>⟨isForm_sok (hms.wfss.fm i) (Bool.and_eq_true_iff.1 (mpsOk_at (isMp_ps hM) hi)).1,by have:=isForm_len4 (Bool.and_eq_true_iff.1 (mpsOk_at (isMp_ps hM) hi)).1;omega⟩;refine Jo (Ja (hK7 (Je fun _ hK11 _=>(Jb (Jg (Jv u35 rfl sz22 rfl) rfl (Jg (JB (q:=some ⟨g4,0,none⟩) (k:=0) rfl pad pl22) rfl (Jg (Jv u35 rfl sz22 rfl) rfl (Jg (JB (q:=some ⟨g5,0,none⟩) (k:=0) rfl pbd pl22) rfl (Jg (Jc rfl) rfl (Jw fn98 rfl rfl fun w hH=>(leaderOf_c had hbd hms hmf (by omega) hH).mono ?_))))))))));rintro _ w ⟨g45,q45,c45,bs45,kb45,rfl,hH⟩;refine ⟨_,rfl,fun a hF=>JK hF hH ?_⟩;refine EQ .z fun H7 hle7 hc7=>(Ez .z fun H8 hle8 hA8=>(Ez .z fun H9 hle9 hA9=>(J.reH (fun w hH=>Hp.knw0 (f:=kF bd (ssF ms)) (vs:=nilVs) (hH.front .z)) ?_)));have hle79:=hle8.trans hle9;have pl0:CellAt H9 g45 0 (.slice qad ad.length cad):=CellAt.le (hc7 0 _ rfl) hle79;have pl1:CellAt H9 g45 1 (.slice qbd bd.length cbd):=CellAt.le (hc7 1 _ rfl) hle79;have pl2:CellAt H9 g45 2 (.slice q45 ms.length c45):=CellAt.le (hc7 2 _ rfl) hle79;have pl3:CellAt H9 g45 3 (.map (some kb45)):=CellAt.le (hc7 3 _ rfl) hle79;have hli:ImR H9 q45 (ms.length) (ssF ms):=fun i hi=>⟨bs45 i,own_reads hA9 i _ (mapsC_get hi),(imgs_H hA8 hi).le hle9⟩;replace had:=had.le hle7;replace haf:=haf.le hle7;replace hbd:=hbd.le hle7;replace hbf:=hbf.le hle7;replace hms:=hms.le hle7;replace pad:=pad.le hle7;replace paf:=paf.le hle7;replace pbd:=pbd.le hle7;replace pbf:=pbf.le hle7;replace pn250:=pn250.le hle7;replace pn251:=pn251.le hle7;replace pn260:=pn260.le hle7;replace pn261:=pn261.le hle7;replace had:=had.le hle8;replace haf:=haf.le hle8;replace hbd:=hbd.le hle8;replace hbf:=hbf.le hle8;replace hms:=hms.le hle8;replace pad:=pad.le hle8;replace paf:=paf.le hle8;replace pbd:=pbd.le hle8;replace pbf:=pbf.le hle8;replace pn250:=pn250.le hle8;replace pn251:=pn251.le hle8;replace pn260:=pn260.le hle8;replace pn261:=pn261.le hle8;replace had:=had.le hle9;replace haf:=haf.le hle9;replace hbd:=hbd.le hle9;replace hbf:=hbf.le hle9;replace hms:=hms.le hle9;replace pad:=pad.le hle9;replace paf:=paf.le hle9;replace pbd:=pbd.le hle9;replace pbf:=pbf.le hle9;replace pn250:=pn250.le hle9;replace pn251:=pn251.le hle9;replace pn260:=pn260.le hle9;replace pn261:=pn261.le hle9;refine Jg (Jc rfl) rfl (Jg (Jc rfl) rfl (Jg (Jc rfl) rfl (Jw fn100 rfl rfl fun w hH=>(matrixOf_c pl0 pl1 pl2 pl3 had hbd hli pn250 pn251 pad paf had haf pn260 pn261 pbd pbf hbd hbf hGa hGb hn hf1 hf2 CpxOk.nil (Nxt.nil _) CpxOk.nil (Nxt.nil _) hml.symm (by omega) (fun r hr=>by have h:=Ld.cls hM hwa hms.wfss hn.2 hr;rw [hml] at h;exact h) (fun r hr x hx=>im_mon hM hwa hwb hms.wfss hn.2 hf2.1.1 hr x (by unfold imS;rw [hml];exact hx)) (((hH.front (.s (.s (.s (.s .z))))).front (.s (.s (.s (.s (.s .z)))))).front (.s (.s .z)))).mono ?_)));rintro _ w ⟨Hf49,lsa49,lsb49,mo49,vo49,qo49,co49,vs49,hlf49,⟨hC49,hN49⟩,⟨hCb49,hNb49⟩,rfl,hH⟩;refine ⟨_,rfl,fun a hF=>JK hF hH ?_⟩;replace had:=had.le hlf49;replace haf:=haf.le hlf49;replace hbd:=hbd.le hlf49;replace hbf:=hbf.le hlf49;replace hms:=hms.le hlf49;replace pad:=pad.le hlf49;replace paf:=paf.le hlf49;replace pbd:=pbd.le hlf49;replace pbf:=pbf.le hlf49;replace pn250:=pn250.le hlf49;replace pn251:=pn251.le hlf49;replace pn260:=pn260.le hlf49;replace pn261:=pn261.le hlf49;refine Jg (Jd rfl) rfl (Jg (Jd rfl) rfl (Jf (Ja (hK11 (Js (EC rfl (Res.tmp rfl) (Res.tmp rfl) fun w hH=>?_))))));replace hH:=hH.sublist (.cons_cons _ (.cons _ (.cons _ (.cons _ (.cons _ (.cons _ (.cons _ (.cons _ (List.Sublist.refl _)))))))));rw [mo_mm hml] at hH ⊢;rw [mmV_y2 h23 h38,mmC_y h23,Decidable.not_not.1 h38];exact ⟨_,_,_,rfl,hH.weaken (((((((hlez4.trans hlez5).trans hlf25).trans hlf26).trans hle7).trans hle8).trans hle9).trans hlf49) hw0 hw1⟩
end Go.Proofs.YthenedanhcnccaaGreat.G
