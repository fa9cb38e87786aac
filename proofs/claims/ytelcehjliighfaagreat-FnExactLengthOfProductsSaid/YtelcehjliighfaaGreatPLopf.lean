/- A part of the walk of one law: what the functions compute. No condition. -/
import Derived.Test.YtelcehjliighfaaGreatRows
import Derived.Test.YtelcehjliighfaaGreatProg
import Derived.WalkKit
import Derived.KernelRfl
import Derived.JoinedOf
import Derived.Maps.AppendAt
import Derived.Still
import Derived.ProofKit
import Derived.OpenShut
import Derived.StillTail
import Derived.Deep.Upon
import Derived.WalkSpells
import Derived.Maps.Range
import Derived.DeepKeys4
import Derived.Maps.Keyed
import Derived.ChangeOld
import Derived.Below
import Derived.SizedLaws
import Derived.Test.YtelcehjliighfaaGreatPLope
set_option linter.unusedVariables false
set_option linter.unusedSimpArgs false
set_option maxRecDepth 10000
set_option maxHeartbeats 8000000
open Nat (reduceEqDiff reduceSub reduceAdd)
namespace Go.Proofs.YtelcehjliighfaaGreat.G
open Go Go.RowKit
theorem zv3:ZeroV Tryz.prog 3 (.int .i64 0):=fun _=>by kernel_rfl
theorem bare_c {B:World} {H0 H:HP} {L:List SA} {w:World} {bc lc:Nat} {bca:Nat} {qcad qcaf:Option Addr} {ccad ccaf:Nat} {cad:List Int} {caf:List (List Term)} {n:Int} {ls:List (Int × Lv)} {X:Int→Prop} (pc0:CellAt H bc 0 (.pointer (some ⟨bca,0,none⟩))) (pc1:CellAt H bc 1 (.map (some lc))) (pcad:CellAt H bca 0 (.slice qcad cad.length ccad)) (pcaf:CellAt H bca 1 (.slice qcaf caf.length ccaf)) (hcad:Ints H qcad cad) (hcaf:Forms H qcaf caf) (hd : ∀j,j<cad.length→1≤cad.getD j 0∧cad.getD j 0≤12) (h8:cad.length≤8) (hn : -1000000≤n∧n≤1000000) (hC:CpxOk H cad caf X ls) (hH:Hp B H0 H (cpx lc ls::L) w) :
 Calls Tryz.prog 77 [.pointer (some ⟨bc,0,none⟩),.int .i64 n].toArray w fun e w'=>∃H' ls' x,Le H H' ∧CpxOk H' cad caf X ls' ∧(n,x)∈ls' ∧(∀y∈ls,y∈ls')∧(∀Y,Nxt Y ls→Nxt Y ls')∧e = .returned (.pointer (some ⟨x.b,0,none⟩))∧Hp B H0 H' (cpx lc ls'::L) w':=bareX_c pc0 pc1 pcad pcaf hcad hcaf hd h8 hn hC hH.unstar
theorem row_set {ps:List Pw} (hn:ps.Nodup) {g g':Pw→Int} {i:Nat} {v:Int} (hi:i<ps.length) (h1:g' (rw_ ps i)=v) (h2 : ∀p,p≠rw_ ps i→g' p=g p):(ps.map g).set i v=ps.map g':=by
 have e:rw_ ps i=ps[i]:=by simp [rw_,List.getD_eq_getElem?_getD,List.getElem?_eq_getElem hi]
 rw [e] at h1 h2;refine List.ext_getElem (by simp) fun j hj hj'=>?_;rw [List.getElem_set];simp only [List.length_map] at hj'
 split
 ·rename_i e
  subst e
  simp [h1]
 ·rename_i e
  rw [List.getElem_map,List.getElem_map,h2];exact fun h=>e ((List.getElem_inj hn).1 h).symm
def RowI (s:Sm) (ls:Sm) (g:Pw→Int):Prop:=(∀x∈ls,x∈s)∧(ls.map (·.1)).Nodup∧∀p,g p=if p∈ls.map (·.1) then 0 else cf s p
theorem cf_mem0 : ∀{s:Sm} {p:Pw},p ∉ s.map (·.1)→cf s p=0
 | [],_,_=>rfl
 | x::s,p,h=>by
  simp only [List.map_cons,List.mem_cons,not_or] at h
  simp only [cf]
  rw [if_neg (fun e=>h.1 e.symm)]
  exact cf_mem0 h.2
theorem RowI.start {M:Int} {s:Sm} (hs:Sok M s):RowI s s fun _=>0:=⟨fun _ h=>h,hs.nodup,fun p=>by
 split
 ·rfl
 ·rename_i h
  exact (cf_mem0 h).symm⟩
theorem cf_in {M:Int} : ∀{s:Sm},Sok M s→∀{x:Pw × Int},x∈s→cf s x.1=x.2
 | [],_,_,h=>by simp at h
 | y::s,hs,x,h=>by
  simp only [cf]
  rcases List.mem_cons.1 h with rfl | h
  ·rw [if_pos rfl]
  ·have:y.1≠x.1:=before_ne ((List.pairwise_cons.1 hs.srt).1 x h)
   rw [if_neg this]
   exact cf_in hs.tail h
def putG (g:Pw→Int) (x:Pw × Int):Pw→Int:=fun p=>if p=x.1 then x.2 else g p
theorem RowI.next {M:Int} {s:Sm} (hs:Sok M s) {la lb:Sm} {x:Pw × Int} {g:Pw→Int} (h:RowI s (la++x::lb) g):RowI s (la++lb) (putG g x):=by
 have hp:((la++x::lb).map (·.1)).Perm (x.1::(la++lb).map (·.1)):=(List.perm_middle (a:=x)).map _;have hnd:=List.nodup_cons.1 (hp.nodup_iff.1 h.2.1);refine ⟨fun y hy=>h.1 y (by simp at hy ⊢;rcases hy with h | h <;> simp [h]),hnd.2,fun p=>?_⟩;unfold putG
 by_cases e:p=x.1
 ·subst e;rw [if_pos rfl,if_neg hnd.1,cf_in hs (h.1 x (by simp))]
 ·rw [if_neg e,h.2.2 p]
  have:p∈(la++x::lb).map (·.1)↔p∈(la++lb).map (·.1):=by
   rw [hp.mem_iff,List.mem_cons];exact ⟨fun h=>h.resolve_left e,.inr⟩
  simp only [this]
theorem RowI.end {s:Sm} {g:Pw→Int} (h:RowI s [] g):g=cf s:=funext fun p=>by rw [h.2.2 p];simp
theorem RowI.set {ps:List Pw} (hn:ps.Nodup) {g:Pw→Int} {x:Pw × Int} {i:Nat} (hi:i<ps.length) (hx:rw_ ps i=x.1):(ps.map g).set i x.2=ps.map (putG g x):=
 row_set hn hi (by rw [hx];unfold putG;rw [if_pos rfl]) fun p hp=>by unfold putG;rw [if_neg (hx ▸ hp)]
theorem map_zero (ps:List Pw):List.replicate ps.length (0:Int)=ps.map fun _=>0:=by
 induction ps with
 | nil=>rfl
 | cons p ps ih=>rw [List.length_cons,List.replicate_succ,ih];rfl
theorem look_at {ps:List Pw} (hn:ps.Nodup) {i:Nat} {p:Pw} (hi:i<ps.length) (hx:rw_ ps i=p):(look (plM ps) p).elim (Value.int .i64 0) (Value.int .i64) = .int .i64 (i:Int):=by
 rw [← hx,plM_at hn hi]
 rfl
def rowK (ps:List Pw) (row:List Int) (k:Nat):Sm:=(List.range k).map fun i=>(rw_ ps i,row.getD i 0)
theorem rowK_succ (ps:List Pw) (row:List Int) (k:Nat):rowK ps row (k+1)=rowK ps row k++[(rw_ ps k,row.getD k 0)]:=by
 unfold rowK;rw [List.range_succ,List.map_append]
 rfl
def sumR (ps:List Pw) (row:List Int):Sm:=acc [] (rowK ps row row.length)
theorem rowK_sok {M:Int} {ps:List Pw} (h : ∀p∈ps,Pok M p) {row:List Int} {k:Nat} (hk:k≤ps.length):Sok M (acc [] (rowK ps row k)):=Sok.nil.acc fun x hx=>by
 obtain ⟨i,hi,rfl⟩:=List.mem_map.1 hx
 exact h _ (rw_mem (by have:=List.mem_range.1 hi;omega))
theorem sumR_sok {M:Int} {ps:List Pw} (h : ∀p∈ps,Pok M p) {row:List Int} (hk:row.length≤ps.length):Sok M (sumR ps row):=rowK_sok h hk
theorem row_c {B:World} {H0 H:HP} {L:List SA} {w:World} {bl plb:Nat} {ql:Option Addr} {cl:Nat} {ps:List Pw} {vs:Value} {Ms:Int} {s:Sm} (pl0:CellAt H bl 0 (.slice ql ps.length cl)) (pl1:CellAt H bl 1 (.map (some plb))) (hs:SumH H vs s) (ks:Sok Ms s) (hps:Pows H ql ps) (hpl:SumH H (.map (some plb)) (plM ps)) (hnd:ps.Nodup) (hM:Ms≤1000000) (hin : ∀x∈s,x.1∈ps) (hpl1:ps.length≤1000000) (hH:Hp B H0 H L w):Calls Tryz.prog 81 [.pointer (some ⟨bl,0,none⟩),vs].toArray w fun e w'=>∃q c,e = .returned (.slice q (ps.map (cf s)).length c)∧Hp B H0 H (own 2 1 q (ps.map (cf s)).length c (intsC (ps.map (cf s)))::L) w':=by
 refine Jx Tryz.func81 rfl 31 rfl rfl [(0,.pointer (some ⟨bl,0,none⟩)),(1,vs)] rfl hH ?_;clear hH;obtain ⟨bs,ess,cls,rfl,hbs,hes⟩:=hs;have hs:SumH H (.map (some bs)) s:=⟨bs,ess,cls,rfl,hbs,hes⟩;refine Je fun _ hK1 _=>(Jb (Jg (Jd rfl) rfl (Jf (Ja (hK1 (Je fun _ hK2 _=>(Jb (Jg (Jc rfl) rfl (Jg (JI rfl) rfl (Jg (Js u88 rfl sz85 rfl) rfl (Jg (JF (q:=some ⟨bl,0,none⟩) (k:=0) rfl pl0 pl85) rfl (Jg (Jn u85 rfl rfl) rfl (EL (MK.makeI (m:=ps.length) u22 ze2 sz2 by2 rfl rfl rfl rfl (by omega)) rfl fun qo13 co13=>(Jg (EK (v':=.slice qo13 ps.length co13) (by rw [List.length_replicate]) (Jd rfl)) rfl (Jf ?_)))))))))))))));refine Ja (hK2 (Je fun _ hK3 _=>(Je fun _ hK4 _=>(Jb (Jg (Jc rfl) rfl (J.range u92 rfl hbs hes rfl fun r15=>(Jf (Ja (hK4 (Jk (JC (σ:=Option (Pw × Int) × Sm × (Pw→Int)) (fun ⟨la,ls,g⟩=>[]) (fun ⟨la,ls,g⟩=>H) (fun ⟨la,ls,g⟩=>itr pwE (Value.int .i64) bs ess cls r15 la ls::own 2 1 qo13 ps.length co13 (intsC (ps.map g))::L) (fun ⟨la,ls,g⟩=>RowI s ls g) (fun ⟨la,ls,g⟩=>ls.length) (none,s,fun _=>0) (RowI.start ks) trivial rfl (by dsimp only;rw [← map_zero,List.length_replicate]) ?_)))))))))));rintro ⟨la,ls,g⟩ hI _ hAg0;refine Je fun _ hK5 _=>(Jb (J.next rfl hbs hes (fun _ _=>At.z) rfl (fun hE16=>?_) (fun nx16 la16 lb16 hL16=>?_)))
 ·
  refine Jg (JJ rfl rfl) rfl (Jf (Ja (hK5 (Je fun _ hK6 _=>(Eo rfl (JG (Jj (Jj (JL (Ja (hK3 (Je fun _ hK7 _=>(Jb (Jg (Jc rfl) rfl (Jg (Jd rfl) rfl (Jf ?_))))))))))))))));refine Ja (hK7 (Ju (Jq rfl (Res.tmp rfl) fun w hH=>?_)));replace hH:=hH.sublist (.cons _ (.cons_cons _ (List.Sublist.refl _)));have hI2:RowI s ls g:=hI;rw [hE16] at hI2;rw [hI2.end] at hH;exact ⟨_,_,by rw [List.length_map],by rw [List.length_map];exact hH⟩
 ·
  subst hL16;have hu:=hI.1 nx16 (by simp);obtain ⟨i,hi,hie⟩:=mem_rw.1 (hin nx16 hu);have hu8:=(ks.key nx16 hu).len;refine Jg (JJ rfl rfl) rfl (Jf (Ja (hK5 (Je fun _ hK8 _=>(ED rfl (Jm (Ja (hK8 (Jk (Je fun _ hK9 _=>(Jb (Jg (PR.entry rfl hbs hes At.z) rfl (Jg (JJ rfl rfl) rfl (Jg (JJ rfl rfl) rfl (JU ze148 rfl fun g6=>(JK rfl rfl (by first | exact bytesC_one _ | exact intsC_one _ | exact Term.c_one _ | simp [Value.oneCell']) (by simpa [*] using sz148) (by simp [*]) At.z ?_))))))))))))))));refine Jg (Jd rfl) rfl (Jf (Ja (hK9 (Ej (Rs:=[_,_,_]) 10 [[], [], [1], [1,2], [1,2,3], [], [1,2,3,4,5], [], [0,1,2,3,4,5,6,7], [0,1,2,3,4,5,6,7,8]] [[], [], [], [], [], [10], [], [], [12], []] [[], [], [], [], [], [], [], [], [], [12]] rfl rfl (by kernel_rfl) ?_))));apply Jl 1 rfl
  iterate 3 focus (intros;(conv=>lhs;simp only [Jh,Jr,JM,Jt,JH,eq_self,reduceEqDiff,reduceIte,reduceSub,reduceAdd,JxA,JxB]);all_goals rfl)
  ·
   intro gh X K zq zc zq2 zc2 zb zv hK;refine Jg (Jc rfl) rfl (Ji ?_);exact hK zq zc zq2 zc2 zb zv
  ·
   intro gh gh' h
   rfl
  apply Jl 2 rfl
  iterate 3 focus (intros;(conv=>lhs;simp only [Jh,Jr,JM,Jt,JH,eq_self,reduceEqDiff,reduceIte,reduceSub,reduceAdd,JxA,JxB]);all_goals rfl)
  ·
   intro gh X K zq zc zq2 zc2 zb zv hK;refine Jg (Jc rfl) rfl (Ji ?_);exact hK zq zc zq2 zc2 zb zv
  ·
   intro gh gh' h
   rfl
  apply Jl 3 rfl
  iterate 3 focus (intros;(conv=>lhs;simp only [Jh,Jr,JM,Jt,JH,eq_self,reduceEqDiff,reduceIte,reduceSub,reduceAdd,JxA,JxB]);all_goals rfl)
  ·
   intro gh X K zq zc zq2 zc2 zb zv hK;refine Jg (JI rfl) rfl (Ji ?_);exact hK zq zc zq2 zc2 zb zv
  ·
   intro gh gh' h
   rfl
  apply Jl 4 rfl
  iterate 3 focus (intros;(conv=>lhs;simp only [Jh,Jr,JM,Jt,JH,eq_self,reduceEqDiff,reduceIte,reduceSub,reduceAdd,JxA,JxB]);all_goals rfl)
  ·
   intro gh X K zq zc zq2 zc2 zb zv hK;refine Jg (Js u88 rfl sz86 rfl) rfl (Ji ?_);exact hK zq zc zq2 zc2 zb zv
  ·
   intro gh gh' h
   rfl
  apply Jl 5 rfl
  iterate 3 focus (intros;(conv=>lhs;simp only [Jh,Jr,JM,Jt,JH,eq_self,reduceEqDiff,reduceIte,reduceSub,reduceAdd,JxA,JxB]);all_goals rfl)
  ·
   intro gh X K zq zc zq2 zc2 zb zv hK;refine Jg (JF (q:=some ⟨bl,0,none⟩) (k:=1) rfl pl1 pl86) rfl (Ji ?_);exact hK zq zc zq2 zc2 zb zv
  ·
   intro gh gh' h
   rfl
  apply Jl 6 rfl
  iterate 3 focus (intros;(conv=>lhs;simp only [Jh,Jr,JM,Jt,JH,eq_self,reduceEqDiff,reduceIte,reduceSub,reduceAdd,JxA,JxB]);all_goals rfl)
  ·
   intro gh X K zq zc zq2 zc2 zb zv hK;refine Jg (JA rfl At.z (by simpa [*] using ag148)) rfl (Ji ?_);exact hK zq zc zq2 zc2 zb zv
  ·
   intro gh gh' h
   rfl
  apply Jl 7 rfl
  iterate 3 focus (intros;(conv=>lhs;simp only [Jh,Jr,JM,Jt,JH,eq_self,reduceEqDiff,reduceIte,reduceSub,reduceAdd,JxA,JxB]);all_goals rfl)
  ·
   intro gh X K zq zc zq2 zc2 zb zv hK;refine Jg (EK (v':=.int .i64 (i:Int)) (look_at hnd hi hie) (PR.lookH u86 pwK zv3 rfl hpl rfl (pwOk_of (ks.key nx16 hu) hM))) rfl (Ji ?_);exact hK zq zc zq2 zc2 zb zv
  ·
   intro gh gh' h
   rfl
  apply Jl 8 rfl
  iterate 3 focus (intros;(conv=>lhs;simp only [Jh,Jr,JM,Jt,JH,eq_self,reduceEqDiff,reduceIte,reduceSub,reduceAdd,JxA,JxB]);all_goals rfl)
  ·
   intro gh X K zq zc zq2 zc2 zb zv hK;refine Jg (Jc rfl) rfl (Ji ?_);exact hK zq zc zq2 zc2 zb zv
  ·
   intro gh gh' h
   rfl
  apply Jl 9 rfl
  iterate 3 focus (intros;(conv=>lhs;simp only [Jh,Jr,JM,Jt,JH,eq_self,reduceEqDiff,reduceIte,reduceSub,reduceAdd,JxA,JxB]);all_goals rfl)
  ·
   intro gh X K zq zc zq2 zc2 zb zv hK;refine Jg (Eu u22 sz2 rfl rfl rfl (by omega) At.z) rfl (Ji ?_);exact hK zq zc zq2 zc2 zb zv
  ·
   intro gh gh' h
   rfl
  apply ES 10 rfl
  iterate 3 focus (intros;(conv=>lhs;simp only [Jh,Jr,JM,Jt,JH,eq_self,reduceEqDiff,reduceIte,reduceSub,reduceAdd,JxA,JxB]);all_goals rfl)
  ·
   intro gh X K hK;refine J.storeWI rfl rfl sz2 (by omega) At.z (Ji ?_);exact hK
  ·
   intro gh gh' h
   rfl
  apply Ei [0,1,2,3,4,5,6,7,8,9] [0,1,2,3,4,5,6,7,8,9,10,11] foll0 rfl rfl rfl (by rfl)
  iterate 2 focus (intros;(conv=>lhs;simp only [Jh,Jr,JM,Jt,JH,eq_self,reduceEqDiff,reduceIte,reduceSub,reduceAdd,JxA,JxB]);all_goals rfl)
  intro gh;clear gh;refine JD (Ja (JN (.s .z) (Jw .z (Jw (.s .z) ?_))));exact hAg0 (some nx16,la16++lb16,putG g nx16) (hI.next ks) (by simp) 16 rfl rfl trivial rfl (by rw [RowI.set hnd hi hie])
theorem sum_c {B:World} {H0 H:HP} {L:List SA} {w:World} {bl plb:Nat} {ql:Option Addr} {cl:Nat} {ps:List Pw} {qrow:Option Addr} {crow:Nat} {row:List Int} {M:Int} (pl0:CellAt H bl 0 (.slice ql ps.length cl)) (pl1:CellAt H bl 1 (.map (some plb))) (hrow:Ints H qrow row) (hps:Pows H ql ps) (hok : ∀p∈ps,Pok M p) (hM:M≤1000000) (hrl:row.length≤ps.length) (hrv : ∀j, -1000000000≤row.getD j 0∧row.getD j 0≤1000000000) (hpl1:ps.length≤1000000) (hH:Hp B H0 H L w):Calls Tryz.prog 80 [.pointer (some ⟨bl,0,none⟩),.slice qrow row.length crow].toArray w fun e w'=>∃b,e = .returned (.map (some b))∧Hp B H0 H (osum b (sumR ps row)::L) w':=by
 refine Jx Tryz.func80 rfl 28 rfl rfl [(0,.pointer (some ⟨bl,0,none⟩)),(1,.slice qrow row.length crow)] rfl hH ?_;clear hH;refine Je fun _ hK1 _=>(Jb (Jg (Jd rfl) rfl (Jf (Ja (hK1 (Je fun _ hK2 _=>(Jb (EO pwE (Value.int .i64) pwOk rfl fun bm8=>(Jg (Jd rfl) rfl (Jf (Ja (hK2 (Je fun _ hK3 _=>(Je fun _ hK4 _=>(Jb (Jg (Jc rfl) rfl ?_))))))))))))))));refine Jg (Jn u22 rfl rfl) rfl (Jg (Jc rfl) rfl (Jf (Ja (hK4 (Jk (JC (σ:=Nat) (fun (k:Nat)=>[(11,.int .i64 (k:Int))]) (fun (k:Nat)=>H) (fun (k:Nat)=>osum bm8 (acc [] (rowK ps row k))::L) (fun (k:Nat)=>k≤row.length) (fun (k:Nat)=>row.length - k) 0 (by omega) ⟨rfl,trivial⟩ rfl rfl ?_))))));rintro k hk _ hAg0;have ksn:Sok M (acc [] (rowK ps row k)):=rowK_sok hok (by omega);refine Je fun _ hK5 _=>(Jb (Jg (JO rfl rfl) rfl (Jf (Ja (hK5 (Je fun _ hK6 _=>(Jo rfl (fun h12=>?_) (fun h12=>?_))))))))
 ·
  have hkk:k<row.length:=by omega
  have hrk:=hrv k;have hpk:=hok _ (rw_mem (show k<ps.length by omega));refine Jm (Ja (hK6 (Je fun _ hK7 _=>(Jk (Je fun _ hK8 _=>(Jb (Jg (Jc rfl) rfl (Jg (JQ u22 sz2 rfl rfl rfl (by omega) hrow.sm) rfl (Jg (JF rfl (hrow _ (by omega)) pl2) rfl (Jg (Jd rfl) rfl (Jg (Jd rfl) rfl (Jf (Ja (hK8 (Jb (Jg (Jc rfl) rfl ?_))))))))))))))));refine Jg (Jc rfl) rfl (Jg (JI rfl) rfl (Jg (Js u88 rfl sz85 rfl) rfl (Jg (JF (q:=some ⟨bl,0,none⟩) (k:=0) rfl pl0 pl85) rfl (Jg (Jc rfl) rfl (Jg (El u85 sz148 rfl rfl rfl (by omega) hps.sm) rfl (Jg (JP rfl (hps.cell _ (by omega)) (hps.sm (i:=k) (by omega)) (by rw [intsC_length,hps.len _ (by omega)];exact ag148)) rfl (Jg (Jc rfl) rfl (Jy fn85 rfl rfl fun w hH=>(add_c ksn hpk (by omega) (by omega) (by omega) (hH.front .z)).mono ?_))))))));rintro _ w ⟨rfl,hH⟩;refine ⟨_,rfl,fun a hF=>JR hF hH ?_⟩;refine Jf (JD (Ja (hK7 (Jb (Jg (Jz rfl rfl (by first | exact nw _ (by omega) | rfl)) rfl (Jg (Jc rfl) rfl (Jf (Ja ?_))))))));exact hAg0 (k+1) (by omega) (by omega) 19 rfl rfl ⟨rfl,trivial⟩ rfl (by rw [rowK_succ,acc_one])
 ·
  refine JG (Jj (Jj (JL (Ja (hK3 (Je fun _ hK9 _=>(Jb (Jg (Jc rfl) rfl (Jg (Jd rfl) rfl (Jf (Ja (hK9 (Ju (Jq rfl (Res.tmp rfl) fun w hH=>?_))))))))))))));replace hH:=hH.sublist (.cons_cons _ (List.Sublist.refl _));rw [show k=row.length by omega] at hH;exact ⟨_,rfl,hH⟩
theorem sz31:Size Tryz.prog 31 1:=by unfold Size;kernel_rfl
theorem pl31:Plain Tryz.prog 31:=⟨_,u31,rfl⟩
theorem fn77:Fn Tryz.prog 77:=⟨_,Tryz.func77,by kernel_rfl,rfl⟩
theorem fn81:Fn Tryz.prog 81:=⟨_,Tryz.func81,by kernel_rfl,rfl⟩
theorem CpxOk.mono {H:HP} {ds:List Int} {fs:List (List Term)} {X Y:Int→Prop} {ls:List (Int × Lv)} (h:CpxOk H ds fs X ls) (hXY : ∀x∈ls,X x.1→Y x.1):CpxOk H ds fs Y ls:=⟨h.nd,fun x hx=>⟨(h.ok x hx).one,fun hn=>(h.ok x hx).two fun h'=>hn (hXY x hx h'),fun hn=>(h.ok x hx).three fun h'=>hn (hXY x hx h')⟩⟩
theorem LvOk.mono {H:HP} {ds:List Int} {fs:List (List Term)} {X Y:Int→Prop} {n:Int} {x:Lv} (h:LvOk H ds fs X n x) (hXY:X n→Y n):LvOk H ds fs Y n x:=⟨h.one,fun hn=>h.two fun h'=>hn (hXY h'),fun hn=>h.three fun h'=>hn (hXY h')⟩
theorem CpxOk.out2 {H:HP} {ds:List Int} {fs:List (List Term)} {X:Int→Prop} {ls:List (Int × Lv)} {n m:Int} {x y:Lv} (h:CpxOk H ds fs X ls) (hx:(n,x)∈ls) (hy:(m,y)∈ls) (hnm:n≠m) : ∃rest,ls.Perm ((n,x)::(m,y)::rest)∧CpxOk H ds fs X rest∧(∀z∈rest,z.1≠n∧z.1≠m)∧LvOk H ds fs X n x∧LvOk H ds fs X m y:=by
 obtain ⟨r1,hp1,hC1,hn1,hL1⟩:=h.out hx
 have hy1:(m,y)∈r1:=by
  rcases List.mem_cons.1 (hp1.subset hy) with e | e
  ·exact absurd (congrArg Prod.fst e).symm hnm
  ·exact e
 obtain ⟨r2,hp2,hC2,hn2,hL2⟩:=hC1.out hy1;exact ⟨r2,hp1.trans (hp2.cons _),hC2,fun z hz=>⟨hn1 z (hp2.symm.subset (List.mem_cons_of_mem _ hz)),hn2 z hz⟩,hL1,hL2⟩
section
variable {B : World} {H0 H : HP} {L : List SA} {w : World}
theorem Hp.lvOut2 {lb:Nat} {ls rest:List (Int × Lv)} {x y:Int × Lv} (hp:ls.Perm (x::y::rest)) (h:Hp B H0 H (cpx lb ls::L) w):Hp B H0 H (lvB x.2::lvB y.2::lvO rest::lvM lb ((x.1,x.2.b)::(y.1,y.2.b)::lvK rest)::L) w:=by
 have h1:=h.lvOut hp;have h2:=(h1.front (.s .z)).unstar;exact (h2.front (.s (.s .z)))
theorem Hp.lvIn2 {lb:Nat} {rest:List (Int × Lv)} {x y:Int × Lv} (h:Hp B H0 H (lvB x.2::lvB y.2::lvO rest::lvM lb ((x.1,x.2.b)::(y.1,y.2.b)::lvK rest)::L) w):Hp B H0 H (cpx lb (x::y::rest)::L) w:=by
 have h1:=h.front (.s .z);have h2:=(h1.front (.s (.s .z))).front (.s .z);exact Hp.lvIn (x:=x) (rest:=y::rest) ((h2.star.front (.s .z)))
end
def matK (ds:List Int) (fs:List (List Term)) (n:Int) (k:Nat):List (List Int):=((monL ds n).take k).map fun p=>(monL ds (n+1)).map (cf (dS ds fs [(p,1)]))
theorem matK_succ {ds:List Int} {fs:List (List Term)} {n:Int} {k:Nat} (hk:k<(monL ds n).length):matK ds fs n (k+1)=matK ds fs n k++[(monL ds (n+1)).map (cf (dS ds fs [(rw_ (monL ds n) k,1)]))]:=by
 unfold matK;rw [rw_take hk,List.map_append]
 rfl
theorem matK_end {ds:List Int} {fs:List (List Term)} {n:Int} {k:Nat} (hk:k=(monL ds n).length):matK ds fs n k=matS ds fs n:=by
 subst hk;unfold matK matS;rw [List.take_length]
theorem matS_len (ds:List Int) (fs:List (List Term)) (n:Int):(matS ds fs n).length=(monL ds n).length:=by simp [matS]
theorem mon_pok {ds:List Int} {n:Int} (h8:ds.length≤8) {p:Pw} (hp:p∈monS ds n):Pok 20 p:=by
 have h:=enumF_mem (by omega) rfl hp;refine ⟨h.1,fun j=>?_⟩
 by_cases hj:j<ds.length
 ·have:=h.2.2.1 j hj;rw [Nat.zero_add] at this
  omega
 ·have:=h.2.1 j (.inr (by omega));rw [this,show zP=List.replicate 8 0 from rfl,rep_get];omega
theorem mon_ex {ds:List Int} {n:Int} (h8:ds.length≤8) {p:Pw} (hp:p∈monS ds n) (hd : ∀j,j<ds.length→1≤ds.getD j 0∧ds.getD j 0≤12):Ex ds p:=by
 have h:=enumF_mem (by omega) rfl hp;refine ⟨fun i hi=>?_,fun i hi ho=>?_⟩
 ·have:=h.2.1 i (.inr (by omega));rw [this,show zP=List.replicate 8 0 from rfl,rep_get]
 ·have h1:=h.2.2.1 i hi;rw [Nat.zero_add] at h1;refine h1.2.2 ?_;have:=hd i hi;have:=tmod_two (d:=ds.getD i 0) (by omega)
  omega
theorem mon_occ {ds:List Int} {n:Int} {k:Nat} (h8:ds.length≤8) {p:Pw} (hp:p∈monS ds n) (hd : ∀j,j<ds.length→1≤ds.getD j 0∧ds.getD j 0≤12) (hk:k=ds.length):Occ k [(p,1)]:=Ex.occ (fun x hx=>by rw [List.mem_singleton.1 hx];exact mon_ex h8 hp hd) hk
theorem monL_mem {ds:List Int} {n:Int} {k:Nat} (hk:k<(monL ds n).length):rw_ (monL ds n) k∈monS ds n:=List.mem_of_mem_take (rw_mem hk)
theorem monL_nodup {ds:List Int} (h8:ds.length≤8) (n:Int):(monL ds n).Nodup:=(List.take_sublist _ _).nodup (mon_nodup ds n h8)
def Fl (x:Lv):Prop:=x.m.q.isSome=true∧x.z.q.isSome=true
def Kp (ls ls':List (Int × Lv)):Prop:=∀y∈ls,Fl y.2→y∈ls'
theorem Kp.refl (ls:List (Int × Lv)):Kp ls ls:=fun _ h _=>h
theorem Kp.perm {a b c:List (Int × Lv)} (h:Kp a b) (hp:b.Perm c):Kp a c:=fun y hy hF=>hp.subset (h y hy hF)
def Hom1 (ds:List Int) (fs:List (List Term)) (n:Int):Prop:=∀p∈monL ds n,∀x∈dS ds fs [(p,1)],x.1∈monL ds (n+1)
theorem withMatrix_c {B:World} {H0 H:HP} {L:List SA} {w:World} {bc lc:Nat} {bca:Nat} {qcad qcaf:Option Addr} {ccad ccaf:Nat} {cad:List Int} {caf:List (List Term)} {n:Int} {ls:List (Int × Lv)} {X:Int→Prop} (pc0:CellAt H bc 0 (.pointer (some ⟨bca,0,none⟩))) (pc1:CellAt H bc 1 (.map (some lc))) (pcad:CellAt H bca 0 (.slice qcad cad.length ccad)) (pcaf:CellAt H bca 1 (.slice qcaf caf.length ccaf)) (hcad:Ints H qcad cad) (hcaf:Forms H qcaf caf) (hd : ∀j,j<cad.length→1≤cad.getD j 0∧cad.getD j 0≤12) (h8:cad.length≤8) (hn : -1≤n∧n≤100000) (hA:AlgOk cad caf) (hX : ¬X n) (hfit:fit2 cad n) (hom:Hom1 cad caf n) (hC:CpxOk H cad caf X ls) (hN:Nxt X ls) (hH:Hp B H0 H (cpx lc ls::L) w):Calls Tryz.prog 75 [.pointer (some ⟨bc,0,none⟩),.int .i64 n].toArray w fun e w'=>∃H' ls' x,Le H H' ∧CpxOk H' cad caf X ls' ∧(n,x)∈ls' ∧(∀y∈ls,y.1≠n→y∈ls')∧Nxt X ls' ∧n+1∈ls'.map (·.1)∧(Lv2 H' cad caf n x∧Kp ls ls')∧e = .returned (.pointer (some ⟨x.b,0,none⟩))∧Hp B H0 H' (cpx lc ls'::L) w':=by
 refine Jx Tryz.func75 rfl 55 rfl rfl [(0,.pointer (some ⟨bc,0,none⟩)),(1,.int .i64 n)] rfl hH ?_;have hw0:=hH.old;have hw1:=hH.le;clear hH;refine Je fun _ hK1 _=>(Jb (Jg (Jd rfl) rfl (Jf (Ja (hK1 (Je fun _ hK2 _=>(Jb (Jg (Jc rfl) rfl (Jg (Jc rfl) rfl (Jy fn77 rfl rfl fun w hH=>(bare_c (n:=n) pc0 pc1 pcad pcaf hcad hcaf hd h8 (by omega) hC hH).mono ?_))))))))));rintro _ w ⟨H11,ls11,⟨b11,p11,⟨ql11,kl11,cl11⟩,⟨qm11,km11,cm11⟩,⟨qz11,kz11,cz11⟩,⟨qy11,ky11,cy11⟩,⟨qx11,kx11,cx11⟩⟩,hle11,hC11,hx11,hsub11,hN11,rfl,hH⟩;refine ⟨_,rfl,fun a hF=>JR hF hH ?_⟩;replace pc0:=pc0.le hle11;replace pc1:=pc1.le hle11;replace pcad:=pcad.le hle11;replace pcaf:=pcaf.le hle11;replace hcad:=hcad.le hle11;replace hcaf:=hcaf.le hle11;replace hC:=hC.le hle11;obtain ⟨rs11,hp11,hCr11,hne11,hL11⟩:=hC11.out hx11;obtain rfl:kl11=(monL cad (n)).length:=hL11.one.len;have hpw11:Pows H11 ql11 (monL cad (n)):=hL11.one.pw;have hpl11:SumH H11 (.map (some p11)) (plM (monL cad (n))):=hL11.one.pl;refine J.reL (L':=obj b11 (.cells [.slice ql11 (monL cad (n)).length cl11,.map (some p11),.slice qm11 km11 cm11,.slice qz11 kz11 cz11,.slice qy11 ky11 cy11,.slice qx11 kx11 cx11].toArray 88 (0,0))::lvO rs11::lvM lc ((n,b11)::lvK rs11)::_) (fun w hH=>Hp.lvOut (x:=(n,⟨b11,p11,⟨ql11,(monL cad (n)).length,cl11⟩,⟨qm11,km11,cm11⟩,⟨qz11,kz11,cz11⟩,⟨qy11,ky11,cy11⟩,⟨qx11,kx11,cx11⟩⟩)) hp11 hH) (Jg (Jd rfl) rfl (Jf (Ja (hK2 (Je fun _ hK3 _=>(Je fun _ hK4 _=>(Jb (Jg (Jc rfl) rfl (Jg (JI rfl) rfl (Jg (Js u88 rfl sz31 rfl) rfl (Jg (Jv rfl At.z rfl pl31) rfl (Jg (PR.eqlNil u31 rfl rfl) rfl (Jf (Ja (hK4 (Eh rfl (fun h16=>?_) (fun h16=>?_)))))))))))))))))
 ·
  refine Je fun _ hK5 _=>(Jb (Jg (Jc rfl) rfl (EL (EP u31 sz22) rfl fun qo18 co18=>(Jg (JI rfl) rfl (Jg (Js u88 rfl sz31 rfl) rfl (Er rfl rfl rfl rfl sz31 (by simp [*]) (.s .z) (Jf (Ja (hK5 (Je fun _ hK6 _=>(Jb (Jg (Jc rfl) rfl (Jg (Jc rfl) rfl (Jg (Jz rfl rfl (by first | exact nw _ (by omega) | rfl)) rfl ?_))))))))))))));have hC0:CpxOk H11 cad caf (fun m=>X m∨m=n) ((n,⟨b11,p11,⟨ql11,(monL cad (n)).length,cl11⟩,⟨qo18,0,co18⟩,⟨qz11,kz11,cz11⟩,⟨qy11,ky11,cy11⟩,⟨qx11,kx11,cx11⟩⟩)::rs11):=(hCr11.mono fun x _ h=>.inl h).cons hne11 ⟨⟨rfl,hpw11,hpl11,hL11.one.z⟩,fun h=>absurd (.inr rfl) h,fun h=>absurd (.inr rfl) h⟩;refine J.reL (fun w hH=>Hp.lvIn (x:=(n,⟨b11,p11,⟨ql11,(monL cad (n)).length,cl11⟩,⟨qo18,0,co18⟩,⟨qz11,kz11,cz11⟩,⟨qy11,ky11,cy11⟩,⟨qx11,kx11,cx11⟩⟩)) (rest:=rs11) (((hH.front (.s (.s (.s .z)))).front (.s (.s (.s .z)))).front (.s (.s (.s .z))))) (Jy fn77 rfl rfl fun w hH=>(bare_c (n:=n+1) pc0 pc1 pcad pcaf hcad hcaf hd h8 (by omega) hC0 hH).mono ?_);rintro _ w ⟨H24,ls24,⟨b24,p24,⟨ql24,kl24,cl24⟩,⟨qm24,km24,cm24⟩,⟨qz24,kz24,cz24⟩,⟨qy24,ky24,cy24⟩,⟨qx24,kx24,cx24⟩⟩,hle24,hC24,hx24,hsub24,hN24,rfl,hH⟩;refine ⟨_,rfl,fun a hF=>JR hF hH ?_⟩;replace pc0:=pc0.le hle24;replace pc1:=pc1.le hle24;replace pcad:=pcad.le hle24;replace pcaf:=pcaf.le hle24;replace hcad:=hcad.le hle24;replace hcaf:=hcaf.le hle24;replace hC:=hC.le hle24;replace hCr11:=hCr11.le hle24;replace hL11:=hL11.le hle24;replace hpw11:=hpw11.le hle24;replace hpl11:=hpl11.le hle24;obtain ⟨rs24,hp24,hCr24,hne24,hM24,hL24⟩:=hC24.out2 (hsub24 (n,⟨b11,p11,⟨ql11,(monL cad (n)).length,cl11⟩,⟨qo18,0,co18⟩,⟨qz11,kz11,cz11⟩,⟨qy11,ky11,cy11⟩,⟨qx11,kx11,cx11⟩⟩) (by simp)) hx24 (by omega);obtain rfl:kl24=(monL cad (n+1)).length:=hL24.one.len;have hpw24:Pows H24 ql24 (monL cad (n+1)):=hL24.one.pw;have hpl24:SumH H24 (.map (some p24)) (plM (monL cad (n+1))):=hL24.one.pl;refine J.reL (L':=obj b11 (.cells [.slice ql11 (monL cad (n)).length cl11,.map (some p11),.slice qo18 0 co18,.slice qz11 kz11 cz11,.slice qy11 ky11 cy11,.slice qx11 kx11 cx11].toArray 88 (0,0))::obj b24 (.cells [.slice ql24 (monL cad (n+1)).length cl24,.map (some p24),.slice qm24 km24 cm24,.slice qz24 kz24 cz24,.slice qy24 ky24 cy24,.slice qx24 kx24 cx24].toArray 88 (0,0))::lvO rs24::lvM lc ((n,b11)::(n+1,b24)::lvK rs24)::_) (fun w hH=>Hp.lvOut2 (x:=(n,⟨b11,p11,⟨ql11,(monL cad (n)).length,cl11⟩,⟨qo18,0,co18⟩,⟨qz11,kz11,cz11⟩,⟨qy11,ky11,cy11⟩,⟨qx11,kx11,cx11⟩⟩)) (y:=(n+1,⟨b24,p24,⟨ql24,(monL cad (n+1)).length,cl24⟩,⟨qm24,km24,cm24⟩,⟨qz24,kz24,cz24⟩,⟨qy24,ky24,cy24⟩,⟨qx24,kx24,cx24⟩⟩)) hp24 hH) (Jg (Jd rfl) rfl (Jf (Ja (hK6 (Je fun _ hK7 _=>(Jb (Jg (Jc rfl) rfl (Jg (JI rfl) rfl (Jg (Js u88 rfl sz85 rfl) rfl (Jg (Jv rfl At.z rfl pl85) rfl (Jg (Jn u85 rfl rfl) rfl (Jg (Jc rfl) rfl (Jf (Ja (hK7 (Jk ?_))))))))))))))));refine JC (σ:=HP × Option Addr × Nat × List Value × Nat) (fun ⟨Hk,q,c,vals,k⟩=>[(30,.int .i64 (k:Int))]) (fun ⟨Hk,q,c,vals,k⟩=>Hk) (fun ⟨Hk,q,c,vals,k⟩=>obj b11 (.cells [.slice ql11 (monL cad (n)).length cl11,.map (some p11),.slice q k c,.slice qz11 kz11 cz11,.slice qy11 ky11 cy11,.slice qx11 kx11 cx11].toArray 88 (0,0))::obj b24 (.cells [.slice ql24 (monL cad (n+1)).length cl24,.map (some p24),.slice qm24 km24 cm24,.slice qz24 kz24 cz24,.slice qy24 ky24 cy24,.slice qx24 kx24 cx24].toArray 88 (0,0))::lvO rs24::lvM lc ((n,b11)::(n+1,b24)::lvK rs24)::own 22 1 q k c vals::L) (fun ⟨Hk,q,c,vals,k⟩=>Le H24 Hk∧SlF Hk vals (matK cad caf n k)∧k≤(monL cad n).length) (fun ⟨Hk,q,c,vals,k⟩=>(monL cad n).length - k) (H24,qo18,co18, [],0) ⟨Le.refl _,SlF.nil _,by omega⟩ ⟨rfl,trivial⟩ rfl rfl ?_;rintro ⟨Hk,q,c,vals,k⟩ ⟨hlk,hS,hk⟩ _ hAg0;replace pc0:=pc0.le hlk;replace pc1:=pc1.le hlk;replace pcad:=pcad.le hlk;replace pcaf:=pcaf.le hlk;replace hcad:=hcad.le hlk;replace hcaf:=hcaf.le hlk;replace hC:=hC.le hlk;replace hCr11:=hCr11.le hlk;replace hL11:=hL11.le hlk;replace hpw11:=hpw11.le hlk;replace hpl11:=hpl11.le hlk;replace hCr24:=hCr24.le hlk;replace hL24:=hL24.le hlk;replace hM24:=hM24.le hlk;replace hpw24:=hpw24.le hlk;replace hpl24:=hpl24.le hlk;refine Je fun _ hK8 _=>(Jb (Jg (JO rfl rfl) rfl (Jf (Ja (hK8 (Je fun _ hK9 _=>(Jo rfl (fun h31=>?_) (fun h31=>?_))))))))
  ·
   have hml:=monL_len cad n
   have hk1:k<(monL cad n).length:=by omega
   have hpm:=monL_mem hk1;have hpk:=mon_pok h8 hpm;have h8r:=hpk.len;have hocc:=mon_occ h8 hpm hd hA.hl;have hds:=dS_sok (ds:=cad) (Sok.one (k:=1) hpk (by omega)) hA.fok hocc;have hinx : ∀x∈dS cad caf [(rw_ (monL cad n) k,1)],x.1∈monL cad (n+1):=hom _ (rw_mem hk1);refine Jm (Ja (hK9 (Je fun _ hK10 _=>(Jk (Je fun _ hK11 _=>(Jb (Jg (El u85 sz148 rfl rfl rfl hk1 hpw11.sm) rfl (Jg (JP rfl (hpw11.cell _ hk1) (hpw11.sm (i:=k) hk1) (by rw [intsC_length,hpw11.len _ hk1];exact ag148)) rfl (JU ze148 rfl fun g8=>(JK rfl rfl (by first | exact bytesC_one _ | exact intsC_one _ | exact Term.c_one _ | simp [Value.oneCell']) (by simpa [*] using sz148) (by simp [*]) At.z (Jf (Ja (hK11 (Ej (Rs:=[_,_,_,_,_,_]) 21 [[], [], [1], [1,2], [1,2,3], [], [], [6], [6,7], [6,7,8], [], [], [10,11], [10,11,12], [6,7,8,9,10,11,12,13], [5,6,7,8,9,10,11,12,13,14], [5,6,7,8,9,10,11,12,13,14,15], [1,2,3,4,5,6,7,8,9,10,11,12,13,14,15,16], [0,1,2,3,4,5,6,7,8,9,10,11,12,13,14,15,16,17], [0,1,2,3,4,5,6,7,8,9,10,11,12,13,14,15,16,17,18], [0,1,2,3,4,5,6,7,8,9,10,11,12,13,14,15,16,17,18,19]] [[], [], [], [], [22], [], [], [], [], [], [], [21], [], [], [12], [14,23], [], [16], [], [], []] [[], [], [], [], [], [], [], [], [], [], [], [], [10], [], [], [], [], [26], [], [], [22]] rfl rfl (by kernel_rfl) ?_))))))))))))));apply Jl 1 rfl
   iterate 3 focus (intros;(conv=>lhs;simp only [Jh,Jr,JM,Jt,JH,eq_self,reduceEqDiff,reduceIte,reduceSub,reduceAdd,JxA,JxB]);all_goals rfl)
   ·
    intro gh X K zq zc zq2 zc2 zb zv hK;refine Jg (Jc rfl) rfl (Ji ?_);exact hK zq zc zq2 zc2 zb zv
   ·
    intro gh gh' h
    rfl
   apply Jl 2 rfl
   iterate 3 focus (intros;(conv=>lhs;simp only [Jh,Jr,JM,Jt,JH,eq_self,reduceEqDiff,reduceIte,reduceSub,reduceAdd,JxA,JxB]);all_goals rfl)
   ·
    intro gh X K zq zc zq2 zc2 zb zv hK;refine Jg (Jc rfl) rfl (Ji ?_);exact hK zq zc zq2 zc2 zb zv
   ·
    intro gh gh' h
    rfl
   apply Jl 3 rfl
   iterate 3 focus (intros;(conv=>lhs;simp only [Jh,Jr,JM,Jt,JH,eq_self,reduceEqDiff,reduceIte,reduceSub,reduceAdd,JxA,JxB]);all_goals rfl)
   ·
    intro gh X K zq zc zq2 zc2 zb zv hK;refine Jg (JI rfl) rfl (Ji ?_);exact hK zq zc zq2 zc2 zb zv
   ·
    intro gh gh' h
    rfl
   apply Jl 4 rfl
   iterate 3 focus (intros;(conv=>lhs;simp only [Jh,Jr,JM,Jt,JH,eq_self,reduceEqDiff,reduceIte,reduceSub,reduceAdd,JxA,JxB]);all_goals rfl)
   ·
    intro gh X K zq zc zq2 zc2 zb zv hK;refine Jg (Js u88 rfl sz31 rfl) rfl (Ji ?_);exact hK zq zc zq2 zc2 zb zv
   ·
    intro gh gh' h
    rfl
   apply Jl 5 rfl
   iterate 3 focus (intros;(conv=>lhs;simp only [Jh,Jr,JM,Jt,JH,eq_self,reduceEqDiff,reduceIte,reduceSub,reduceAdd,JxA,JxB]);all_goals rfl)
   ·
    intro gh X K zq zc zq2 zc2 zb zv hK;refine Jg (Jv rfl At.z rfl pl31) rfl (Ji ?_);exact hK zq zc zq2 zc2 zb zv
   ·
    intro gh gh' h
    rfl
   apply Jl 6 rfl
   iterate 3 focus (intros;(conv=>lhs;simp only [Jh,Jr,JM,Jt,JH,eq_self,reduceEqDiff,reduceIte,reduceSub,reduceAdd,JxA,JxB]);all_goals rfl)
   ·
    intro gh X K zq zc zq2 zc2 zb zv hK;refine Jg (Jc rfl) rfl (Ji ?_);exact hK zq zc zq2 zc2 zb zv
   ·
    intro gh gh' h
    rfl
   apply Jl 7 rfl
   iterate 3 focus (intros;(conv=>lhs;simp only [Jh,Jr,JM,Jt,JH,eq_self,reduceEqDiff,reduceIte,reduceSub,reduceAdd,JxA,JxB]);all_goals rfl)
   ·
    intro gh X K zq zc zq2 zc2 zb zv hK;refine Jg (Jc rfl) rfl (Ji ?_);exact hK zq zc zq2 zc2 zb zv
   ·
    intro gh gh' h
    rfl
   apply Jl 8 rfl
   iterate 3 focus (intros;(conv=>lhs;simp only [Jh,Jr,JM,Jt,JH,eq_self,reduceEqDiff,reduceIte,reduceSub,reduceAdd,JxA,JxB]);all_goals rfl)
   ·
    intro gh X K zq zc zq2 zc2 zb zv hK;refine Jg (JI rfl) rfl (Ji ?_);exact hK zq zc zq2 zc2 zb zv
   ·
    intro gh gh' h
    rfl
   apply Jl 9 rfl
   iterate 3 focus (intros;(conv=>lhs;simp only [Jh,Jr,JM,Jt,JH,eq_self,reduceEqDiff,reduceIte,reduceSub,reduceAdd,JxA,JxB]);all_goals rfl)
   ·
    intro gh X K zq zc zq2 zc2 zb zv hK;refine Jg (Js u126 rfl sz66 rfl) rfl (Ji ?_);exact hK zq zc zq2 zc2 zb zv
   ·
    intro gh gh' h
    rfl
   apply Jl 10 rfl
   iterate 3 focus (intros;(conv=>lhs;simp only [Jh,Jr,JM,Jt,JH,eq_self,reduceEqDiff,reduceIte,reduceSub,reduceAdd,JxA,JxB]);all_goals rfl)
   ·
    intro gh X K zq zc zq2 zc2 zb zv hK;refine Jg (JF (q:=some ⟨bc,0,none⟩) (k:=0) rfl pc0 pl66) rfl (Ji ?_);exact hK zq zc zq2 zc2 zb zv
   ·
    intro gh gh' h
    rfl
   apply JZ 11 rfl
   iterate 3 focus (intros;(conv=>lhs;simp only [Jh,Jr,JM,Jt,JH,eq_self,reduceEqDiff,reduceIte,reduceSub,reduceAdd,JxA,JxB]);all_goals rfl)
   ·
    intro gh X K zq zc zq2 zc2 zb zv hK;refine EO pwE (Value.int .i64) pwOk rfl fun bm44=>(Ji ?_);exact hK zq zc zq2 zc2 bm44 zv
   ·
    intro gh gh' h;refine ⟨?_,?_⟩ <;> rfl
   apply Jl 12 rfl
   iterate 3 focus (intros;(conv=>lhs;simp only [Jh,Jr,JM,Jt,JH,eq_self,reduceEqDiff,reduceIte,reduceSub,reduceAdd,JxA,JxB]);all_goals rfl)
   ·
    intro gh X K zq zc zq2 zc2 zb zv hK;refine Jg (JA rfl At.z (by simpa [*] using ag148)) rfl (Ji ?_);exact hK zq zc zq2 zc2 zb zv
   ·
    intro gh gh' h
    rfl
   apply ES 13 rfl
   iterate 3 focus (intros;(conv=>lhs;simp only [Jh,Jr,JM,Jt,JH,eq_self,reduceEqDiff,reduceIte,reduceSub,reduceAdd,JxA,JxB]);all_goals rfl)
   ·
    intro gh X K hK;refine J.putOne pwK u92 rfl rfl rfl (pwOk_of hpk (by omega)) At.z (Ji ?_);exact hK
   ·
    intro gh gh' h
    first | simp only [h 10 rfl] | rfl
   apply Jl 14 rfl
   iterate 3 focus (intros;(conv=>lhs;simp only [Jh,Jr,JM,Jt,JH,eq_self,reduceEqDiff,reduceIte,reduceSub,reduceAdd,JxA,JxB]);all_goals rfl)
   ·
    intro gh X K zq zc zq2 zc2 zb zv hK;refine Jg (Jc rfl) rfl (Ji ?_);exact hK zq zc zq2 zc2 zb zv
   ·
    intro gh gh' h
    first | simp only [h 10 rfl] | rfl
   apply JZ 15 rfl
   iterate 3 focus (intros;(conv=>lhs;simp only [Jh,Jr,JM,Jt,JH,eq_self,reduceEqDiff,reduceIte,reduceSub,reduceAdd,JxA,JxB]);all_goals rfl)
   ·
    intro gh X K zq zc zq2 zc2 zb zv hK;refine Jy fn109 rfl rfl fun w hH=>hH.lend .z fun Hl1 hle1 hA1 hB1 hH=>(d_c (pcad.le hle1) (pcaf.le hle1) (hcad.le hle1) (hcaf.le hle1) (omap_H hA1) (Sok.one hpk (by omega)) h8 hA.hd hA.fok hA.hl hocc (by omega) hH).mono ?_;rintro _ w ⟨bo47,rfl,hH⟩;replace hH:=hB1 _ _ hH;refine ⟨_,rfl,fun a hF=>JR hF hH ?_⟩;refine Jw .z (Jw (.s .z) (Ji ?_));exact hK zq zc zq2 zc2 bo47 zv
   ·
    intro gh gh' h;refine ⟨?_,?_⟩ <;> (first | simp only [h 10 rfl] | rfl)
   apply JZ 16 rfl
   iterate 3 focus (intros;(conv=>lhs;simp only [Jh,Jr,JM,Jt,JH,eq_self,reduceEqDiff,reduceIte,reduceSub,reduceAdd,JxA,JxB]);all_goals rfl)
   ·
    intro gh X K zq zc zq2 zc2 zb zv hK;refine Jy fn81 rfl rfl fun w hH=>hH.lend (.s .z) fun Hl1 hle1 hA1 hB1 hH=>hH.lend .z fun Hl2 hle2 hA2 hB2 hH=>(row_c (cellO_le hle2 (obj_cell hA1 rfl)) (cellO_le hle2 (obj_cell hA1 rfl)) (omap_H hA2) hds ((hpw24.le hle1).le hle2) ((hpl24.le hle1).le hle2) (monL_nodup h8 _) (by omega) hinx (by have:=monL_len cad (n+1);omega) hH).mono ?_;rintro _ w ⟨qo48,co48,rfl,hH⟩;replace hH:=hB2 _ _ hH;replace hH:=hB1 _ _ hH;refine ⟨_,rfl,fun a hF=>JR hF hH ?_⟩;refine Jw .z (Jw (.s .z) (Jw (.s (.s .z)) (Ji ?_)));exact hK qo48 co48 zq2 zc2 zb zv
   ·
    intro gh gh' h;refine ⟨?_,?_⟩ <;> (first | simp only [h 10 rfl,h 14 rfl] | rfl)
   apply JZ 17 rfl
   iterate 3 focus (intros;(conv=>lhs;simp only [Jh,Jr,JM,Jt,JH,eq_self,reduceEqDiff,reduceIte,reduceSub,reduceAdd,JxA,JxB]);all_goals rfl)
   ·
    intro gh X K zq zc zq2 zc2 zb zv hK;refine EL (EB u31 ze22 sz22 rfl rfl) rfl fun qo49 co49=>(Ji ?_);exact hK qo49 co49 zq2 zc2 zb zv
   ·
    intro gh gh' h;refine ⟨?_,?_⟩ <;> (first | simp only [h 10 rfl,h 14 rfl,h 15 rfl] | rfl)
   apply JZ 18 rfl
   iterate 3 focus (intros;(conv=>lhs;simp only [Jh,Jr,JM,Jt,JH,eq_self,reduceEqDiff,reduceIte,reduceSub,reduceAdd,JxA,JxB]);all_goals rfl)
   ·
    intro gh X K zq zc zq2 zc2 zb zv hK;refine EA u31 ze22 sz22 by22 rfl rfl rfl rfl (by omega) (.s .z) At.z (fun _ _=>At.z) rfl fun qo50 co50=>(Jw .z (Jw (.s .z) (Ji ?_)));exact hK qo50 co50 zq2 zc2 zb zv
   ·
    intro gh gh' h;refine ⟨?_,?_⟩ <;> (first | simp only [h 10 rfl,h 14 rfl,h 15 rfl,h 16 rfl] | rfl)
   apply Jl 19 rfl
   iterate 3 focus (intros;(conv=>lhs;simp only [Jh,Jr,JM,Jt,JH,eq_self,reduceEqDiff,reduceIte,reduceSub,reduceAdd,JxA,JxB]);all_goals rfl)
   ·
    intro gh X K zq zc zq2 zc2 zb zv hK;refine Jg (JI rfl) rfl (Ji ?_);exact hK zq zc zq2 zc2 zb zv
   ·
    intro gh gh' h
    first | simp only [h 10 rfl,h 14 rfl,h 15 rfl,h 16 rfl,h 17 rfl] | rfl
   apply Jl 20 rfl
   iterate 3 focus (intros;(conv=>lhs;simp only [Jh,Jr,JM,Jt,JH,eq_self,reduceEqDiff,reduceIte,reduceSub,reduceAdd,JxA,JxB]);all_goals rfl)
   ·
    intro gh X K zq zc zq2 zc2 zb zv hK;refine Jg (Js u88 rfl sz31 rfl) rfl (Ji ?_);exact hK zq zc zq2 zc2 zb zv
   ·
    intro gh gh' h
    first | simp only [h 10 rfl,h 14 rfl,h 15 rfl,h 16 rfl,h 17 rfl] | rfl
   apply ES 21 rfl
   iterate 3 focus (intros;(conv=>lhs;simp only [Jh,Jr,JM,Jt,JH,eq_self,reduceEqDiff,reduceIte,reduceSub,reduceAdd,JxA,JxB]);all_goals rfl)
   ·
    intro gh X K hK;refine Er rfl rfl rfl rfl sz31 (by simp [*]) At.z (Ji ?_);exact hK
   ·
    intro gh gh' h
    first | simp only [h 10 rfl,h 14 rfl,h 15 rfl,h 16 rfl,h 17 rfl] | rfl
   apply Ei [0,1,2,3,4,5,6,7,8,9,10,11,12,13,14,15,16,17,18,19,20] [0,1,2,3,4,5,6,7,8,9,11,12,13,14,15,16,17,18,19,20,21,23,24,25] foll0 rfl rfl rfl (by rfl)
   iterate 2 focus (intros;(conv=>lhs;simp only [Jh,Jr,JM,Jt,JH,eq_self,reduceEqDiff,reduceIte,reduceSub,reduceAdd,JxA,JxB]);all_goals rfl)
   intro gh;generalize (gh 10).b=bm44;generalize (gh 14).b=bo47;generalize (gh 15).c=co48;generalize (gh 15).q=qo48;generalize (gh 16).c=co49;generalize (gh 16).q=qo49;generalize (gh 17).c=co50;generalize (gh 17).q=qo50;clear gh;refine EF (.s (.s .z)) fun Ho48 hleo48 hAo48=>?_;replace pc0:=pc0.le hleo48;replace pc1:=pc1.le hleo48;replace pcad:=pcad.le hleo48;replace pcaf:=pcaf.le hleo48;replace hcad:=hcad.le hleo48;replace hcaf:=hcaf.le hleo48;replace hC:=hC.le hleo48;replace hCr11:=hCr11.le hleo48;replace hL11:=hL11.le hleo48;replace hpw11:=hpw11.le hleo48;replace hpl11:=hpl11.le hleo48;replace hCr24:=hCr24.le hleo48;replace hL24:=hL24.le hleo48;replace hM24:=hM24.le hleo48;replace hpw24:=hpw24.le hleo48;replace hpl24:=hpl24.le hleo48;replace hS:=hS.le hleo48;have hxo48:=own_ints hAo48;have hco48:=own_le hAo48;have hS2:=hS.snoc hxo48 rfl hco48;refine JD (Ja (hK10 (Jb (Jg (Jz rfl rfl (by first | exact nw _ (by omega) | rfl)) rfl (Jg (Jc rfl) rfl (Jf (Ja (JN .z (JN .z (JN .z (JN (.s (.s .z)) (Jw .z (Jw (.s (.s (.s (.s .z)))) (Jw (.s (.s (.s (.s .z)))) (Jw (.s (.s (.s (.s .z)))) ?_)))))))))))))));refine Jw (.s (.s (.s (.s .z)))) ?_;exact hAg0 (Ho48,qo50,co50,_,k+1) ⟨(hlk.trans hleo48),by rw [matK_succ hk1];exact hS2,by omega⟩ (by show (monL cad n).length - (k+1)<(monL cad n).length - k;omega) 26 rfl rfl ⟨rfl,trivial⟩ rfl rfl
  ·
   refine JG (Jj (Jj (JL (Ja (hK3 (Je fun _ hK12 _=>(Jb (Jg (Jc rfl) rfl (Ew (.s (.s (.s (.s .z)))) fun Ho18 hleo18 hAo18=>?_)))))))));replace pc0:=pc0.le hleo18;replace pc1:=pc1.le hleo18;replace pcad:=pcad.le hleo18;replace pcaf:=pcaf.le hleo18;replace hcad:=hcad.le hleo18;replace hcaf:=hcaf.le hleo18;replace hC:=hC.le hleo18;replace hCr11:=hCr11.le hleo18;replace hL11:=hL11.le hleo18;replace hpw11:=hpw11.le hleo18;replace hpl11:=hpl11.le hleo18;replace hCr24:=hCr24.le hleo18;replace hL24:=hL24.le hleo18;replace hM24:=hM24.le hleo18;replace hpw24:=hpw24.le hleo18;replace hpl24:=hpl24.le hleo18;replace hS:=hS.le hleo18;have hxo18:=hS.rows (Le.refl _) hAo18;have hco18:=own_le hAo18;refine Jg (Jd rfl) rfl (Jf (Ja (hK12 (Ju (Jq rfl (Res.tmp rfl) fun w hH=>?_)))));replace hH:=hH.sublist (.cons_cons _ (.cons_cons _ (.cons_cons _ (.cons_cons _ (List.Sublist.refl _)))))
   have hke:k=(monL cad n).length:=by omega
   rw [matK_end hke] at hxo18;have hm2:SlIs Ho18 ⟨q,k,c⟩ (matS cad caf n):=⟨by rw [matS_len];exact hke,hxo18⟩;have hN0:Nxt (fun m=>X m∨m=n) ((n,⟨b11,p11,⟨ql11,(monL cad (n)).length,cl11⟩,⟨qo18,0,co18⟩,⟨qz11,kz11,cz11⟩,⟨qy11,ky11,cy11⟩,⟨qx11,kx11,cx11⟩⟩)::rs11):=((hN11 _ hN).perm hp11).swap hne11 (fun m h _ hX=>h (.inl hX)) fun h=>absurd (.inr rfl) h
   have hne2 : ∀z∈(n+1,⟨b24,p24,⟨ql24,(monL cad (n+1)).length,cl24⟩,⟨qm24,km24,cm24⟩,⟨qz24,kz24,cz24⟩,⟨qy24,ky24,cy24⟩,⟨qx24,kx24,cx24⟩⟩)::rs24,z.1≠n:=fun z hz=>by
    rcases List.mem_cons.1 hz with rfl | hz
    ·show n+1≠n
     omega
    ·exact (hne24 z hz).1
   have hNf:Nxt X ((n,⟨b11,p11,⟨ql11,(monL cad (n)).length,cl11⟩,⟨q,k,c⟩,⟨qz11,kz11,cz11⟩,⟨qy11,ky11,cy11⟩,⟨qx11,kx11,cx11⟩⟩)::(n+1,⟨b24,p24,⟨ql24,(monL cad (n+1)).length,cl24⟩,⟨qm24,km24,cm24⟩,⟨qz24,kz24,cz24⟩,⟨qy24,ky24,cy24⟩,⟨qx24,kx24,cx24⟩⟩)::rs24):=((hN24 _ hN0).perm hp24).swap hne2 (fun m h1 h2 h3=>h3.elim h1 h2) fun _ _=>by simp
   have hq0:qm11=none:=by cases qm11 <;> simp_all
   have hKp:Kp ls ((n,⟨b11,p11,⟨ql11,(monL cad (n)).length,cl11⟩,⟨q,k,c⟩,⟨qz11,kz11,cz11⟩,⟨qy11,ky11,cy11⟩,⟨qx11,kx11,cx11⟩⟩)::(n+1,⟨b24,p24,⟨ql24,(monL cad (n+1)).length,cl24⟩,⟨qm24,km24,cm24⟩,⟨qz24,kz24,cz24⟩,⟨qy24,ky24,cy24⟩,⟨qx24,kx24,cx24⟩⟩)::rs24):=fun y hy hF=>by
    have h1:y∈rs11:=by
     rcases List.mem_cons.1 (hp11.subset (hsub11 y hy)) with rfl | h1
     ·have h2:qm11.isSome=true:=hF.1;rw [hq0] at h2
      cases h2
     ·exact h1
    rcases List.mem_cons.1 (hp24.subset (hsub24 y (List.mem_cons_of_mem _ h1))) with rfl | h2
    ·exact absurd rfl (hne11 _ h1)
    ·exact List.mem_cons_of_mem _ h2
   refine ⟨_,(n,⟨b11,p11,⟨ql11,(monL cad (n)).length,cl11⟩,⟨q,k,c⟩,⟨qz11,kz11,cz11⟩,⟨qy11,ky11,cy11⟩,⟨qx11,kx11,cx11⟩⟩)::(n+1,⟨b24,p24,⟨ql24,(monL cad (n+1)).length,cl24⟩,⟨qm24,km24,cm24⟩,⟨qz24,kz24,cz24⟩,⟨qy24,ky24,cy24⟩,⟨qx24,kx24,cx24⟩⟩)::rs24,_,(((hle11.trans hle24).trans hlk).trans hleo18),?_,List.mem_cons_self,fun y hy hyn=>?_,hNf,by simp,⟨hm2,hKp⟩,rfl,Hp.lvIn2 (x:=(n,⟨b11,p11,⟨ql11,(monL cad (n)).length,cl11⟩,⟨q,k,c⟩,⟨qz11,kz11,cz11⟩,⟨qy11,ky11,cy11⟩,⟨qx11,kx11,cx11⟩⟩)) (y:=(n+1,⟨b24,p24,⟨ql24,(monL cad (n+1)).length,cl24⟩,⟨qm24,km24,cm24⟩,⟨qz24,kz24,cz24⟩,⟨qy24,ky24,cy24⟩,⟨qx24,kx24,cx24⟩⟩)) hH⟩
   ·have hC1:=hCr24.mono (Y:=X) fun z hz h=>h.resolve_right (hne24 z hz).1;refine ((hC1.cons (fun z hz=>(hne24 z hz).2) (hL24.mono fun h=>h.resolve_right (by omega))).cons hne2 ⟨⟨rfl,hpw11,hpl11,hL11.one.z⟩,fun _ _ _=>hm2,hL11.three⟩)
   ·have h1:y∈rs11:=by
     rcases List.mem_cons.1 (hp11.subset (hsub11 y hy)) with rfl | h1
     ·exact absurd rfl hyn
     ·exact h1
    rcases List.mem_cons.1 (hp24.subset (hsub24 y (List.mem_cons_of_mem _ h1))) with rfl | h2
    ·exact absurd rfl hyn
    ·exact List.mem_cons_of_mem _ h2
 ·
  refine Jm (Ja (hK3 (Je fun _ hK13 _=>(Jb (Jg (Jc rfl) rfl (Jg (Jd rfl) rfl (Jf (Ja (hK13 (Ju (Jq rfl (Res.tmp rfl) fun w hH=>?_)))))))))));replace hH:=hH.sublist (.cons_cons _ (.cons_cons _ (.cons_cons _ (List.Sublist.refl _))))
  have hq:qm11.isSome=true:=by cases qm11 <;> simp_all
  exact ⟨_,(n,⟨b11,p11,⟨ql11,(monL cad (n)).length,cl11⟩,⟨qm11,km11,cm11⟩,⟨qz11,kz11,cz11⟩,⟨qy11,ky11,cy11⟩,⟨qx11,kx11,cx11⟩⟩)::rs11,_,hle11,hCr11.cons hne11 hL11,List.mem_cons_self,fun y hy _=>hp11.subset (hsub11 y hy),(hN11 _ hN).perm hp11,(hN11 _ hN).perm hp11 _ List.mem_cons_self hX hq,⟨hL11.two hX hq hfit,fun y hy _=>hp11.subset (hsub11 y hy)⟩,rfl,Hp.lvIn (x:=(n,⟨b11,p11,⟨ql11,(monL cad (n)).length,cl11⟩,⟨qm11,km11,cm11⟩,⟨qz11,kz11,cz11⟩,⟨qy11,ky11,cy11⟩,⟨qx11,kx11,cx11⟩⟩)) hH⟩
theorem fn75:Fn Tryz.prog 75:=⟨_,Tryz.func75,by kernel_rfl,rfl⟩
theorem fn76:Fn Tryz.prog 76:=⟨_,Tryz.func76,by kernel_rfl,rfl⟩
theorem fn78:Fn Tryz.prog 78:=⟨_,Tryz.func78,by kernel_rfl,rfl⟩
theorem equalIn_nilS {P:Program} (w:World) (d:Nat) {t e:TypeId} (a:Option Addr) (l c:Nat) (h:P.underlying t=some (.slice e)):(Op.equalIn (d+1) t (.slice a l c) (.slice none 0 0)).run P w = .ok a.isNone w:=by
 cases a <;> simp [Op.equalIn,run_underlying h]
theorem run_neq_nilS {P:Program} (w:World) {t e:TypeId} (a:Option Addr) (l c:Nat) (h:P.underlying t=some (.slice e)):(binOp .neq t (.slice a l c) (.slice none 0 0)).run P w = .ok (.bool (!a.isNone)) w:=by
 have h2:(Op.equal t (.slice a l c) (.slice none 0 0)).run P w = .ok a.isNone w:=equalIn_nilS w 9999 a l c h
 simp [binOp,h2]
section
variable {P : Program} {ops : Array Oper} {Q : Exit → Act → World → Prop} {n : Nat} {B : World} {H0 H : HP} {rest : List Oper} {us : List (Nat × Value)} {L L' : List SA} {t : TypeId} {p : String} {af : Array Edge} {d : Nat} {x y : Operand}
theorem PR.neqNil {xt yt e:TypeId} {q:Option Addr} {m c:Nat} (hu:P.underlying xt=some (.slice e)) (hx:opv us x=some (.slice q m c)) (hy:opv us y=some (.slice none 0 0)):PR P n B H0 us H L (.binOp .neq xt x y yt) t (.bool (!q.isNone)):=
 fun _ _ _ _ a w hF _=>by simp [execOp,hF.ev hx,hF.ev hy,eqGuard_at_slice,run_neq_nilS w q m c hu]
end
section
variable {B : World} {H0 H : HP} {L : List SA} {w : World}
theorem Hp.lvBack {lb:Nat} {rest:List (Int × Lv)} {x y:Int × Lv} (h:Hp B H0 H (lvB x.2::lvB y.2::lvO rest::lvM lb ((x.1,x.2.b)::(y.1,y.2.b)::lvK rest)::L) w):Hp B H0 H (lvB x.2::lvO (y::rest)::lvM lb ((x.1,x.2.b)::lvK (y::rest))::L) w:=by
 have h1:=h.front (.s .z);have h2:=(h1.front (.s (.s .z))).front (.s .z);exact h2.star.front (.s .z)
end
theorem matS_ok {ds:List Int} {fs:List (List Term)} {n:Int} (hA:AlgOk ds fs) (h8:ds.length≤8) (hd : ∀j,j<ds.length→1≤ds.getD j 0∧ds.getD j 0≤12) : ∀r∈matS ds fs n,RowOk (monL ds (n+1)).length r:=fun r hr=>by
 obtain ⟨p,hp,rfl⟩:=List.mem_map.1 hr
 have hp':p∈monS ds n:=List.mem_of_mem_take hp
 have hs:=dS_sok (ds:=ds) (Sok.one (k:=1) (mon_pok h8 hp') (by omega)) hA.fok (mon_occ h8 hp' hd hA.hl)
 refine ⟨by simp,fun k=>?_⟩
 by_cases hk:k<(monL ds (n+1)).length
 ·have e:((monL ds (n+1)).map (cf (dS ds fs [(p,1)]))).getD k 0=cf (dS ds fs [(p,1)]) (monL ds (n+1))[k]:=by simp [List.getD_eq_getElem?_getD,List.getElem?_eq_getElem hk]
  rw [e]
  exact cf_bd hs _
 ·rw [getD_ge (by simp;omega)]
  omega
theorem clS_red {ds:List Int} {fs:List (List Term)} {n:Int} (hA:AlgOk ds fs) (h8:ds.length≤8) (hd : ∀j,j<ds.length→1≤ds.getD j 0∧ds.getD j 0≤12):Red (monL ds n).length (clS ds fs n):=by
 have h1:=(redS_ok (wdS_ok (n:=(matS ds fs n).length) (matS_ok (n:=n) hA h8 hd))).1;have h2:=(redS_ok (fzS_ok h1.row)).1;have h3:Red (matS ds fs n).length (clS ds fs n):=h2
 rwa [matS_len] at h3
theorem bdS_red {ds:List Int} {fs:List (List Term)} {n:Int} (hA:AlgOk ds fs) (h8:ds.length≤8) (hd : ∀j,j<ds.length→1≤ds.getD j 0∧ds.getD j 0≤12):Red (monL ds n).length (bdS ds fs n):=by
 unfold bdS
 split
 ·have:=(redS_ok (matS_ok (n:=n - 1) hA h8 hd)).1
  rwa [Int.sub_add_cancel] at this
 ·exact Red.nil
theorem Red.led {W:Nat} {R:List (List Int)} (h:Red W R) : ∀r∈R,RowOk W r∧ldR r<W:=fun r hr=>⟨h.row r hr,(h.one r hr).1⟩
def lfK (ds:List Int) (fs:List (List Term)) (n:Int) (k:Nat):List (List Int):=((clS ds fs n).take k).map fun r=>byS r (bdS ds fs n)
theorem lfK_succ {ds:List Int} {fs:List (List Term)} {n:Int} {k:Nat} (hk:k<(clS ds fs n).length):lfK ds fs n (k+1)=lfK ds fs n k++[byS (rw_ (clS ds fs n) k) (bdS ds fs n)]:=by
 unfold lfK;rw [rw_take hk,List.map_append]
 rfl
theorem lfK_end {ds:List Int} {fs:List (List Term)} {n:Int} {k:Nat} (hk:k=(clS ds fs n).length):redS (lfK ds fs n k)=csS ds fs n:=by
 subst hk;unfold lfK csS;rw [List.take_length]
theorem lfK_len {ds:List Int} {fs:List (List Term)} {n:Int} {k:Nat} (hk:k≤(clS ds fs n).length):(lfK ds fs n k).length=k:=by
 unfold lfK;rw [List.length_map,List.length_take]
 omega
theorem lfK_ok {ds:List Int} {fs:List (List Term)} {n:Int} {k:Nat} (hA:AlgOk ds fs) (h8:ds.length≤8) (hd : ∀j,j<ds.length→1≤ds.getD j 0∧ds.getD j 0≤12) : ∀r∈lfK ds fs n k,RowOk (monL ds n).length r:=fun r hr=>by
 obtain ⟨s,hs,rfl⟩:=List.mem_map.1 hr
 exact byS_ok ((clS_red hA h8 hd).row s (List.mem_of_mem_take hs)) (bdS_red hA h8 hd).row
theorem csS_red {ds:List Int} {fs:List (List Term)} {n:Int} (hA:AlgOk ds fs) (h8:ds.length≤8) (hd : ∀j,j<ds.length→1≤ds.getD j 0∧ds.getD j 0≤12):Red (monL ds n).length (csS ds fs n):=by
 rw [← lfK_end rfl];exact (redS_ok (lfK_ok hA h8 hd)).1
theorem at_c {B:World} {H0 H:HP} {L:List SA} {w:World} {bc lc:Nat} {bca:Nat} {qcad qcaf:Option Addr} {ccad ccaf:Nat} {cad:List Int} {caf:List (List Term)} {n:Int} {ls:List (Int × Lv)} (pc0:CellAt H bc 0 (.pointer (some ⟨bca,0,none⟩))) (pc1:CellAt H bc 1 (.map (some lc))) (pcad:CellAt H bca 0 (.slice qcad cad.length ccad)) (pcaf:CellAt H bca 1 (.slice qcaf caf.length ccaf)) (hcad:Ints H qcad cad) (hcaf:Forms H qcaf caf) (hd : ∀j,j<cad.length→1≤cad.getD j 0∧cad.getD j 0≤12) (h8:cad.length≤8) (hn : -1≤n∧n≤100000) (hA:AlgOk cad caf) (hfit:fit3 cad n) (hom : ∀m,m≤n→fit2 cad m→Hom1 cad caf m) (hC:CpxOk H cad caf (fun _=>False) ls) (hN:Nxt (fun _=>False) ls) (hH:Hp B H0 H (cpx lc ls::L) w):Calls Tryz.prog 41 [.pointer (some ⟨bc,0,none⟩),.int .i64 n].toArray w fun e w'=>∃H' ls' x,Le H H' ∧CpxOk H' cad caf (fun _=>False) ls' ∧Nxt (fun _=>False) ls' ∧(n,x)∈ls' ∧(Lv3 H' cad caf n x∧Lv2 H' cad caf n x∧Kp ls ls')∧e = .returned (.pointer (some ⟨x.b,0,none⟩))∧Hp B H0 H' (cpx lc ls'::L) w':=by
 refine Jx Tryz.func41 rfl 73 rfl rfl [(0,.pointer (some ⟨bc,0,none⟩)),(1,.int .i64 n)] rfl hH ?_;have hw0:=hH.old;have hw1:=hH.le;have hmok:=matS_ok (n:=n) hA h8 hd;have hmlen:=matS_len cad caf n;have hml:=monL_len cad n;have hml1:=monL_len cad (n+1);clear hH;refine Je fun _ hK1 _=>(Jb (Jg (Jd rfl) rfl (Jf (Ja (hK1 (Je fun _ hK2 _=>(Jb (Jg (Jc rfl) rfl (Jg (Jc rfl) rfl (Jy fn75 rfl rfl fun w hH=>(withMatrix_c (n:=n) (X:=fun _=>False) pc0 pc1 pcad pcaf hcad hcaf hd h8 (by omega) hA (fun h=>h) hfit.1 (hom n (Int.le_refl _) hfit.1) hC hN hH).mono ?_))))))))));rintro _ w ⟨H11,ls11,⟨b11,p11,⟨ql11,kl11,cl11⟩,⟨qm11,km11,cm11⟩,⟨qz11,kz11,cz11⟩,⟨qy11,ky11,cy11⟩,⟨qx11,kx11,cx11⟩⟩,hle11,hC11,hx11,hsub11,hN11,hk11,⟨hm11,hkp11⟩,rfl,hH⟩;refine ⟨_,rfl,fun a hF=>JR hF hH ?_⟩;replace pc0:=pc0.le hle11;replace pc1:=pc1.le hle11;replace pcad:=pcad.le hle11;replace pcaf:=pcaf.le hle11;replace hcad:=hcad.le hle11;replace hcaf:=hcaf.le hle11;replace hC:=hC.le hle11;obtain ⟨⟨b12,p12,⟨ql12,kl12,cl12⟩,⟨qm12,km12,cm12⟩,⟨qz12,kz12,cz12⟩,⟨qy12,ky12,cy12⟩,⟨qx12,kx12,cx12⟩⟩,hx12⟩:=key_mem hk11;obtain ⟨rs11,hp11,hCr11,hne11,hL11,hL12⟩:=hC11.out2 hx11 hx12 (by omega);obtain rfl:kl11=(monL cad n).length:=hL11.one.len;obtain rfl:kl12=(monL cad (n+1)).length:=hL12.one.len;obtain ⟨rfl,hmr⟩:km11=(matS cad caf n).length∧RowsR H11 qm11 (matS cad caf n):=hm11;have hpw11:Pows H11 ql11 (monL cad n):=hL11.one.pw;have hpl11:SumH H11 (.map (some p11)) (plM (monL cad n)):=hL11.one.pl;have hpw12:Pows H11 ql12 (monL cad (n+1)):=hL12.one.pw;refine J.reL (L':=obj b11 (.cells [.slice ql11 (monL cad (n)).length cl11,.map (some p11),.slice qm11 (matS cad caf n).length cm11,.slice qz11 kz11 cz11,.slice qy11 ky11 cy11,.slice qx11 kx11 cx11].toArray 88 (0,0))::obj b12 (.cells [.slice ql12 (monL cad (n+1)).length cl12,.map (some p12),.slice qm12 km12 cm12,.slice qz12 kz12 cz12,.slice qy12 ky12 cy12,.slice qx12 kx12 cx12].toArray 88 (0,0))::lvO rs11::lvM lc ((n,b11)::(n+1,b12)::lvK rs11)::_) (fun w hH=>Hp.lvOut2 (x:=(n,⟨b11,p11,⟨ql11,(monL cad (n)).length,cl11⟩,⟨qm11,(matS cad caf n).length,cm11⟩,⟨qz11,kz11,cz11⟩,⟨qy11,ky11,cy11⟩,⟨qx11,kx11,cx11⟩⟩)) (y:=(n+1,⟨b12,p12,⟨ql12,(monL cad (n+1)).length,cl12⟩,⟨qm12,km12,cm12⟩,⟨qz12,kz12,cz12⟩,⟨qy12,ky12,cy12⟩,⟨qx12,kx12,cx12⟩⟩)) hp11 hH) (Jg (Jd rfl) rfl (Jf (Ja (hK2 (Je fun _ hK3 _=>(Je fun _ hK4 _=>(Jb (Jg (Jc rfl) rfl (Jg (JI rfl) rfl (Jg (Js u88 rfl sz31 rfl) rfl (Jg (Jv rfl At.z rfl pl31) rfl (Jg (PR.neqNil u31 rfl rfl) rfl (Jf (Ja (hK4 (Eh rfl (fun h16=>?_) (fun h16=>?_)))))))))))))))))
 ·
  refine Je fun _ hK5 _=>(Jb (Jg (Jc rfl) rfl (Jg (Jd rfl) rfl (Jf (Ja (hK5 (Ju (Jp (Jq rfl (Res.tmp rfl) fun w hH=>?_)))))))));replace hH:=hH.sublist (.cons_cons _ (.cons_cons _ (.cons_cons _ (.cons_cons _ (List.Sublist.refl _)))))
  have hq:qz11.isSome=true:=by cases qz11 <;> simp_all
  exact ⟨_,(n,⟨b11,p11,⟨ql11,(monL cad (n)).length,cl11⟩,⟨qm11,(matS cad caf n).length,cm11⟩,⟨qz11,kz11,cz11⟩,⟨qy11,ky11,cy11⟩,⟨qx11,kx11,cx11⟩⟩)::(n+1,⟨b12,p12,⟨ql12,(monL cad (n+1)).length,cl12⟩,⟨qm12,km12,cm12⟩,⟨qz12,kz12,cz12⟩,⟨qy12,ky12,cy12⟩,⟨qx12,kx12,cx12⟩⟩)::rs11,_,hle11,(hCr11.cons (fun z hz=>(hne11 z hz).2) hL12).cons (fun z hz=>by
   rcases List.mem_cons.1 hz with rfl | hz
   ·show n+1≠n
    omega
   ·exact (hne11 z hz).1) hL11,hN11.perm hp11,List.mem_cons_self,⟨hL11.three (fun h=>h) hq hfit,⟨rfl,hmr⟩,hkp11.perm hp11⟩,rfl,Hp.lvIn2 (x:=(n,⟨b11,p11,⟨ql11,(monL cad (n)).length,cl11⟩,⟨qm11,(matS cad caf n).length,cm11⟩,⟨qz11,kz11,cz11⟩,⟨qy11,ky11,cy11⟩,⟨qx11,kx11,cx11⟩⟩)) (y:=(n+1,⟨b12,p12,⟨ql12,(monL cad (n+1)).length,cl12⟩,⟨qm12,km12,cm12⟩,⟨qz12,kz12,cz12⟩,⟨qy12,ky12,cy12⟩,⟨qx12,kx12,cx12⟩⟩)) hH⟩
 ·
  refine Jm (Ja (hK3 (Je fun _ hK6 _=>(Ej (Rs:=[_,_,_,_]) 17 [[], [], [1], [1,2], [1,2,3], [], [], [6], [5,6,7], [5,6,7,8], [5,6,7,8,9], [5,6,7,8,9,10], [5,6,7,8,9,10,11], [1,2,3,4,5,6,7,8,9,10,11,12], [0,1,2,3,4,5,6,7,8,9,10,11,12,13], [0,1,2,3,4,5,6,7,8,9,10,11,12,13,14], [0,1,2,3,4,5,6,7,8,9,10,11,12,13,14,15]] [[], [], [], [], [17], [], [], [], [], [], [], [18], [], [], [], [], []] [[], [], [], [], [], [], [], [], [20], [], [], [], [], [], [], [], [17]] rfl rfl (by kernel_rfl) ?_))));apply Jl 1 rfl
  iterate 3 focus (intros;(conv=>lhs;simp only [Jh,Jr,JM,Jt,JH,eq_self,reduceEqDiff,reduceIte,reduceSub,reduceAdd,JxA,JxB]);all_goals rfl)
  ·
   intro gh X K zq zc zq2 zc2 zb zv hK;refine Jg (Jc rfl) rfl (Ji ?_);exact hK zq zc zq2 zc2 zb zv
  ·
   intro gh gh' h
   rfl
  apply Jl 2 rfl
  iterate 3 focus (intros;(conv=>lhs;simp only [Jh,Jr,JM,Jt,JH,eq_self,reduceEqDiff,reduceIte,reduceSub,reduceAdd,JxA,JxB]);all_goals rfl)
  ·
   intro gh X K zq zc zq2 zc2 zb zv hK;refine Jg (Jc rfl) rfl (Ji ?_);exact hK zq zc zq2 zc2 zb zv
  ·
   intro gh gh' h
   rfl
  apply Jl 3 rfl
  iterate 3 focus (intros;(conv=>lhs;simp only [Jh,Jr,JM,Jt,JH,eq_self,reduceEqDiff,reduceIte,reduceSub,reduceAdd,JxA,JxB]);all_goals rfl)
  ·
   intro gh X K zq zc zq2 zc2 zb zv hK;refine Jg (JI rfl) rfl (Ji ?_);exact hK zq zc zq2 zc2 zb zv
  ·
   intro gh gh' h
   rfl
  apply Jl 4 rfl
  iterate 3 focus (intros;(conv=>lhs;simp only [Jh,Jr,JM,Jt,JH,eq_self,reduceEqDiff,reduceIte,reduceSub,reduceAdd,JxA,JxB]);all_goals rfl)
  ·
   intro gh X K zq zc zq2 zc2 zb zv hK;refine Jg (Js u88 rfl sz31 rfl) rfl (Ji ?_);exact hK zq zc zq2 zc2 zb zv
  ·
   intro gh gh' h
   rfl
  apply Jl 5 rfl
  iterate 3 focus (intros;(conv=>lhs;simp only [Jh,Jr,JM,Jt,JH,eq_self,reduceEqDiff,reduceIte,reduceSub,reduceAdd,JxA,JxB]);all_goals rfl)
  ·
   intro gh X K zq zc zq2 zc2 zb zv hK;refine Jg (Jv rfl At.z rfl pl31) rfl (Ji ?_);exact hK zq zc zq2 zc2 zb zv
  ·
   intro gh gh' h
   rfl
  apply Jl 6 rfl
  iterate 3 focus (intros;(conv=>lhs;simp only [Jh,Jr,JM,Jt,JH,eq_self,reduceEqDiff,reduceIte,reduceSub,reduceAdd,JxA,JxB]);all_goals rfl)
  ·
   intro gh X K zq zc zq2 zc2 zb zv hK;refine Jg (Jc rfl) rfl (Ji ?_);exact hK zq zc zq2 zc2 zb zv
  ·
   intro gh gh' h
   rfl
  apply Jl 7 rfl
  iterate 3 focus (intros;(conv=>lhs;simp only [Jh,Jr,JM,Jt,JH,eq_self,reduceEqDiff,reduceIte,reduceSub,reduceAdd,JxA,JxB]);all_goals rfl)
  ·
   intro gh X K zq zc zq2 zc2 zb zv hK;refine Jg (Jc rfl) rfl (Ji ?_);exact hK zq zc zq2 zc2 zb zv
  ·
   intro gh gh' h
   rfl
  apply Jl 8 rfl
  iterate 3 focus (intros;(conv=>lhs;simp only [Jh,Jr,JM,Jt,JH,eq_self,reduceEqDiff,reduceIte,reduceSub,reduceAdd,JxA,JxB]);all_goals rfl)
  ·
   intro gh X K zq zc zq2 zc2 zb zv hK;refine Jg (Jz rfl rfl (by first | exact nw _ (by omega) | rfl)) rfl (Ji ?_);exact hK zq zc zq2 zc2 zb zv
  ·
   intro gh gh' h
   rfl
  apply JZ 9 rfl
  iterate 3 focus (intros;(conv=>lhs;simp only [Jh,Jr,JM,Jt,JH,eq_self,reduceEqDiff,reduceIte,reduceSub,reduceAdd,JxA,JxB]);all_goals rfl)
  ·
   intro gh X K zq zc zq2 zc2 zb zv hK;refine Jy fn77 rfl rfl fun w hH=>(bareK_c (n:=n+1) pc0 pc1 pcad pcaf hcad hcaf (by omega) (look_s (by omega) look_z) (hH.front .z)).mono ?_;rintro _ w ⟨rfl,hH⟩;refine ⟨_,rfl,fun a hF=>JR hF hH ?_⟩;refine Ji ?_;exact hK zq zc zq2 zc2 zb zv
  ·
   intro gh gh' h;refine ⟨?_,?_⟩ <;> rfl
  apply Jl 10 rfl
  iterate 3 focus (intros;(conv=>lhs;simp only [Jh,Jr,JM,Jt,JH,eq_self,reduceEqDiff,reduceIte,reduceSub,reduceAdd,JxA,JxB]);all_goals rfl)
  ·
   intro gh X K zq zc zq2 zc2 zb zv hK;refine Jg (JI rfl) rfl (Ji ?_);exact hK zq zc zq2 zc2 zb zv
  ·
   intro gh gh' h
   rfl
  apply Jl 11 rfl
  iterate 3 focus (intros;(conv=>lhs;simp only [Jh,Jr,JM,Jt,JH,eq_self,reduceEqDiff,reduceIte,reduceSub,reduceAdd,JxA,JxB]);all_goals rfl)
  ·
   intro gh X K zq zc zq2 zc2 zb zv hK;refine Jg (Js u88 rfl sz85 rfl) rfl (Ji ?_);exact hK zq zc zq2 zc2 zb zv
  ·
   intro gh gh' h
   rfl
  apply Jl 12 rfl
  iterate 3 focus (intros;(conv=>lhs;simp only [Jh,Jr,JM,Jt,JH,eq_self,reduceEqDiff,reduceIte,reduceSub,reduceAdd,JxA,JxB]);all_goals rfl)
  ·
   intro gh X K zq zc zq2 zc2 zb zv hK;refine Jg (Jv rfl At.z rfl pl85) rfl (Ji ?_);exact hK zq zc zq2 zc2 zb zv
  ·
   intro gh gh' h
   rfl
  apply Jl 13 rfl
  iterate 3 focus (intros;(conv=>lhs;simp only [Jh,Jr,JM,Jt,JH,eq_self,reduceEqDiff,reduceIte,reduceSub,reduceAdd,JxA,JxB]);all_goals rfl)
  ·
   intro gh X K zq zc zq2 zc2 zb zv hK;refine Jg (Jn u85 rfl rfl) rfl (Ji ?_);exact hK zq zc zq2 zc2 zb zv
  ·
   intro gh gh' h
   rfl
  apply JZ 14 rfl
  iterate 3 focus (intros;(conv=>lhs;simp only [Jh,Jr,JM,Jt,JH,eq_self,reduceEqDiff,reduceIte,reduceSub,reduceAdd,JxA,JxB]);all_goals rfl)
  ·
   intro gh X K zq zc zq2 zc2 zb zv hK;refine Jy fn76 rfl rfl fun w hH=>(kernel_c hmr hmok (by omega) (by omega) hH).mono ?_;rintro _ w ⟨qo31,co31,vso31,rfl,hH⟩;refine ⟨_,rfl,fun a hF=>JR hF hH ?_⟩;refine Ji ?_;exact hK qo31 co31 zq2 zc2 zb vso31
  ·
   intro gh gh' h;refine ⟨?_,?_⟩ <;> rfl
  apply Jl 15 rfl
  iterate 3 focus (intros;(conv=>lhs;simp only [Jh,Jr,JM,Jt,JH,eq_self,reduceEqDiff,reduceIte,reduceSub,reduceAdd,JxA,JxB]);all_goals rfl)
  ·
   intro gh X K zq zc zq2 zc2 zb zv hK;refine Jg (JI rfl) rfl (Ji ?_);exact hK zq zc zq2 zc2 zb zv
  ·
   intro gh gh' h
   first | simp only [h 13 rfl] | rfl
  apply Jl 16 rfl
  iterate 3 focus (intros;(conv=>lhs;simp only [Jh,Jr,JM,Jt,JH,eq_self,reduceEqDiff,reduceIte,reduceSub,reduceAdd,JxA,JxB]);all_goals rfl)
  ·
   intro gh X K zq zc zq2 zc2 zb zv hK;refine Jg (Js u88 rfl sz31 rfl) rfl (Ji ?_);exact hK zq zc zq2 zc2 zb zv
  ·
   intro gh gh' h
   first | simp only [h 13 rfl] | rfl
  apply ES 17 rfl
  iterate 3 focus (intros;(conv=>lhs;simp only [Jh,Jr,JM,Jt,JH,eq_self,reduceEqDiff,reduceIte,reduceSub,reduceAdd,JxA,JxB]);all_goals rfl)
  ·
   intro gh X K hK;refine Er rfl rfl rfl rfl sz31 (by simp [*]) At.z (Ji ?_);exact hK
  ·
   intro gh gh' h
   first | simp only [h 13 rfl] | rfl
  apply Ei [0,1,2,3,4,5,6,7,8,9,10,11,12,13,14,15,16] [0,1,2,3,4,5,6,7,8,9,10,11,12,13,14,15,16,18,19] foll0 rfl rfl rfl (by rfl)
  iterate 2 focus (intros;(conv=>lhs;simp only [Jh,Jr,JM,Jt,JH,eq_self,reduceEqDiff,reduceIte,reduceSub,reduceAdd,JxA,JxB]);all_goals rfl)
  intro gh;generalize (gh 13).c=co31;generalize (gh 13).q=qo31;generalize (gh 13).vs=vso31;clear gh;refine EF (.s .z) fun Ho31 hleo31 hAo31=>?_;replace pc0:=pc0.le hleo31;replace pc1:=pc1.le hleo31;replace pcad:=pcad.le hleo31;replace pcaf:=pcaf.le hleo31;replace hcad:=hcad.le hleo31;replace hcaf:=hcaf.le hleo31;replace hC:=hC.le hleo31;replace hCr11:=hCr11.le hleo31;replace hL11:=hL11.le hleo31;replace hL12:=hL12.le hleo31;replace hmr:=hmr.le hleo31;replace hpw11:=hpw11.le hleo31;replace hpl11:=hpl11.le hleo31;replace hpw12:=hpw12.le hleo31;have hxo31:=own_rows hAo31;have hco31:=own_le hAo31.1;have hz3:SlIs Ho31 ⟨qo31,(clS cad caf n).length,co31⟩ (clS cad caf n):=⟨rfl,hxo31⟩
  have hneR : ∀z∈(n+1,⟨b12,p12,⟨ql12,(monL cad (n+1)).length,cl12⟩,⟨qm12,km12,cm12⟩,⟨qz12,kz12,cz12⟩,⟨qy12,ky12,cy12⟩,⟨qx12,kx12,cx12⟩⟩)::rs11,z.1≠n:=fun z hz=>by
   rcases List.mem_cons.1 hz with rfl | hz
   ·show n+1≠n
    omega
   ·exact (hne11 z hz).1
  have hCR:CpxOk Ho31 cad caf (fun _=>False) ((n+1,⟨b12,p12,⟨ql12,(monL cad (n+1)).length,cl12⟩,⟨qm12,km12,cm12⟩,⟨qz12,kz12,cz12⟩,⟨qy12,ky12,cy12⟩,⟨qx12,kx12,cx12⟩⟩)::rs11):=hCr11.cons (fun z hz=>(hne11 z hz).2) hL12;have hN0:Nxt (fun m=>m=n) ((n,⟨b11,p11,⟨ql11,(monL cad (n)).length,cl11⟩,⟨qm11,(matS cad caf n).length,cm11⟩,⟨qo31,(clS cad caf n).length,co31⟩,⟨qy11,ky11,cy11⟩,⟨qx11,kx11,cx11⟩⟩)::(n+1,⟨b12,p12,⟨ql12,(monL cad (n+1)).length,cl12⟩,⟨qm12,km12,cm12⟩,⟨qz12,kz12,cz12⟩,⟨qy12,ky12,cy12⟩,⟨qx12,kx12,cx12⟩⟩)::rs11):=(hN11.perm hp11).swap hneR (fun _ _ _ h=>h) fun h=>absurd rfl h;refine EJ.reL (fun w hH=>Hp.lvBack (x:=(n,⟨b11,p11,⟨ql11,(monL cad (n)).length,cl11⟩,⟨qm11,(matS cad caf n).length,cm11⟩,⟨qo31,(clS cad caf n).length,co31⟩,⟨qy11,ky11,cy11⟩,⟨qx11,kx11,cx11⟩⟩)) (y:=(n+1,⟨b12,p12,⟨ql12,(monL cad (n+1)).length,cl12⟩,⟨qm12,km12,cm12⟩,⟨qz12,kz12,cz12⟩,⟨qy12,ky12,cy12⟩,⟨qx12,kx12,cx12⟩⟩)) (((hH.front (.s (.s (.s .z)))).front (.s (.s (.s .z)))).front (.s (.s (.s .z))))) (Ja (hK6 (CJ.cutU (σ:=HP × Option Addr × Nat × List (Int × Lv)) (fun ⟨Hj,qj,cj,rsj⟩=>[]) (fun ⟨Hj,qj,cj,rsj⟩=>Hj) (fun ⟨Hj,qj,cj,rsj⟩=>obj b11 (.cells [.slice ql11 (monL cad (n)).length cl11,.map (some p11),.slice qm11 (matS cad caf n).length cm11,.slice qo31 (clS cad caf n).length co31,.slice qj (bdS cad caf n).length cj,.slice qx11 kx11 cx11].toArray 88 (0,0))::lvO rsj::lvM lc ((n,b11)::lvK rsj)::L) (fun ⟨Hj,qj,cj,rsj⟩=>Le Ho31 Hj∧RowsR Hj qj (bdS cad caf n)∧CpxOk Hj cad caf (fun _=>False) rsj∧(∀z∈rsj,z.1≠n)∧Nxt (fun m=>m=n) ((n,⟨b11,p11,⟨ql11,(monL cad (n)).length,cl11⟩,⟨qm11,(matS cad caf n).length,cm11⟩,⟨qo31,(clS cad caf n).length,co31⟩,⟨qy11,ky11,cy11⟩,⟨qx11,kx11,cx11⟩⟩)::rsj)∧n+1∈rsj.map (·.1)∧Kp ((n+1,⟨b12,p12,⟨ql12,(monL cad (n+1)).length,cl12⟩,⟨qm12,km12,cm12⟩,⟨qz12,kz12,cz12⟩,⟨qy12,ky12,cy12⟩,⟨qx12,kx12,cx12⟩⟩)::rs11) rsj) ?_ ?_)))
  ·
   intro _ hMt1;refine Je fun _ hK7 _=>(Jb (Jg (Jc rfl) rfl (Jg (EH rfl rfl) rfl (Jf (Ja (hK7 (Jo rfl (fun h35=>?_) (fun h35=>?_))))))))
   ·
    have hbe:bdS cad caf n=redS (matS cad caf (n - 1)):=if_pos h35;have hft:fit2 cad (n - 1):=⟨hfit.2 h35,by rw [Int.sub_add_cancel];exact hfit.1.1⟩;refine Jb (Jg (Jc rfl) rfl (Jg (Jc rfl) rfl (Jg (Jc rfl) rfl (Jg (EQ rfl rfl (by first | exact nw _ (by omega) | rfl)) rfl ?_))));have hC0:CpxOk Ho31 cad caf (fun m=>m=n) ((n,⟨b11,p11,⟨ql11,(monL cad (n)).length,cl11⟩,⟨qm11,(matS cad caf n).length,cm11⟩,⟨qo31,(clS cad caf n).length,co31⟩,⟨qy11,ky11,cy11⟩,⟨qx11,kx11,cx11⟩⟩)::(n+1,⟨b12,p12,⟨ql12,(monL cad (n+1)).length,cl12⟩,⟨qm12,km12,cm12⟩,⟨qz12,kz12,cz12⟩,⟨qy12,ky12,cy12⟩,⟨qx12,kx12,cx12⟩⟩)::rs11):=(hCR.mono fun _ _ h=>h.elim).cons hneR ⟨⟨rfl,hpw11,hpl11,hL11.one.z⟩,fun h=>absurd rfl h,fun h=>absurd rfl h⟩;refine J.reL (fun w hH=>Hp.lvIn (x:=(n,⟨b11,p11,⟨ql11,(monL cad (n)).length,cl11⟩,⟨qm11,(matS cad caf n).length,cm11⟩,⟨qo31,(clS cad caf n).length,co31⟩,⟨qy11,ky11,cy11⟩,⟨qx11,kx11,cx11⟩⟩)) (rest:=(n+1,⟨b12,p12,⟨ql12,(monL cad (n+1)).length,cl12⟩,⟨qm12,km12,cm12⟩,⟨qz12,kz12,cz12⟩,⟨qy12,ky12,cy12⟩,⟨qx12,kx12,cx12⟩⟩)::rs11) (((hH.front (.s (.s .z))).front (.s (.s .z))).front (.s (.s .z)))) (Jy fn75 rfl rfl fun w hH=>(withMatrix_c (n:=n - 1) (X:=fun m=>m=n) pc0 pc1 pcad pcaf hcad hcaf hd h8 (by omega) hA (by show ¬(n - 1=n);omega) hft (hom (n - 1) (by omega) hft) hC0 hN0 hH).mono ?_);rintro _ w ⟨H40,ls40,⟨b40,p40,⟨ql40,kl40,cl40⟩,⟨qm40,km40,cm40⟩,⟨qz40,kz40,cz40⟩,⟨qy40,ky40,cy40⟩,⟨qx40,kx40,cx40⟩⟩,hle40,hC40,hx40,hsub40,hN40,hk40,⟨hm40,hkp40⟩,rfl,hH⟩;refine ⟨_,rfl,fun a hF=>JR hF hH ?_⟩;replace pc0:=pc0.le hle40;replace pc1:=pc1.le hle40;replace pcad:=pcad.le hle40;replace pcaf:=pcaf.le hle40;replace hcad:=hcad.le hle40;replace hcaf:=hcaf.le hle40;replace hC:=hC.le hle40;replace hCr11:=hCr11.le hle40;replace hL11:=hL11.le hle40;replace hL12:=hL12.le hle40;replace hmr:=hmr.le hle40;replace hpw11:=hpw11.le hle40;replace hpl11:=hpl11.le hle40;replace hpw12:=hpw12.le hle40;replace hxo31:=hxo31.le hle40;replace hz3:=hz3.le hle40;replace hCR:=hCR.le hle40;obtain ⟨rs40,hp40,hCr40,hne40,hM40,hL40⟩:=hC40.out2 (hsub40 (n,⟨b11,p11,⟨ql11,(monL cad (n)).length,cl11⟩,⟨qm11,(matS cad caf n).length,cm11⟩,⟨qo31,(clS cad caf n).length,co31⟩,⟨qy11,ky11,cy11⟩,⟨qx11,kx11,cx11⟩⟩) (by simp) (by show n≠n - 1;omega)) hx40 (by omega);obtain rfl:kl40=(monL cad (n - 1)).length:=hL40.one.len;obtain ⟨rfl,hmr40⟩:km40=(matS cad caf (n - 1)).length∧RowsR H40 qm40 (matS cad caf (n - 1)):=hm40;refine J.reL (L':=obj b11 (.cells [.slice ql11 (monL cad (n)).length cl11,.map (some p11),.slice qm11 (matS cad caf n).length cm11,.slice qo31 (clS cad caf n).length co31,.slice qy11 ky11 cy11,.slice qx11 kx11 cx11].toArray 88 (0,0))::obj b40 (.cells [.slice ql40 (monL cad (n - 1)).length cl40,.map (some p40),.slice qm40 (matS cad caf (n - 1)).length cm40,.slice qz40 kz40 cz40,.slice qy40 ky40 cy40,.slice qx40 kx40 cx40].toArray 88 (0,0))::lvO rs40::lvM lc ((n,b11)::(n - 1,b40)::lvK rs40)::_) (fun w hH=>Hp.lvOut2 (x:=(n,⟨b11,p11,⟨ql11,(monL cad (n)).length,cl11⟩,⟨qm11,(matS cad caf n).length,cm11⟩,⟨qo31,(clS cad caf n).length,co31⟩,⟨qy11,ky11,cy11⟩,⟨qx11,kx11,cx11⟩⟩)) (y:=(n - 1,⟨b40,p40,⟨ql40,(monL cad (n - 1)).length,cl40⟩,⟨qm40,(matS cad caf (n - 1)).length,cm40⟩,⟨qz40,kz40,cz40⟩,⟨qy40,ky40,cy40⟩,⟨qx40,kx40,cx40⟩⟩)) hp40 hH) (Jg (JI rfl) rfl (Jg (Js u88 rfl sz31 rfl) rfl (Jg (Jv rfl (.s .z) rfl pl31) rfl (Jy fn46 rfl rfl fun w hH=>(reduce_c (W:=(monL cad (n - 1+1)).length) hmr40 (matS_ok hA h8 hd) (by rw [matS_len];have:=monL_len cad (n - 1);omega) (by have:=monL_len cad (n - 1+1);omega) hH).mono ?_))));rintro _ w ⟨qo44,co44,vso44,rfl,hH⟩;refine ⟨_,rfl,fun a hF=>JR hF hH ?_⟩;refine Ew .z fun Ho44 hleo44 hAo44=>?_;replace pc0:=pc0.le hleo44;replace pc1:=pc1.le hleo44;replace pcad:=pcad.le hleo44;replace pcaf:=pcaf.le hleo44;replace hcad:=hcad.le hleo44;replace hcaf:=hcaf.le hleo44;replace hC:=hC.le hleo44;replace hCr11:=hCr11.le hleo44;replace hL11:=hL11.le hleo44;replace hL12:=hL12.le hleo44;replace hmr:=hmr.le hleo44;replace hpw11:=hpw11.le hleo44;replace hpl11:=hpl11.le hleo44;replace hpw12:=hpw12.le hleo44;replace hxo31:=hxo31.le hleo44;replace hz3:=hz3.le hleo44;replace hCR:=hCR.le hleo44;replace hCr40:=hCr40.le hleo44;replace hL40:=hL40.le hleo44;replace hmr40:=hmr40.le hleo44;have hxo44:=own_rows hAo44;have hco44:=own_le hAo44.1;refine Jg (JI rfl) rfl (Jg (Js u88 rfl sz31 rfl) rfl (Er rfl rfl rfl rfl sz31 (by simp [*]) At.z ?_))
    have hneS : ∀z∈(n - 1,⟨b40,p40,⟨ql40,(monL cad (n - 1)).length,cl40⟩,⟨qm40,(matS cad caf (n - 1)).length,cm40⟩,⟨qz40,kz40,cz40⟩,⟨qy40,ky40,cy40⟩,⟨qx40,kx40,cx40⟩⟩)::rs40,z.1≠n:=fun z hz=>by
     rcases List.mem_cons.1 hz with rfl | hz
     ·show n - 1≠n
      omega
     ·exact (hne40 z hz).1
    have hCS:CpxOk Ho44 cad caf (fun _=>False) ((n - 1,⟨b40,p40,⟨ql40,(monL cad (n - 1)).length,cl40⟩,⟨qm40,(matS cad caf (n - 1)).length,cm40⟩,⟨qz40,kz40,cz40⟩,⟨qy40,ky40,cy40⟩,⟨qx40,kx40,cx40⟩⟩)::rs40):=(hCr40.mono fun z hz h=>absurd h (hne40 z hz).1).cons (fun z hz=>(hne40 z hz).2) (hL40.mono fun h=>by have:n - 1=n:=h;omega);have hNS:=hN40.perm hp40
    have hkS:n+1∈((n - 1,⟨b40,p40,⟨ql40,(monL cad (n - 1)).length,cl40⟩,⟨qm40,(matS cad caf (n - 1)).length,cm40⟩,⟨qz40,kz40,cz40⟩,⟨qy40,ky40,cy40⟩,⟨qx40,kx40,cx40⟩⟩)::rs40).map (·.1):=by
     have h1:=hp40.subset (hsub40 (n+1,⟨b12,p12,⟨ql12,(monL cad (n+1)).length,cl12⟩,⟨qm12,km12,cm12⟩,⟨qz12,kz12,cz12⟩,⟨qy12,ky12,cy12⟩,⟨qx12,kx12,cx12⟩⟩) (by simp) (by show n+1≠n - 1;omega))
     rcases List.mem_cons.1 h1 with h1 | h1
     ·have:=congrArg Prod.fst h1;simp only at this
      omega
     ·exact mem_key h1
    have hKS:Kp ((n+1,⟨b12,p12,⟨ql12,(monL cad (n+1)).length,cl12⟩,⟨qm12,km12,cm12⟩,⟨qz12,kz12,cz12⟩,⟨qy12,ky12,cy12⟩,⟨qx12,kx12,cx12⟩⟩)::rs11) ((n - 1,⟨b40,p40,⟨ql40,(monL cad (n - 1)).length,cl40⟩,⟨qm40,(matS cad caf (n - 1)).length,cm40⟩,⟨qz40,kz40,cz40⟩,⟨qy40,ky40,cy40⟩,⟨qx40,kx40,cx40⟩⟩)::rs40):=fun y hy hF=>by
     rcases List.mem_cons.1 (hp40.subset (hkp40 y (List.mem_cons_of_mem _ hy) hF)) with rfl | h1
     ·exact absurd rfl (hneR _ hy)
     ·exact h1
    refine J.reL (fun w hH=>Hp.lvBack (x:=(n,⟨b11,p11,⟨ql11,(monL cad (n)).length,cl11⟩,⟨qm11,(matS cad caf n).length,cm11⟩,⟨qo31,(clS cad caf n).length,co31⟩,⟨qo44,(redS (matS cad caf (n - 1))).length,co44⟩,⟨qx11,kx11,cx11⟩⟩)) (y:=(n - 1,⟨b40,p40,⟨ql40,(monL cad (n - 1)).length,cl40⟩,⟨qm40,(matS cad caf (n - 1)).length,cm40⟩,⟨qz40,kz40,cz40⟩,⟨qy40,ky40,cy40⟩,⟨qx40,kx40,cx40⟩⟩)) ((((hH.front (.s (.s (.s .z)))).front (.s (.s (.s .z)))).front (.s (.s (.s .z)))).front (.s (.s (.s .z))))) (Jf (Ja ?_));exact hMt1 (Ho44,qo44,co44,(n - 1,⟨b40,p40,⟨ql40,(monL cad (n - 1)).length,cl40⟩,⟨qm40,(matS cad caf (n - 1)).length,cm40⟩,⟨qz40,kz40,cz40⟩,⟨qy40,ky40,cy40⟩,⟨qx40,kx40,cx40⟩⟩)::rs40) ⟨(hle40.trans hleo44),by rw [hbe];exact hxo44,hCS,hneS,hNS,hkS,hKS⟩ 13 rfl rfl trivial rfl (by dsimp only;rw [hbe])
   ·
    have hbz:bdS cad caf n=[]:=if_neg h35;have hky:ky11=0:=hL11.one.z (by omega);refine Jm (Ja ?_);exact hMt1 (Ho31,qy11,cy11,(n+1,⟨b12,p12,⟨ql12,(monL cad (n+1)).length,cl12⟩,⟨qm12,km12,cm12⟩,⟨qz12,kz12,cz12⟩,⟨qy12,ky12,cy12⟩,⟨qx12,kx12,cx12⟩⟩)::rs11) ⟨(Le.refl _),by rw [hbz];exact RowsR.nil _ _,hCR,hneR,hN0,by simp,Kp.refl _⟩ 2 rfl rfl trivial rfl (by subst hky;dsimp only;rw [hbz];rfl)
  ·
   rintro ⟨Hj,qj,cj,rsj⟩ ⟨hlj,hbx,hCj,hnej,hNj,hkj,hKj⟩;replace pc0:=pc0.le hlj;replace pc1:=pc1.le hlj;replace pcad:=pcad.le hlj;replace pcaf:=pcaf.le hlj;replace hcad:=hcad.le hlj;replace hcaf:=hcaf.le hlj;replace hC:=hC.le hlj;replace hCr11:=hCr11.le hlj;replace hL11:=hL11.le hlj;replace hL12:=hL12.le hlj;replace hmr:=hmr.le hlj;replace hpw11:=hpw11.le hlj;replace hpl11:=hpl11.le hlj;replace hpw12:=hpw12.le hlj;replace hxo31:=hxo31.le hlj;replace hz3:=hz3.le hlj;replace hCR:=hCR.le hlj;have hclR:=clS_red (n:=n) hA h8 hd;have hbdR:=bdS_red (n:=n) hA h8 hd;have hclc:=hclR.count;have hbdc:=hbdR.count;refine Je fun _ hK8 _=>(Jb (EL (EP u31 sz22) rfl fun qo47 co47=>(Jg (Jd rfl) rfl (Jf (Ja (hK8 (Je fun _ hK9 _=>(Je fun _ hK10 _=>(Jb (Jg (Jc rfl) rfl (Jg (JI rfl) rfl (Jg (Js u88 rfl sz31 rfl) rfl (Jg (Jv rfl (.s .z) rfl pl31) rfl (Jg (Jn u31 rfl rfl) rfl (Jg (Jc rfl) rfl ?_)))))))))))))));refine Jf (Ja (hK10 (Jk (JC (σ:=HP × Option Addr × Nat × List Value × Nat) (fun ⟨Hk,q,c,vals,k⟩=>[(53,.int .i64 (k:Int)),(6,.slice q k c)]) (fun ⟨Hk,q,c,vals,k⟩=>Hk) (fun ⟨Hk,q,c,vals,k⟩=>own 22 1 q k c vals::obj b11 (.cells [.slice ql11 (monL cad (n)).length cl11,.map (some p11),.slice qm11 (matS cad caf n).length cm11,.slice qo31 (clS cad caf n).length co31,.slice qj (bdS cad caf n).length cj,.slice qx11 kx11 cx11].toArray 88 (0,0))::lvO rsj::lvM lc ((n,b11)::lvK rsj)::L) (fun ⟨Hk,q,c,vals,k⟩=>Le Hj Hk∧SlF Hk vals (lfK cad caf n k)∧k≤(clS cad caf n).length) (fun ⟨Hk,q,c,vals,k⟩=>(clS cad caf n).length - k) (Hj,qo47,co47, [],0) ⟨Le.refl _,SlF.nil _,by omega⟩ ⟨rfl,⟨rfl,trivial⟩⟩ rfl rfl ?_))));rintro ⟨Hk,q,c,vals,k⟩ ⟨hlk,hS,hk⟩ _ hAg0;replace pc0:=pc0.le hlk;replace pc1:=pc1.le hlk;replace pcad:=pcad.le hlk;replace pcaf:=pcaf.le hlk;replace hcad:=hcad.le hlk;replace hcaf:=hcaf.le hlk;replace hC:=hC.le hlk;replace hCr11:=hCr11.le hlk;replace hL11:=hL11.le hlk;replace hL12:=hL12.le hlk;replace hmr:=hmr.le hlk;replace hpw11:=hpw11.le hlk;replace hpl11:=hpl11.le hlk;replace hpw12:=hpw12.le hlk;replace hxo31:=hxo31.le hlk;replace hz3:=hz3.le hlk;replace hCR:=hCR.le hlk;replace hbx:=hbx.le hlk;replace hCj:=hCj.le hlk;refine Je fun _ hK11 _=>(Jb (Jg (JO rfl rfl) rfl (Jf (Ja (hK11 (Je fun _ hK12 _=>(Jo rfl (fun h54=>?_) (fun h54=>?_))))))))
   ·
    have hkc:k<(clS cad caf n).length:=by omega
    refine Jm (Ja (hK12 (Je fun _ hK13 _=>(Jk (Je fun _ hK14 _=>(Jb (Jg (JQ u31 sz22 rfl rfl rfl hkc hxo31.sm) rfl ?_)))))));obtain ⟨qe56,ce56,he56,le56,Fe56⟩:=hxo31 k hkc;refine Jg (JF rfl he56 pl22) rfl (Jg (Jd rfl) rfl (Jf (Ja (hK14 (Jb (Jg (Jc rfl) rfl (Jg (Jc rfl) rfl (Jg (Jc rfl) rfl (Jg (JI rfl) rfl (Jg (Js u88 rfl sz31 rfl) rfl (Jg (Jv rfl (.s .z) rfl pl31) rfl (Jy fn78 rfl rfl fun w hH=>(reduceBy_c (W:=(monL cad n).length) Fe56 hbx (hclR.row _ (rw_mem hkc)) hbdR.led (by omega) (by omega) hH).mono ?_))))))))))));rintro _ w ⟨qo63,co63,rfl,hH⟩;refine ⟨_,rfl,fun a hF=>JR hF hH ?_⟩;refine Ew .z fun Ho63 hleo63 hAo63=>?_;replace pc0:=pc0.le hleo63;replace pc1:=pc1.le hleo63;replace pcad:=pcad.le hleo63;replace pcaf:=pcaf.le hleo63;replace hcad:=hcad.le hleo63;replace hcaf:=hcaf.le hleo63;replace hC:=hC.le hleo63;replace hCr11:=hCr11.le hleo63;replace hL11:=hL11.le hleo63;replace hL12:=hL12.le hleo63;replace hmr:=hmr.le hleo63;replace hpw11:=hpw11.le hleo63;replace hpl11:=hpl11.le hleo63;replace hpw12:=hpw12.le hleo63;replace hxo31:=hxo31.le hleo63;replace hz3:=hz3.le hleo63;replace hCR:=hCR.le hleo63;replace hbx:=hbx.le hleo63;replace hCj:=hCj.le hleo63;replace hS:=hS.le hleo63;replace Fe56:=Fe56.le hleo63;have hxo63:=own_ints hAo63;have hco63:=own_le hAo63;refine EL (EB u31 ze22 sz22 rfl rfl) rfl fun qo64 co64=>(EA u31 ze22 sz22 by22 rfl rfl rfl rfl (by omega) .z At.z (fun _ _=>At.z) rfl fun qo65 co65=>?_);have hS2:=hS.snoc hxo63 rfl hco63;refine Jg (Jd rfl) rfl (Jf (JD (Ja (hK13 (Jb (Jg (Jz rfl rfl (by first | exact nw _ (by omega) | rfl)) rfl (Jg (Jc rfl) rfl (Jf (Ja (JN .z ?_))))))))));exact hAg0 (Ho63,qo65,co65,_,k+1) ⟨(hlk.trans hleo63),by rw [lfK_succ hkc];exact hS2,by omega⟩ (by show (clS cad caf n).length - (k+1)<(clS cad caf n).length - k;omega) 18 rfl rfl ⟨rfl,⟨rfl,trivial⟩⟩ rfl rfl
   ·
    refine JG (Jj (Jj (JL (Ja (hK9 (Je fun _ hK15 _=>(Jb (Jg (Jc rfl) rfl (Jg (EK (v':=.slice q (lfK cad caf n k).length c) (by rw [lfK_len hk]) (Jc rfl)) rfl (Ew .z fun Ho47 hleo47 hAo47=>?_))))))))));replace pc0:=pc0.le hleo47;replace pc1:=pc1.le hleo47;replace pcad:=pcad.le hleo47;replace pcaf:=pcaf.le hleo47;replace hcad:=hcad.le hleo47;replace hcaf:=hcaf.le hleo47;replace hC:=hC.le hleo47;replace hCr11:=hCr11.le hleo47;replace hL11:=hL11.le hleo47;replace hL12:=hL12.le hleo47;replace hmr:=hmr.le hleo47;replace hpw11:=hpw11.le hleo47;replace hpl11:=hpl11.le hleo47;replace hpw12:=hpw12.le hleo47;replace hxo31:=hxo31.le hleo47;replace hz3:=hz3.le hleo47;replace hCR:=hCR.le hleo47;replace hbx:=hbx.le hleo47;replace hCj:=hCj.le hleo47;replace hS:=hS.le hleo47;have hxo47:=hS.rows (Le.refl _) hAo47;have hco47:=own_le hAo47;refine Jy fn46 rfl rfl fun w hH=>(reduce_c (W:=(monL cad n).length) hxo47 (lfK_ok hA h8 hd) (by rw [lfK_len hk];omega) (by omega) hH).mono ?_;rintro _ w ⟨qo69,co69,vso69,rfl,hH⟩;refine ⟨_,rfl,fun a hF=>JR hF hH ?_⟩;refine Ew .z fun Ho69 hleo69 hAo69=>?_;replace pc0:=pc0.le hleo69;replace pc1:=pc1.le hleo69;replace pcad:=pcad.le hleo69;replace pcaf:=pcaf.le hleo69;replace hcad:=hcad.le hleo69;replace hcaf:=hcaf.le hleo69;replace hC:=hC.le hleo69;replace hCr11:=hCr11.le hleo69;replace hL11:=hL11.le hleo69;replace hL12:=hL12.le hleo69;replace hmr:=hmr.le hleo69;replace hpw11:=hpw11.le hleo69;replace hpl11:=hpl11.le hleo69;replace hpw12:=hpw12.le hleo69;replace hxo31:=hxo31.le hleo69;replace hz3:=hz3.le hleo69;replace hCR:=hCR.le hleo69;replace hbx:=hbx.le hleo69;replace hCj:=hCj.le hleo69;replace hS:=hS.le hleo69;replace hxo47:=hxo47.le hleo69;have hxo69:=own_rows hAo69;have hco69:=own_le hAo69.1;refine Jg (JI rfl) rfl (Jg (Js u88 rfl sz31 rfl) rfl (Er rfl rfl rfl rfl sz31 (by simp [*]) At.z (Jf (Ja (hK15 (Je fun _ hK16 _=>(Jb (Jg (Jc rfl) rfl (Jg (Jd rfl) rfl (Jf (Ja (hK16 (Ju (Jq rfl (Res.tmp rfl) fun w hH=>?_))))))))))))));replace hH:=hH.sublist (.cons_cons _ (.cons_cons _ (.cons_cons _ (List.Sublist.refl _))))
    have hke:k=(clS cad caf n).length:=by omega
    have hce:=lfK_end hke;rw [hce] at hxo69 hH;have hL3:Lv3 Ho69 cad caf n ⟨b11,p11,⟨ql11,(monL cad (n)).length,cl11⟩,⟨qm11,(matS cad caf n).length,cm11⟩,⟨qo31,(clS cad caf n).length,co31⟩,⟨qj,(bdS cad caf n).length,cj⟩,⟨qo69,(csS cad caf n).length,co69⟩⟩:=⟨⟨rfl,hxo31⟩,⟨rfl,hbx⟩,⟨rfl,hxo69⟩⟩
    have hq0:qz11=none:=by cases qz11 <;> simp_all
    have hKf:Kp ls ((n,⟨b11,p11,⟨ql11,(monL cad (n)).length,cl11⟩,⟨qm11,(matS cad caf n).length,cm11⟩,⟨qo31,(clS cad caf n).length,co31⟩,⟨qj,(bdS cad caf n).length,cj⟩,⟨qo69,(csS cad caf n).length,co69⟩⟩)::rsj):=fun y hy hF=>by
     rcases List.mem_cons.1 (hp11.subset (hkp11 y hy hF)) with rfl | h1
     ·have h2:qz11.isSome=true:=hF.2;rw [hq0] at h2
      cases h2
     ·exact List.mem_cons_of_mem _ (hKj y h1 hF)
    exact ⟨_,(n,⟨b11,p11,⟨ql11,(monL cad (n)).length,cl11⟩,⟨qm11,(matS cad caf n).length,cm11⟩,⟨qo31,(clS cad caf n).length,co31⟩,⟨qj,(bdS cad caf n).length,cj⟩,⟨qo69,(csS cad caf n).length,co69⟩⟩)::rsj,_,(((((hle11.trans hleo31).trans hlj).trans hlk).trans hleo47).trans hleo69),hCj.cons hnej ⟨⟨rfl,hpw11,hpl11,fun h=>by show (bdS cad caf n).length=0;rw [bdS,if_neg (by omega)];rfl⟩,fun _ _ _=>⟨rfl,hmr⟩,fun _ _ _=>hL3⟩,hNj.swap hnej (fun _ _ h=>h) fun _ _=>List.mem_cons_of_mem _ hkj,List.mem_cons_self,⟨hL3,⟨rfl,hmr⟩,hKf⟩,rfl,Hp.lvIn (x:=(n,⟨b11,p11,⟨ql11,(monL cad (n)).length,cl11⟩,⟨qm11,(matS cad caf n).length,cm11⟩,⟨qo31,(clS cad caf n).length,co31⟩,⟨qj,(bdS cad caf n).length,cj⟩,⟨qo69,(csS cad caf n).length,co69⟩⟩)) (rest:=rsj) ((hH.front (.s .z)).front (.s .z))⟩
theorem u135:Tryz.prog.underlying 135=some (TypeDesc.slice 105):=by kernel_rfl
theorem by105:Bytes Tryz.prog 105 8:=by unfold Bytes;kernel_rfl
theorem fn118:Fn Tryz.prog 118:=⟨_,Tryz.func118,by kernel_rfl,rfl⟩
theorem EnI.stop {ds:List Int} {i:Nat} {m mm:Pw} {n e:Int} {A acc:List Pw} (h:EnI ds i m n e A mm) (hl:401≤(capL 401 acc A).length):capL 401 acc A=capL 401 acc (enS ds i m n):=by
 rw [← h.eq,← capL_app,capL_full hl]
theorem EnI.stop2 {ds:List Int} {i:Nat} {m mm:Pw} {n e:Int} {A acc:List Pw} (h:EnI ds i m n e A mm) (he : ¬0≤e):capL 401 acc A=capL 401 acc (enS ds i m n):=by rw [← h.end (by omega)]
theorem topS_odd {d n:Int} (h0:1≤d) (h:d.tmod 2≠0):min (min (n.tdiv d) 1) 20=topM d n:=by
 have:=tmod_two (d:=d) (by omega);rw [topM,if_pos (by omega)]
 omega
theorem topS_even {d n:Int} (h : ¬d.tmod 2≠0):min (n.tdiv d) 20=topM d n:=by
 rw [topM,if_neg (by omega)]
theorem Mono.set {m:List Int} (h:Mono m) {i:Nat} {e:Int} (he:0≤e∧e≤255):Mono (m.set i e):=⟨by rw [List.length_set];exact h.len,fun j=>by
 rw [getD_set8]
 split
 ·exact he
 ·exact h.bd j⟩
structure EnB (ds:List Int) (i:Nat) (m:Pw) (n e:Int) (A:List Pw) (mm:Pw):Prop where
 en:EnI ds i m n e A mm
 mo:Mono mm
theorem l01FillX_c {B:World} {H0 H:HP} {L:List SA} {w:World} {qds:Option Addr} {cds:Nat} {ds:List Int} {m:List Int} {i:Nat} {n:Int} {qo:Option Addr} {co:Nat} {acc:List Pw} (hds:Ints H qds ds) (hm:Mono m) (hd : ∀j,j<ds.length→1≤ds.getD j 0∧ds.getD j 0≤12) (hi:i≤ds.length) (h8:ds.length≤8) (hn : -1000000≤n∧n≤1000000) (ha:acc.length≤400) (hrec:i<ds.length→∀(m':Pw) (n':Int) (acc':List Pw) (qo':Option Addr) (co':Nat),Mono m' → -1000000≤n' ∧n' ≤1000000→acc'.length≤400→∀(L:List SA) (w:World),Hp B H0 H (own 105 8 qo' acc'.length co' (msC acc')::L) w→Calls Tryz.prog 118 [.slice qds ds.length cds,.agg (bytesC m').toArray,.int .i64 ((i+1:Nat):Int),.int .i64 n',.slice qo' acc'.length co'].toArray w fun r w'=>∃q c,r = .returned (.slice q (capL 401 acc' (enS ds (i+1) m' n')).length c)∧Hp B H0 H (own 105 8 q (capL 401 acc' (enS ds (i+1) m' n')).length c (msC (capL 401 acc' (enS ds (i+1) m' n')))::L) w') (hH:Hp B H0 H (own 105 8 qo acc.length co (msC acc)::L) w):Calls Tryz.prog 118 [.slice qds ds.length cds,.agg (bytesC m).toArray,.int .i64 (i:Int),.int .i64 n,.slice qo acc.length co].toArray w fun e w'=>∃q c,e = .returned (.slice q (capL 401 acc (enS ds i m n)).length c)∧Hp B H0 H (own 105 8 q (capL 401 acc (enS ds i m n)).length c (msC (capL 401 acc (enS ds i m n)))::L) w':=by
 refine Jx Tryz.func118 rfl 68 rfl rfl [(0,.slice qds ds.length cds),(1,.agg (bytesC m).toArray),(2,.int .i64 (i:Int)),(3,.int .i64 n),(4,.slice qo acc.length co)] rfl hH ?_;have hml:=hm.len;clear hH;refine Je fun _ hK1 _=>(Jb (Ee rfl rfl rfl fun g6=>(Jg (Jd rfl) rfl (Jf (Ja (hK1 (Je fun _ hK2 _=>(Je fun _ hK3 _=>(Jb (Jg (Jc rfl) rfl (Jg (Jc rfl) rfl (Jg (Jn u22 rfl rfl) rfl (Jg (EI rfl rfl) rfl (Jf (Ja (hK3 ?_))))))))))))))));refine Jo rfl (fun h16=>?_) (fun h16=>?_)
 ·
  refine Je fun _ hK4 _=>(Je fun _ hK5 _=>(Jb (Jg (Jc rfl) rfl (Jg (EI rfl rfl) rfl (Jf (Ja (hK5 (Jo rfl (fun h18=>?_) (fun h18=>?_)))))))))
  ·
   refine Je fun _ hK6 _=>(Jb (Jg (Jc rfl) rfl (Jg (JA rfl At.z (by simpa [*] using ag105)) rfl (EL (MK.lit8 cf8B u135 ze105 rfl sz105 hm.len rfl) rfl fun qo21 co21=>(J.append8 cf8B u135 ze105 rfl sz105 by105 rfl rfl rfl (by omega) .z (.s .z) (fun _ _=>(.s .z)) rfl fun qo22 co22=>(Jg (Jd rfl) rfl (Jf (Ja (hK6 (Ju (Jp (Jp (Jq rfl (Res.tmp rfl) fun w hH=>?_)))))))))))));replace hH:=hH.sublist (.cons _ (.cons _ (.cons_cons _ (List.Sublist.refl _))));rw [show enS ds i m n=[m] from by rw [enS,enum_end (by omega),if_pos h18],capL_one (by omega),List.length_append];exact ⟨qo22,co22,rfl,hH⟩
  ·
   refine Jm (Ja (hK4 (Je fun _ hK7 _=>(Jb (Jg (Jc rfl) rfl (Jg (Jd rfl) rfl (Jf (Ja (hK7 (Ju (Jp (Jq rfl (Res.tmp rfl) fun w hH=>?_))))))))))));replace hH:=hH.sublist (.cons _ (.cons_cons _ (List.Sublist.refl _)));rw [show enS ds i m n=[] from by rw [enS,enum_end (by omega),if_neg h18],capL_nil];exact ⟨qo,co,rfl,hH⟩
 ·
  have hil:i<ds.length:=by omega
  have hdi:=hd i hil;have htb:=tdiv_b hdi.1 hn;have htt:=tmod_bd n;have hts:=topM_20 (ds.getD i 0) n;have htl:=topM_lo hdi.1 hn;refine Jm (Ja (hK2 (Je fun _ hK8 _=>(Jb (Jg (Jc rfl) rfl (Jg (Jc rfl) rfl (Jg (Jc rfl) rfl (Jg (JQ u22 sz2 rfl rfl rfl hil hds.sm) rfl (Jg (JF rfl (hds _ hil) pl2) rfl (Jg (PR.quo rfl rfl (by omega) (nw _ (by omega))) rfl (Jg (Jd rfl) rfl (Jf (Ja (hK8 (CJ.cutU (σ:=Int) (fun (t:Int)=>[(11,.int .i64 t)]) (fun (t:Int)=>H) (fun (t:Int)=>obj g6 (.cells (bytesC m).toArray 105 (0,0))::own 105 8 qo acc.length co (msC acc)::L) (fun (t:Int)=>min t 20=topM (ds.getD i 0) n) ?_ ?_)))))))))))))))
  ·
   intro _ hMt1;refine Je fun _ hK9 _=>(Jb (Jg (Jc rfl) rfl (Jg (Jc rfl) rfl (Jg (JQ u22 sz2 rfl rfl rfl hil hds.sm) rfl (Jg (JF rfl (hds _ hil) pl2) rfl (Jg (Ey rfl rfl (by decide) rfl) rfl (Jg (Em rfl rfl) rfl (Jf (Ja (hK9 (Jo rfl (fun h35=>?_) (fun h35=>?_))))))))))))
   ·
    refine Jb (Jg (Jc rfl) rfl (Jg (PR.min2 rfl rfl) rfl (Jg (Jd rfl) rfl (Jf (Ja ?_)))));exact hMt1 (min (n.tdiv (ds.getD i 0)) 1) (topS_odd hdi.1 h35) 9 rfl rfl ⟨(vi (min_if _ _)),trivial⟩ rfl rfl
   ·
    refine Jm (Ja ?_);exact hMt1 (n.tdiv (ds.getD i 0)) (topS_even h35) 6 rfl rfl ⟨rfl,trivial⟩ rfl rfl
  ·
   rintro t ht;refine Je fun _ hK10 _=>(Je fun _ hK11 _=>(Jb (Jg (Jc rfl) rfl (Jg (EK (v':=.int .i64 (topM (ds.getD i 0) n)) (by rw [min_if,ht]) (PR.min2 rfl rfl)) rfl (Jg (Jd rfl) rfl (Jf (Ja (hK11 (Jk (JC (σ:=Int × List Pw × Pw × Option Addr × Nat) (fun ⟨e,A,mm,qo1,co1⟩=>[(12,.int .i64 e),(4,.slice qo1 (capL 401 acc A).length co1)]) (fun ⟨e,A,mm,qo1,co1⟩=>H) (fun ⟨e,A,mm,qo1,co1⟩=>obj g6 (.cells (bytesC mm).toArray 105 (0,0))::own 105 8 qo1 (capL 401 acc A).length co1 (msC (capL 401 acc A))::L) (fun ⟨e,A,mm,qo1,co1⟩=>EnB ds i m n e A mm) (fun ⟨e,A,mm,qo1,co1⟩=>(e+1).toNat) (topM (ds.getD i 0) n, [],m,qo,co) ⟨EnI.start hm.len hil hdi.1 hn,hm⟩ ⟨rfl,⟨(by rw [capL_nil];rfl),trivial⟩⟩ rfl (by dsimp only;rw [capL_nil]) ?_))))))))));rintro ⟨e,A,mm,qo1,co1⟩ hI _ hAg0;have hen:=hI.en;have hlo:=hen.lo;have hhi:=hen.hi;have hmml:=hI.mo.len;refine Je fun _ hK12 _=>(Je fun _ hK13 _=>(Jb (Jg (Jc rfl) rfl (Jg (PR.geq rfl rfl) rfl (Jg (Jc rfl) rfl (Ek (jd:=42) rfl (fun h41=>?_) (fun h41=>?_)))))))
   ·
    try have h41p:=of_decide_eq_true h41
    refine JX (Jc rfl) rfl rfl rfl h41 (JX (Jn u135 rfl rfl) rfl rfl rfl h41 (JX (ET rfl rfl) rfl rfl rfl h41 (Jg (Ea rfl h41 rfl) rfl (Jf (Ja (hK13 (Jo rfl (fun h45p=>?_) (fun h45p=>?_))))))))
    ·
     have hlb:=left_b hdi h41p hhi hn;have hmo:=hI.mo.set (i:=i) (e:=e) (by omega);refine Jm (Ja (hK12 (Je fun _ hK14 _=>(Jk (Je fun _ hK15 _=>(Jb (Jg (Jc rfl) rfl (Jg (Jc rfl) rfl (Jg (PR.conv u2 u5 rfl (u8_id (by omega))) rfl (Jg (JV u105 sz5 rfl rfl rfl (by omega)) rfl (J.storeB rfl rfl sz5 (by simp [*];omega) At.z (Jf (Ja (hK15 (Ej (Rs:=[_,_]) 15 [[], [], [], [2], [], [], [], [], [6,7], [6,7,8], [5,6,7,8,9], [4,5,6,7,8,9,10], [], [0,1,2,3,4,5,6,7,8,9,10,11,12], [0,1,2,3,4,5,6,7,8,9,10,11,12,13]] [[], [15], [], [], [], [], [], [], [], [], [], [], [], [], []] [[], [], [], [], [], [], [], [], [], [], [], [], [], [16], []] rfl rfl (by kernel_rfl) ?_)))))))))))))));apply Jl 1 rfl
     iterate 3 focus (intros;(conv=>lhs;simp only [Jh,Jr,JM,Jt,JH,eq_self,reduceEqDiff,reduceIte,reduceSub,reduceAdd,JxA,JxB]);all_goals rfl)
     ·
      intro gh X K zq zc zq2 zc2 zb zv hK;refine Jg (Jc rfl) rfl (Ji ?_);exact hK zq zc zq2 zc2 zb zv
     ·
      intro gh gh' h
      rfl
     apply Jl 2 rfl
     iterate 3 focus (intros;(conv=>lhs;simp only [Jh,Jr,JM,Jt,JH,eq_self,reduceEqDiff,reduceIte,reduceSub,reduceAdd,JxA,JxB]);all_goals rfl)
     ·
      intro gh X K zq zc zq2 zc2 zb zv hK;refine Jg (JA rfl At.z (by simpa [*] using ag105)) rfl (Ji ?_);exact hK zq zc zq2 zc2 zb zv
     ·
      intro gh gh' h
      rfl
     apply Jl 3 rfl
     iterate 3 focus (intros;(conv=>lhs;simp only [Jh,Jr,JM,Jt,JH,eq_self,reduceEqDiff,reduceIte,reduceSub,reduceAdd,JxA,JxB]);all_goals rfl)
     ·
      intro gh X K zq zc zq2 zc2 zb zv hK;refine Jg (Jc rfl) rfl (Ji ?_);exact hK zq zc zq2 zc2 zb zv
     ·
      intro gh gh' h
      rfl
     apply Jl 4 rfl
     iterate 3 focus (intros;(conv=>lhs;simp only [Jh,Jr,JM,Jt,JH,eq_self,reduceEqDiff,reduceIte,reduceSub,reduceAdd,JxA,JxB]);all_goals rfl)
     ·
      intro gh X K zq zc zq2 zc2 zb zv hK;refine Jg (Jz rfl rfl (by first | exact nw _ (by omega) | rfl)) rfl (Ji ?_);exact hK zq zc zq2 zc2 zb zv
     ·
      intro gh gh' h
      rfl
     apply Jl 5 rfl
     iterate 3 focus (intros;(conv=>lhs;simp only [Jh,Jr,JM,Jt,JH,eq_self,reduceEqDiff,reduceIte,reduceSub,reduceAdd,JxA,JxB]);all_goals rfl)
     ·
      intro gh X K zq zc zq2 zc2 zb zv hK;refine Jg (Jc rfl) rfl (Ji ?_);exact hK zq zc zq2 zc2 zb zv
     ·
      intro gh gh' h
      rfl
     apply Jl 6 rfl
     iterate 3 focus (intros;(conv=>lhs;simp only [Jh,Jr,JM,Jt,JH,eq_self,reduceEqDiff,reduceIte,reduceSub,reduceAdd,JxA,JxB]);all_goals rfl)
     ·
      intro gh X K zq zc zq2 zc2 zb zv hK;refine Jg (Jc rfl) rfl (Ji ?_);exact hK zq zc zq2 zc2 zb zv
     ·
      intro gh gh' h
      rfl
     apply Jl 7 rfl
     iterate 3 focus (intros;(conv=>lhs;simp only [Jh,Jr,JM,Jt,JH,eq_self,reduceEqDiff,reduceIte,reduceSub,reduceAdd,JxA,JxB]);all_goals rfl)
     ·
      intro gh X K zq zc zq2 zc2 zb zv hK;refine Jg (Jc rfl) rfl (Ji ?_);exact hK zq zc zq2 zc2 zb zv
     ·
      intro gh gh' h
      rfl
     apply Jl 8 rfl
     iterate 3 focus (intros;(conv=>lhs;simp only [Jh,Jr,JM,Jt,JH,eq_self,reduceEqDiff,reduceIte,reduceSub,reduceAdd,JxA,JxB]);all_goals rfl)
     ·
      intro gh X K zq zc zq2 zc2 zb zv hK;refine Jg (Jc rfl) rfl (Ji ?_);exact hK zq zc zq2 zc2 zb zv
     ·
      intro gh gh' h
      rfl
     apply Jl 9 rfl
     iterate 3 focus (intros;(conv=>lhs;simp only [Jh,Jr,JM,Jt,JH,eq_self,reduceEqDiff,reduceIte,reduceSub,reduceAdd,JxA,JxB]);all_goals rfl)
     ·
      intro gh X K zq zc zq2 zc2 zb zv hK;refine Jg (JQ u22 sz2 rfl rfl rfl hil hds.sm) rfl (Ji ?_);exact hK zq zc zq2 zc2 zb zv
     ·
      intro gh gh' h
      rfl
     apply Jl 10 rfl
     iterate 3 focus (intros;(conv=>lhs;simp only [Jh,Jr,JM,Jt,JH,eq_self,reduceEqDiff,reduceIte,reduceSub,reduceAdd,JxA,JxB]);all_goals rfl)
     ·
      intro gh X K zq zc zq2 zc2 zb zv hK;refine Jg (JF rfl (hds _ hil) pl2) rfl (Ji ?_);exact hK zq zc zq2 zc2 zb zv
     ·
      intro gh gh' h
      rfl
     apply Jl 11 rfl
     iterate 3 focus (intros;(conv=>lhs;simp only [Jh,Jr,JM,Jt,JH,eq_self,reduceEqDiff,reduceIte,reduceSub,reduceAdd,JxA,JxB]);all_goals rfl)
     ·
      intro gh X K zq zc zq2 zc2 zb zv hK;refine Jg (EG rfl rfl (nw _ (by omega))) rfl (Ji ?_);exact hK zq zc zq2 zc2 zb zv
     ·
      intro gh gh' h
      rfl
     apply Jl 12 rfl
     iterate 3 focus (intros;(conv=>lhs;simp only [Jh,Jr,JM,Jt,JH,eq_self,reduceEqDiff,reduceIte,reduceSub,reduceAdd,JxA,JxB]);all_goals rfl)
     ·
      intro gh X K zq zc zq2 zc2 zb zv hK;refine Jg (EQ rfl rfl (nw _ (by omega))) rfl (Ji ?_);exact hK zq zc zq2 zc2 zb zv
     ·
      intro gh gh' h
      rfl
     apply Jl 13 rfl
     iterate 3 focus (intros;(conv=>lhs;simp only [Jh,Jr,JM,Jt,JH,eq_self,reduceEqDiff,reduceIte,reduceSub,reduceAdd,JxA,JxB]);all_goals rfl)
     ·
      intro gh X K zq zc zq2 zc2 zb zv hK;refine Jg (Jc rfl) rfl (Ji ?_);exact hK zq zc zq2 zc2 zb zv
     ·
      intro gh gh' h
      rfl
     apply JZ 14 rfl
     iterate 3 focus (intros;(conv=>lhs;simp only [Jh,Jr,JM,Jt,JH,eq_self,reduceEqDiff,reduceIte,reduceSub,reduceAdd,JxA,JxB]);all_goals rfl)
     ·
      intro gh X K zq zc zq2 zc2 zb zv hK;refine Jy fn118 rfl rfl fun w hH=>(hrec hil (mm.set i e) (n - e * ds.getD i 0) (capL 401 acc A) qo1 co1 hmo hlb.2 (by omega) _ _ (hH.front .z)).mono ?_;rintro _ w ⟨qo66,co66,rfl,hH⟩;refine ⟨_,rfl,fun a hF=>JR hF hH ?_⟩;refine Ji ?_;exact hK qo66 co66 zq2 zc2 zb zv
     ·
      intro gh gh' h;refine ⟨?_,?_⟩ <;> rfl
     apply Jl 15 rfl
     iterate 3 focus (intros;(conv=>lhs;simp only [Jh,Jr,JM,Jt,JH,eq_self,reduceEqDiff,reduceIte,reduceSub,reduceAdd,JxA,JxB]);all_goals rfl)
     ·
      intro gh X K zq zc zq2 zc2 zb zv hK;refine Jg (Jd rfl) rfl (Ji ?_);exact hK zq zc zq2 zc2 zb zv
     ·
      intro gh gh' h
      first | simp only [h 13 rfl] | rfl
     apply Ei [0,1,2,3,4,5,6,7,8,9,10,11,12,13,14] [0,1,2,3,4,5,6,7,8,9,10,11,12,13,14,15] foll0 rfl rfl rfl (by rfl)
     iterate 2 focus (intros;(conv=>lhs;simp only [Jh,Jr,JM,Jt,JH,eq_self,reduceEqDiff,reduceIte,reduceSub,reduceAdd,JxA,JxB]);all_goals rfl)
     intro gh;generalize (gh 13).c=co66;generalize (gh 13).q=qo66;clear gh;refine JD (Ja (hK14 (Jb (Jg (Jc rfl) rfl (Jg (EQ rfl rfl (by first | exact nw _ (by omega) | rfl)) rfl (Jg (Jd rfl) rfl (Jf (Ja (Jw .z (Jw (.s .z) ?_))))))))));exact hAg0 (e - 1,A++enG ds i m n e,mm.set i e,qo66,co66) ⟨hen.next h41p,hmo⟩ (by show (e - 1+1).toNat<(e+1).toNat;omega) 31 rfl rfl ⟨rfl,⟨(by rw [← capL_app,← enG_set hen.set];rfl),trivial⟩⟩ rfl (by dsimp only;rw [← capL_app,← enG_set hen.set])
    ·
     refine JG (Jj (Jj (JL (Ja (hK10 (Je fun _ hK16 _=>(Jb (Jg (Jc rfl) rfl (Jg (Jd rfl) rfl (Jf (Ja (hK16 (Ju (Jq rfl (Res.tmp rfl) fun w hH=>?_))))))))))))));replace hH:=hH.sublist (.cons _ (.cons_cons _ (List.Sublist.refl _)));rw [← hen.stop (by omega)];exact ⟨_,_,rfl,hH⟩
   ·
    try have h41p:=of_decide_eq_false h41
    refine JW rfl rfl rfl h41 (JW rfl rfl rfl h41 (JW rfl rfl rfl h41 (Jg (JY rfl h41 rfl) rfl (Jf (Ja (hK13 (Eo rfl (JG (Jj (Jj (JL (Ja (hK10 (Je fun _ hK17 _=>(Jb (Jg (Jc rfl) rfl ?_))))))))))))))));refine Jg (Jd rfl) rfl (Jf (Ja (hK17 (Ju (Jq rfl (Res.tmp rfl) fun w hH=>?_)))));replace hH:=hH.sublist (.cons _ (.cons_cons _ (List.Sublist.refl _)));rw [← hen.stop2 h41p];exact ⟨_,_,rfl,hH⟩
theorem l01Fill_n {B:World} {H0 H:HP} {qds:Option Addr} {cds:Nat} {ds:List Int} (hds:Ints H qds ds) (hd : ∀j,j<ds.length→1≤ds.getD j 0∧ds.getD j 0≤12) (h8:ds.length≤8) : ∀(k i:Nat) (m:Pw) (n:Int) (acc:List Pw) (qo:Option Addr) (co:Nat),ds.length - i≤k→i≤ds.length→Mono m→ -1000000≤n∧n≤1000000→acc.length≤400→∀(L:List SA) (w:World),Hp B H0 H (own 105 8 qo acc.length co (msC acc)::L) w→Calls Tryz.prog 118 [.slice qds ds.length cds,.agg (bytesC m).toArray,.int .i64 (i:Int),.int .i64 n,.slice qo acc.length co].toArray w fun r w'=>∃q c,r = .returned (.slice q (capL 401 acc (enS ds i m n)).length c)∧Hp B H0 H (own 105 8 q (capL 401 acc (enS ds i m n)).length c (msC (capL 401 acc (enS ds i m n)))::L) w'
 | 0,i,m,n,acc,qo,co,hk,hi,hm,hn,ha,L,w,hH=>l01FillX_c hds hm hd hi h8 hn ha (fun h=>by omega) hH
 | k+1,i,m,n,acc,qo,co,hk,hi,hm,hn,ha,L,w,hH=>l01FillX_c hds hm hd hi h8 hn ha (fun h m' n' acc' qo' co' h1 h2 h3 L w hH=>l01Fill_n hds hd h8 k (i+1) m' n' acc' qo' co' (by omega) (by omega) h1 h2 h3 L w hH) hH
def monT (ds:List Int) (n:Int):List Pw:=(monS ds n).take 401
theorem mon_capS (ds:List Int) (n:Int) (m:Pw) (hm:m=zP):capL 401 [] (enS ds 0 m n)=monT ds n:=by
 subst hm;rw [capL_zero]
 rfl
theorem monT_fit {ds:List Int} {n:Int}:(decide (((monT ds n).length:Int)>120)) = !fitB ds n:=by
 unfold monT fitB;rw [List.length_take,← decide_not];simp only [decide_eq_decide]
 omega
theorem monT_eq {ds:List Int} {n:Int} (h:fitB ds n=true):monT ds n=monS ds n:=List.take_of_length_le (by have:=of_decide_eq_true h;omega)
theorem Mono.zP:Mono zP:=⟨rfl,fun j=>by rw [show G.zP=List.replicate 8 0 from rfl,rep_get];omega⟩
theorem l01Monomials_c {B:World} {H0 H:HP} {L:List SA} {w:World} {qds:Option Addr} {cds:Nat} {ds:List Int} {n:Int} (hds:Ints H qds ds) (hd : ∀j,j<ds.length→1≤ds.getD j 0∧ds.getD j 0≤12) (h8:ds.length≤8) (hn : -1000000≤n∧n≤1000000) (hH:Hp B H0 H L w):Calls Tryz.prog 68 [.slice qds ds.length cds,.int .i64 n].toArray w fun e w'=>∃q c,e = .returned (.slice q (monT ds n).length c)∧Hp B H0 H (own 105 8 q (monT ds n).length c (msC (monT ds n))::L) w':=by
 refine Jx Tryz.func68 rfl 9 rfl rfl [(0,.slice qds ds.length cds),(1,.int .i64 n)] rfl hH ?_;clear hH;refine Je fun _ hK1 _=>(Jb (Jg (Jd rfl) rfl (Jf (Ja (hK1 (Je fun _ hK2 _=>(Jb (Jg (Jc rfl) rfl (Jg (Ez bz105) rfl (Jg (Jc rfl) rfl (J.own0 105 8 (Jy fn118 rfl rfl fun w hH=>(l01Fill_n hds hd h8 ds.length 0 zP n [] none 0 (by omega) (by omega) Mono.zP hn (by simp) _ _ hH).mono ?_))))))))))));rintro _ w ⟨qo2,co2,rfl,hH⟩;refine ⟨_,rfl,fun a hF=>JR hF hH ?_⟩;refine Jg (Jd rfl) rfl (Jf (Ja (hK2 (Ju (Jq rfl (Res.tmp rfl) fun w hH=>?_)))));replace hH:=hH.sublist (.cons_cons _ (List.Sublist.refl _));rw [mon_capS _ _ _ rfl] at hH ⊢;exact ⟨qo2,co2,rfl,hH⟩
theorem fn68:Fn Tryz.prog 68:=⟨_,Tryz.func68,by kernel_rfl,rfl⟩
def wiB (ds:List Int) (a b:Int):Bool:=(List.range (b+1 - max a 0).toNat).all fun k:Nat=>fitB ds (max a 0+(k:Int))
theorem wiB_no {ds:List Int} {a b:Int} {k:Nat} (h:max a 0+(k:Int)≤b) (hf:fitB ds (max a 0+(k:Int))=false):wiB ds a b=false:=by
 cases hh:wiB ds a b with
 | false=>rfl
 | true=>
  have:=List.all_eq_true.1 hh k (List.mem_range.2 (by omega));rw [hf] at this
  cases this
theorem wiB_yes {ds:List Int} {a b:Int} (h : ∀k:Nat,max a 0+(k:Int)≤b→fitB ds (max a 0+(k:Int))=true):wiB ds a b=true:=
 List.all_eq_true.2 fun k hk=>h k (by have:=List.mem_range.1 hk;omega)
theorem vmax (lo:Int):Value.int .i64 (if 0>lo then 0 else lo) = .int .i64 (max lo 0+((0:Nat):Int)):=by
 congr 1
 omega
def lsZ (row other:List Int) (f:Int) (k:Nat):List Int:=(List.range row.length).map fun i=>if i<k then fld (row.getD i 0 - f * other.getD i 0) else 0
@[simp] theorem lsZ_len (row other:List Int) (f:Int) (k:Nat):(lsZ row other f k).length=row.length:=by simp [lsZ]
theorem lsZ_get {row other:List Int} {f:Int} {k i:Nat} (h:i<row.length):(lsZ row other f k).getD i 0=if i<k then fld (row.getD i 0 - f * other.getD i 0) else 0:=by simp [lsZ,List.getD_eq_getElem?_getD,h]
theorem lsZ_zero (row other:List Int) (f:Int):lsZ row other f 0=List.replicate row.length 0:=list_eq_of (by simp) fun j hj=>by rw [lsZ_get (by simpa using hj),if_neg (by omega),rep_get]
theorem lsZ_set {row other:List Int} {f:Int} {k:Nat} (hk:k<row.length):(lsZ row other f k).set k (fld (row.getD k 0 - f * other.getD k 0))=lsZ row other f (k+1):=list_eq_of (by simp) fun j hj=>by
 have hj':j<row.length:=by simpa using hj
 rw [getD_set8,lsZ_get hj',lsZ_get hj',lsZ_len]
 by_cases e:k=j
 ·subst e
  rw [if_pos ⟨rfl,hk⟩,if_pos (by omega)]
 ·rw [if_neg (fun h=>e h.1)]
  by_cases h:j<k
  ·rw [if_pos h,if_pos (by omega)]
  ·rw [if_neg h,if_neg (by omega)]
theorem lsZ_end {row other:List Int} {f:Int} {k:Nat} (hk:k=row.length):lsZ row other f k=lessS row other f:=by
 subst hk
 exact list_eq_of (by simp) fun j hj=>by
  have hj':j<row.length:=by simpa using hj
  rw [lsZ_get hj',if_pos hj',lessS_get hj']
theorem oneBy_z {W:Nat} {row r:List Int} (h:RowOk W row) (hr:RowOk W r) (h0:row.getD (ldR r) 0=0):oneBy row r=row:=list_eq_of (by simp [oneBy]) fun j hj=>by
 rw [oneBy_get h hr,h0,Int.zero_mul,Int.sub_zero,fld_id (h.val j)]
theorem l03Within_c {B:World} {H0 H:HP} {L:List SA} {w:World} {qad qaf:Option Addr} {cad caf:Nat} {ad:List Int} {af:List (List Term)} {lo:Int} {hi:Int} (had:Ints H qad ad) (haf:Forms H qaf af) (hd : ∀j,j<ad.length→1≤ad.getD j 0∧ad.getD j 0≤12) (h8:ad.length≤8) (hl : -100000≤lo∧lo≤100000) (hh : -100000≤hi∧hi≤100000) (hH:Hp B H0 H L w):Calls Tryz.prog 65 [.agg [.slice qad ad.length cad,.slice qaf af.length caf].toArray,.int .i64 lo,.int .i64 hi].toArray w fun e w'=>e = .returned (.bool (wiB ad lo hi))∧Hp B H0 H L w':=by
 refine Jx Tryz.func65 rfl 21 rfl rfl [(0,.agg [.slice qad ad.length cad,.slice qaf af.length caf].toArray),(1,.int .i64 lo),(2,.int .i64 hi)] rfl hH ?_;clear hH;refine Je fun _ hK1 _=>(Jb (Ee rfl rfl rfl fun g3=>(Jg (Jd rfl) rfl (Jf (Ja (hK1 (Je fun _ hK2 _=>(Je fun _ hK3 _=>(Jb (Jg (Jc rfl) rfl (Jg (EK (v':=.int .i64 (max lo 0+((0:Nat):Int))) (vmax _) (PR.max2 rfl rfl)) rfl (Jg (Jd rfl) rfl (Jf (Ja (hK3 (Jk ?_))))))))))))))));refine JC (σ:=Nat) (fun (k:Nat)=>[(7,.int .i64 (max lo 0+(k:Int)))]) (fun (k:Nat)=>H) (fun (k:Nat)=>obj g3 (.cells [.slice qad ad.length cad,.slice qaf af.length caf].toArray 36 (0,0))::L) (fun (k:Nat)=>(max lo 0+(k:Int)≤hi+1∨k=0)∧∀j,j<k→fitB ad (max lo 0+(j:Int))=true) (fun (k:Nat)=>(hi+1 - (max lo 0+(k:Int))).toNat) 0 ⟨.inr rfl,fun j hj=>by omega⟩ ⟨rfl,trivial⟩ rfl rfl ?_;rintro k ⟨hk,hI⟩ _ hAg0;refine Je fun _ hK4 _=>(Je fun _ hK5 _=>(Jb (Jg (Jc rfl) rfl (Jg (Jc rfl) rfl (Jg (ET rfl rfl) rfl (Jf (Ja (hK5 (Jo rfl (fun h12=>?_) (fun h12=>?_))))))))))
 ·
  refine Jm (Ja (hK4 (Je fun _ hK6 _=>(Jk (Je fun _ hK7 _=>(Jb (Jg (Js u36 rfl sz22 rfl) rfl (Jg (Jv rfl At.z rfl pl22) rfl (Jg (Jc rfl) rfl (Jy fn68 rfl rfl fun w hH=>(l01Monomials_c had hd h8 (by omega) hH).mono ?_))))))))));rintro _ w ⟨qo18,co18,rfl,hH⟩;refine ⟨_,rfl,fun a hF=>JR hF hH ?_⟩;refine Jg (Jn u135 rfl rfl) rfl (Jg (EH rfl rfl) rfl (Jf (Ja (hK7 (Eh rfl (fun h20=>?_) (fun h20=>?_))))))
  ·
   refine Je fun _ hK8 _=>(Jb (Jg (Jd rfl) rfl (Jf (Ja (hK8 (Ju (JT (Jp (Jp (JT (Jp (Jq rfl (Res.tmp rfl) fun w hH=>?_))))))))))));replace hH:=hH.tail;replace hH:=hH.tail;exact ⟨by rw [wiB_no (k:=k) (by omega) (by rw [monT_fit] at h20;simpa using h20)],hH⟩
  ·
   refine Jm (JD (Ja (hK6 (Jb (Jg (Jc rfl) rfl (Jg (Jz rfl rfl (by first | exact nw _ (by omega) | rfl)) rfl (Jg (Jd rfl) rfl (Jf (Ja (JN .z ?_))))))))));exact hAg0 (k+1) ⟨.inl (by omega),upto hI (by rw [monT_fit] at h20;simpa using h20)⟩ (by show (hi+1 - (max lo 0+((k+1:Nat):Int))).toNat<(hi+1 - (max lo 0+(k:Int))).toNat;omega) 13 rfl rfl ⟨(vi (by omega)),trivial⟩ rfl rfl
 ·
  refine JG (Jj (Jj (JL (Ja (hK2 (Je fun _ hK9 _=>(Jb (Jg (Jd rfl) rfl (Jf (Ja (hK9 (Ju (Jq rfl (Res.tmp rfl) fun w hH=>?_)))))))))))));replace hH:=hH.tail;exact ⟨by rw [wiB_yes (fun j hj=>hI j (by omega))],hH⟩
theorem l03First_c {B:World} {H0 H:HP} {L:List SA} {w:World} {qxs:Option Addr} {cxs:Nat} {xs:List Int} (hxs:Ints H qxs xs) (hn:xs.length≤1000000) (hH:Hp B H0 H L w):Calls Tryz.prog 96 [.slice qxs xs.length cxs].toArray w fun e w'=>e = .returned (.int .i64 (idxOf xs nzI))∧Hp B H0 H L w':=by
 refine Jx Tryz.func96 rfl 16 rfl rfl [(0,.slice qxs xs.length cxs)] rfl hH ?_;clear hH;refine Je fun _ hK1 _=>(Jb (Jg (Jd rfl) rfl (Jf (Ja (hK1 (Je fun _ hK2 _=>(Je fun _ hK3 _=>(Jb (Jg (Jd rfl) rfl (Jf (Ja (hK3 (Jk (JC (σ:=Nat) (fun (k:Nat)=>[(3,.int .i64 (k:Int))]) (fun (k:Nat)=>H) (fun (k:Nat)=>L) (fun (k:Nat)=>k≤xs.length∧∀j,j<k→nzI (xs.getD j 0)=false) (fun (k:Nat)=>xs.length - k) 0 ⟨by omega,fun j hj=>by omega⟩ ⟨rfl,trivial⟩ rfl rfl ?_))))))))))))));rintro k ⟨hk,hI⟩ _ hAg0;refine Je fun _ hK4 _=>(Je fun _ hK5 _=>(Jb (Jg (Jc rfl) rfl (Jg (Jc rfl) rfl (Jg (Jn u22 rfl rfl) rfl (Jg (JO rfl rfl) rfl (Jf (Ja (hK5 (Jo rfl (fun h7=>?_) (fun h7=>?_)))))))))))
 ·
  refine Jm (Ja (hK4 (Je fun _ hK6 _=>(Jk (Je fun _ hK7 _=>(Jb (Jg (Jc rfl) rfl (Jg (Jc rfl) rfl (Jg (JQ u22 sz2 rfl rfl rfl (by omega) hxs.sm) rfl (Jg (JF rfl (hxs _ (by omega)) pl2) rfl (Jg (Em rfl rfl) rfl (Jf (Ja (hK7 (Jo rfl (fun h14=>?_) (fun h14=>?_))))))))))))))))
  ·
   refine Je fun _ hK8 _=>(Jb (Jg (Jc rfl) rfl (Jg (Jd rfl) rfl (Jf (Ja (hK8 (Ju (JT (Jp (Jp (JT (Jp (Jq rfl (Res.tmp rfl) fun w hH=>?_)))))))))))));exact ⟨by rw [idxOf_hit (k:=k) (by omega) hI (decide_eq_true h14)],hH⟩
  ·
   refine Jm (JD (Ja (hK6 (Jb (Jg (Jc rfl) rfl (Jg (Jz rfl rfl (by first | exact nw _ (by omega) | rfl)) rfl (Jg (Jd rfl) rfl (Jf (Ja ?_)))))))));exact hAg0 (k+1) ⟨by omega,upto hI (decide_eq_false h14)⟩ (by show xs.length - (k+1)<xs.length - k;omega) 13 rfl rfl ⟨rfl,trivial⟩ rfl rfl
 ·
  refine JG (Jj (Jj (JL (Ja (hK2 (Je fun _ hK9 _=>(Jb (Jg (Jd rfl) rfl (Jf (Ja (hK9 (Ju (Jq rfl (Res.tmp rfl) fun w hH=>?_)))))))))))));exact ⟨by rw [idxOf_miss (fun j hj=>hI j (by omega))],hH⟩
theorem l03Less_c {B:World} {H0 H:HP} {L:List SA} {w:World} {qxs:Option Addr} {cxs:Nat} {xs:List Int} {qys:Option Addr} {cys:Nat} {ys:List Int} {k:Int} (hxs:Ints H qxs xs) (hys:Ints H qys ys) (hn:xs.length≤1000000) (hl:ys.length=xs.length) (hx : ∀j,0≤xs.getD j 0∧xs.getD j 0≤10006) (hy : ∀j,0≤ys.getD j 0∧ys.getD j 0≤10006) (hk:0≤k∧k≤10006) (hH:Hp B H0 H L w):Calls Tryz.prog 97 [.slice qxs xs.length cxs,.slice qys ys.length cys,.int .i64 k].toArray w fun e w'=>∃q c,e = .returned (.slice q (lessS xs ys k).length c)∧Hp B H0 H (own 2 1 q (lessS xs ys k).length c (intsC (lessS xs ys k))::L) w':=by
 refine Jx Tryz.func97 rfl 34 rfl rfl [(0,.slice qxs xs.length cxs),(1,.slice qys ys.length cys),(2,.int .i64 k)] rfl hH ?_;clear hH;refine Je fun _ hK1 _=>(Jb (Jg (Jd rfl) rfl (Jf (Ja (hK1 (Je fun _ hK2 _=>(Jb (Jg (Jc rfl) rfl (Jg (Jn u22 rfl rfl) rfl (EL (MK.makeI (m:=xs.length) u22 ze2 sz2 by2 rfl rfl rfl rfl (by omega)) rfl fun qo11 co11=>(Jg (EK (v':=.slice qo11 xs.length co11) (by rw [List.length_replicate]) (Jd rfl)) rfl (Jf (Ja (hK2 (Je fun _ hK3 _=>(Je fun _ hK4 _=>?_))))))))))))))));refine Jb (Jg (Jd rfl) rfl (Jf (Ja (hK4 (Jk (JC (σ:=Nat) (fun (i:Nat)=>[(8,.int .i64 (i:Int))]) (fun (i:Nat)=>H) (fun (i:Nat)=>own 2 1 qo11 xs.length co11 (intsC (lsZ xs ys k i))::L) (fun (i:Nat)=>i≤xs.length) (fun (i:Nat)=>xs.length - i) 0 (by omega) ⟨rfl,trivial⟩ rfl (by rw [lsZ_zero,List.length_replicate]) ?_))))));rintro i hi _ hAg0;refine Je fun _ hK5 _=>(Je fun _ hK6 _=>(Jb (Jg (Jc rfl) rfl (Jg (Jc rfl) rfl (Jg (Jn u22 rfl rfl) rfl (Jg (JO rfl rfl) rfl (Jf (Ja (hK6 (Jo rfl (fun h15=>?_) (fun h15=>?_)))))))))))
 ·
  have hik:i<xs.length:=by omega
  have hxi:=hx i;have hyi:=hy i;have hmb:=mul_bd (a:=k) (b:=ys.getD i 0) hk hyi;refine Jm (Ja (hK5 (Je fun _ hK7 _=>(Jk (Ej (Rs:=[_]) 16 [[], [], [], [], [2,3], [2,3,4], [], [], [], [7,8], [7,8,9], [6,7,8,9,10], [2,3,4,5,6,7,8,9,10,11], [2,3,4,5,6,7,8,9,10,11,12], [0,1,2,3,4,5,6,7,8,9,10,11,12,13], [0,1,2,3,4,5,6,7,8,9,10,11,12,13,14]] [[], [], [], [], [], [], [], [], [], [], [], [], [], [], [16], []] [[], [], [], [], [], [], [], [], [], [], [], [], [], [], [], [16]] rfl rfl (by kernel_rfl) ?_)))));apply Jl 1 rfl
  iterate 3 focus (intros;(conv=>lhs;simp only [Jh,Jr,JM,Jt,JH,eq_self,reduceEqDiff,reduceIte,reduceSub,reduceAdd,JxA,JxB]);all_goals rfl)
  ·
   intro gh X K zq zc zq2 zc2 zb zv hK;refine Jg (Jc rfl) rfl (Ji ?_);exact hK zq zc zq2 zc2 zb zv
  ·
   intro gh gh' h
   rfl
  apply Jl 2 rfl
  iterate 3 focus (intros;(conv=>lhs;simp only [Jh,Jr,JM,Jt,JH,eq_self,reduceEqDiff,reduceIte,reduceSub,reduceAdd,JxA,JxB]);all_goals rfl)
  ·
   intro gh X K zq zc zq2 zc2 zb zv hK;refine Jg (Jc rfl) rfl (Ji ?_);exact hK zq zc zq2 zc2 zb zv
  ·
   intro gh gh' h
   rfl
  apply Jl 3 rfl
  iterate 3 focus (intros;(conv=>lhs;simp only [Jh,Jr,JM,Jt,JH,eq_self,reduceEqDiff,reduceIte,reduceSub,reduceAdd,JxA,JxB]);all_goals rfl)
  ·
   intro gh X K zq zc zq2 zc2 zb zv hK;refine Jg (Jc rfl) rfl (Ji ?_);exact hK zq zc zq2 zc2 zb zv
  ·
   intro gh gh' h
   rfl
  apply Jl 4 rfl
  iterate 3 focus (intros;(conv=>lhs;simp only [Jh,Jr,JM,Jt,JH,eq_self,reduceEqDiff,reduceIte,reduceSub,reduceAdd,JxA,JxB]);all_goals rfl)
  ·
   intro gh X K zq zc zq2 zc2 zb zv hK;refine Jg (Jc rfl) rfl (Ji ?_);exact hK zq zc zq2 zc2 zb zv
  ·
   intro gh gh' h
   rfl
  apply Jl 5 rfl
  iterate 3 focus (intros;(conv=>lhs;simp only [Jh,Jr,JM,Jt,JH,eq_self,reduceEqDiff,reduceIte,reduceSub,reduceAdd,JxA,JxB]);all_goals rfl)
  ·
   intro gh X K zq zc zq2 zc2 zb zv hK;refine Jg (JQ u22 sz2 rfl rfl rfl (by omega) hxs.sm) rfl (Ji ?_);exact hK zq zc zq2 zc2 zb zv
  ·
   intro gh gh' h
   rfl
  apply Jl 6 rfl
  iterate 3 focus (intros;(conv=>lhs;simp only [Jh,Jr,JM,Jt,JH,eq_self,reduceEqDiff,reduceIte,reduceSub,reduceAdd,JxA,JxB]);all_goals rfl)
  ·
   intro gh X K zq zc zq2 zc2 zb zv hK;refine Jg (JF rfl (hxs _ (by omega)) pl2) rfl (Ji ?_);exact hK zq zc zq2 zc2 zb zv
  ·
   intro gh gh' h
   rfl
  apply Jl 7 rfl
  iterate 3 focus (intros;(conv=>lhs;simp only [Jh,Jr,JM,Jt,JH,eq_self,reduceEqDiff,reduceIte,reduceSub,reduceAdd,JxA,JxB]);all_goals rfl)
  ·
   intro gh X K zq zc zq2 zc2 zb zv hK;refine Jg (Jc rfl) rfl (Ji ?_);exact hK zq zc zq2 zc2 zb zv
  ·
   intro gh gh' h
   rfl
  apply Jl 8 rfl
  iterate 3 focus (intros;(conv=>lhs;simp only [Jh,Jr,JM,Jt,JH,eq_self,reduceEqDiff,reduceIte,reduceSub,reduceAdd,JxA,JxB]);all_goals rfl)
  ·
   intro gh X K zq zc zq2 zc2 zb zv hK;refine Jg (Jc rfl) rfl (Ji ?_);exact hK zq zc zq2 zc2 zb zv
  ·
   intro gh gh' h
   rfl
  apply Jl 9 rfl
  iterate 3 focus (intros;(conv=>lhs;simp only [Jh,Jr,JM,Jt,JH,eq_self,reduceEqDiff,reduceIte,reduceSub,reduceAdd,JxA,JxB]);all_goals rfl)
  ·
   intro gh X K zq zc zq2 zc2 zb zv hK;refine Jg (Jc rfl) rfl (Ji ?_);exact hK zq zc zq2 zc2 zb zv
  ·
   intro gh gh' h
   rfl
  apply Jl 10 rfl
  iterate 3 focus (intros;(conv=>lhs;simp only [Jh,Jr,JM,Jt,JH,eq_self,reduceEqDiff,reduceIte,reduceSub,reduceAdd,JxA,JxB]);all_goals rfl)
  ·
   intro gh X K zq zc zq2 zc2 zb zv hK;refine Jg (JQ u22 sz2 rfl rfl rfl (by omega) hys.sm) rfl (Ji ?_);exact hK zq zc zq2 zc2 zb zv
  ·
   intro gh gh' h
   rfl
  apply Jl 11 rfl
  iterate 3 focus (intros;(conv=>lhs;simp only [Jh,Jr,JM,Jt,JH,eq_self,reduceEqDiff,reduceIte,reduceSub,reduceAdd,JxA,JxB]);all_goals rfl)
  ·
   intro gh X K zq zc zq2 zc2 zb zv hK;refine Jg (JF rfl (hys _ (by omega)) pl2) rfl (Ji ?_);exact hK zq zc zq2 zc2 zb zv
  ·
   intro gh gh' h
   rfl
  apply Jl 12 rfl
  iterate 3 focus (intros;(conv=>lhs;simp only [Jh,Jr,JM,Jt,JH,eq_self,reduceEqDiff,reduceIte,reduceSub,reduceAdd,JxA,JxB]);all_goals rfl)
  ·
   intro gh X K zq zc zq2 zc2 zb zv hK;refine Jg (EG rfl rfl (nw _ (by omega))) rfl (Ji ?_);exact hK zq zc zq2 zc2 zb zv
  ·
   intro gh gh' h
   rfl
  apply Jl 13 rfl
  iterate 3 focus (intros;(conv=>lhs;simp only [Jh,Jr,JM,Jt,JH,eq_self,reduceEqDiff,reduceIte,reduceSub,reduceAdd,JxA,JxB]);all_goals rfl)
  ·
   intro gh X K zq zc zq2 zc2 zb zv hK;refine Jg (EQ rfl rfl (nw _ (by omega))) rfl (Ji ?_);exact hK zq zc zq2 zc2 zb zv
  ·
   intro gh gh' h
   rfl
  apply Jl 14 rfl
  iterate 3 focus (intros;(conv=>lhs;simp only [Jh,Jr,JM,Jt,JH,eq_self,reduceEqDiff,reduceIte,reduceSub,reduceAdd,JxA,JxB]);all_goals rfl)
  ·
   intro gh X K zq zc zq2 zc2 zb zv hK;refine Jy fn98 rfl rfl fun w hH=>(l01Mod_c (by omega) hH).mono ?_;rintro _ w ⟨rfl,hH⟩;refine ⟨_,rfl,fun a hF=>JR hF hH ?_⟩;refine Ji ?_;exact hK zq zc zq2 zc2 zb zv
  ·
   intro gh gh' h
   rfl
  apply Jl 15 rfl
  iterate 3 focus (intros;(conv=>lhs;simp only [Jh,Jr,JM,Jt,JH,eq_self,reduceEqDiff,reduceIte,reduceSub,reduceAdd,JxA,JxB]);all_goals rfl)
  ·
   intro gh X K zq zc zq2 zc2 zb zv hK;refine Jg (Eu u22 sz2 rfl rfl rfl (by omega) At.z) rfl (Ji ?_);exact hK zq zc zq2 zc2 zb zv
  ·
   intro gh gh' h
   rfl
  apply ES 16 rfl
  iterate 3 focus (intros;(conv=>lhs;simp only [Jh,Jr,JM,Jt,JH,eq_self,reduceEqDiff,reduceIte,reduceSub,reduceAdd,JxA,JxB]);all_goals rfl)
  ·
   intro gh X K hK;refine J.storeWI rfl rfl sz2 (by omega) At.z (Ji ?_);exact hK
  ·
   intro gh gh' h
   rfl
  apply Ei [0,1,2,3,4,5,6,7,8,9,10,11,12,13,14,15] [0,1,2,3,4,5,6,7,8,9,10,11,12,13,14,15] foll0 rfl rfl rfl (by rfl)
  iterate 2 focus (intros;(conv=>lhs;simp only [Jh,Jr,JM,Jt,JH,eq_self,reduceEqDiff,reduceIte,reduceSub,reduceAdd,JxA,JxB]);all_goals rfl)
  intro gh;clear gh;refine JD (Ja (hK7 (Jb (Jg (Jc rfl) rfl (Jg (Jz rfl rfl (by first | exact nw _ (by omega) | rfl)) rfl (Jg (Jd rfl) rfl (Jf (Ja ?_))))))));exact hAg0 (i+1) (by omega) (by show xs.length - (i+1)<xs.length - i;omega) 23 rfl rfl ⟨rfl,trivial⟩ rfl (by rw [lsZ_set (by omega)])
 ·
  refine JG (Jj (Jj (JL (Ja (hK3 (Je fun _ hK8 _=>(Jb (Jg (Jc rfl) rfl (Jg (Jd rfl) rfl (Jf (Ja (hK8 (Ju (Jq rfl (Res.tmp rfl) fun w hH=>?_))))))))))))));replace hH:=hH.sublist (.cons_cons _ (List.Sublist.refl _));rw [lsZ_end (by omega)] at hH;exact ⟨_,_,by rw [lessS_len],by rw [lessS_len];exact hH⟩
theorem fn96:Fn Tryz.prog 96:=⟨_,Tryz.func96,by kernel_rfl,rfl⟩
theorem fn97:Fn Tryz.prog 97:=⟨_,Tryz.func97,by kernel_rfl,rfl⟩
theorem l03By_c {B:World} {H0 H:HP} {L:List SA} {w:World} {qrow:Option Addr} {crow:Nat} {row:List Int} {qrs:Option Addr} {crs:Nat} {rs:List (List Int)} {W:Nat} (hrow:Ints H qrow row) (hrs:RowsR H qrs rs) (hw:RowOk W row) (hW : ∀r∈rs,RowOk W r∧ldR r<W) (hn:rs.length≤1000000) (hWn:W≤1000000) (hcr:row.length≤crow) (hH:Hp B H0 H L w):Calls Tryz.prog 70 [.slice qrow row.length crow,.slice qrs rs.length crs].toArray w fun e w'=>∃H' q c,Le H H' ∧Ints H' q (byS row rs)∧(byS row rs).length≤c∧e = .returned (.slice q (byS row rs).length c)∧Hp B H0 H' L w':=by
 refine Jx Tryz.func70 rfl 34 rfl rfl [(0,.slice qrow row.length crow),(1,.slice qrs rs.length crs)] rfl hH ?_;have hw0:=hH.old;have hw1:=hH.le;clear hH;refine Je fun _ hK1 _=>(Jb (Jg (Jd rfl) rfl (Jf (Ja (hK1 (Je fun _ hK2 _=>(Je fun _ hK3 _=>(Jb (Jg (Jd rfl) rfl (Jf (Ja (hK3 (Jk (JC (σ:=HP × Option Addr × Nat × Nat) (fun ⟨Hk,q,c,k⟩=>[(5,.int .i64 (k:Int)),(0,.slice q (byS row (rs.take k)).length c)]) (fun ⟨Hk,q,c,k⟩=>Hk) (fun ⟨Hk,q,c,k⟩=>L) (fun ⟨Hk,q,c,k⟩=>Le H Hk∧Ints Hk q (byS row (rs.take k))∧(byS row (rs.take k)).length≤c∧k≤rs.length) (fun ⟨Hk,q,c,k⟩=>rs.length - k) (H,qrow,crow,0) ⟨Le.refl _,hrow,hcr,by omega⟩ ⟨rfl,⟨rfl,trivial⟩⟩ rfl rfl ?_))))))))))))));rintro ⟨Hk,q,c,k⟩ ⟨hlk,hS,hSc,hk⟩ _ hAg0;replace hrow:=hrow.le hlk;replace hrs:=hrs.le hlk;refine Je fun _ hK4 _=>(Je fun _ hK5 _=>(Jb (Jg (Jc rfl) rfl (Jg (Jc rfl) rfl (Jg (Jn u31 rfl rfl) rfl (Jg (JO rfl rfl) rfl (Jf (Ja (hK5 (Jo rfl (fun h10=>?_) (fun h10=>?_)))))))))))
 ·
  have hk1:k<rs.length:=by omega
  have hrk:=hW _ (rw_mem hk1);have hbk:=byS_ok (B:=rs.take k) hw (fun r hr=>(hW r (List.mem_of_mem_take hr)).1);have hbl:=hbk.len;have hrl:=hrk.1.len;have hld:=idxOf_ld (r:=rw_ rs k) (by omega);have hbv:=hbk.val (ldR (rw_ rs k));have hrle:=hrk.2;refine Jm (Ja (hK4 (Je fun _ hK6 _=>(Jk (Je fun _ hK7 _=>(Jb (Jg (Jc rfl) rfl (Jg (Jc rfl) rfl (Jg (JQ u31 sz22 rfl rfl rfl hk1 hrs.sm) rfl ?_)))))))));obtain ⟨qe16,ce16,he16,le16,Fe16⟩:=hrs k hk1;refine Jg (JF rfl he16 pl22) rfl (Jy fn96 rfl rfl fun w hH=>(l03First_c Fe16 (by omega) hH).mono ?_);rintro _ w ⟨rfl,hH⟩;refine ⟨_,rfl,fun a hF=>JR hF hH ?_⟩;refine Jg (EK (v':=.int .i64 ((ldR (rw_ rs k):Nat):Int)) (by rw [hld]) (Jd rfl)) rfl (Jf (Ja (hK7 (Je fun _ hK8 _=>(Jb (Jg (Jc rfl) rfl (Jg (Jc rfl) rfl (Jg (JQ u22 sz2 rfl rfl rfl (by omega) hS.sm) rfl (Jg (JF rfl (hS _ (by omega)) pl2) rfl (Jg (Em rfl rfl) rfl (Jf (Ja (hK8 (Jo rfl (fun h22=>?_) (fun h22=>?_)))))))))))))))
  ·
   refine Ej (Rs:=[]) 11 [[], [], [], [1,2], [1,2,3], [], [], [5,6], [5,6,7], [0,1,2,3,4,5,6,7,8], [0,1,2,3,4,5,6,7,8,9]] [[], [], [], [], [], [], [], [], [], [], []] [[], [], [], [], [], [], [], [], [], [], []] rfl rfl (by kernel_rfl) ?_;apply Jl 1 rfl
   iterate 3 focus (intros;(conv=>lhs;simp only [Jh,Jr,JM,Jt,JH,eq_self,reduceEqDiff,reduceIte,reduceSub,reduceAdd,JxA,JxB]);all_goals rfl)
   ·
    intro gh X K zq zc zq2 zc2 zb zv hK;refine Jg (Jc rfl) rfl (Ji ?_);exact hK zq zc zq2 zc2 zb zv
   ·
    intro gh gh' h
    rfl
   apply Jl 2 rfl
   iterate 3 focus (intros;(conv=>lhs;simp only [Jh,Jr,JM,Jt,JH,eq_self,reduceEqDiff,reduceIte,reduceSub,reduceAdd,JxA,JxB]);all_goals rfl)
   ·
    intro gh X K zq zc zq2 zc2 zb zv hK;refine Jg (Jc rfl) rfl (Ji ?_);exact hK zq zc zq2 zc2 zb zv
   ·
    intro gh gh' h
    rfl
   apply Jl 3 rfl
   iterate 3 focus (intros;(conv=>lhs;simp only [Jh,Jr,JM,Jt,JH,eq_self,reduceEqDiff,reduceIte,reduceSub,reduceAdd,JxA,JxB]);all_goals rfl)
   ·
    intro gh X K zq zc zq2 zc2 zb zv hK;refine Jg (Jc rfl) rfl (Ji ?_);exact hK zq zc zq2 zc2 zb zv
   ·
    intro gh gh' h
    rfl
   apply Jl 4 rfl
   iterate 3 focus (intros;(conv=>lhs;simp only [Jh,Jr,JM,Jt,JH,eq_self,reduceEqDiff,reduceIte,reduceSub,reduceAdd,JxA,JxB]);all_goals rfl)
   ·
    intro gh X K zq zc zq2 zc2 zb zv hK;refine Jg (JQ u31 sz22 rfl rfl rfl hk1 hrs.sm) rfl (Ji ?_);exact hK zq zc zq2 zc2 zb zv
   ·
    intro gh gh' h
    rfl
   obtain ⟨qe27,ce27,he27,le27,Fe27⟩:=hrs k hk1;apply Jl 5 rfl
   iterate 3 focus (intros;(conv=>lhs;simp only [Jh,Jr,JM,Jt,JH,eq_self,reduceEqDiff,reduceIte,reduceSub,reduceAdd,JxA,JxB]);all_goals rfl)
   ·
    intro gh X K zq zc zq2 zc2 zb zv hK;refine Jg (JF rfl he27 pl22) rfl (Ji ?_);exact hK zq zc zq2 zc2 zb zv
   ·
    intro gh gh' h
    rfl
   apply Jl 6 rfl
   iterate 3 focus (intros;(conv=>lhs;simp only [Jh,Jr,JM,Jt,JH,eq_self,reduceEqDiff,reduceIte,reduceSub,reduceAdd,JxA,JxB]);all_goals rfl)
   ·
    intro gh X K zq zc zq2 zc2 zb zv hK;refine Jg (Jc rfl) rfl (Ji ?_);exact hK zq zc zq2 zc2 zb zv
   ·
    intro gh gh' h
    rfl
   apply Jl 7 rfl
   iterate 3 focus (intros;(conv=>lhs;simp only [Jh,Jr,JM,Jt,JH,eq_self,reduceEqDiff,reduceIte,reduceSub,reduceAdd,JxA,JxB]);all_goals rfl)
   ·
    intro gh X K zq zc zq2 zc2 zb zv hK;refine Jg (Jc rfl) rfl (Ji ?_);exact hK zq zc zq2 zc2 zb zv
   ·
    intro gh gh' h
    rfl
   apply Jl 8 rfl
   iterate 3 focus (intros;(conv=>lhs;simp only [Jh,Jr,JM,Jt,JH,eq_self,reduceEqDiff,reduceIte,reduceSub,reduceAdd,JxA,JxB]);all_goals rfl)
   ·
    intro gh X K zq zc zq2 zc2 zb zv hK;refine Jg (JQ u22 sz2 rfl rfl rfl (by omega) hS.sm) rfl (Ji ?_);exact hK zq zc zq2 zc2 zb zv
   ·
    intro gh gh' h
    rfl
   apply Jl 9 rfl
   iterate 3 focus (intros;(conv=>lhs;simp only [Jh,Jr,JM,Jt,JH,eq_self,reduceEqDiff,reduceIte,reduceSub,reduceAdd,JxA,JxB]);all_goals rfl)
   ·
    intro gh X K zq zc zq2 zc2 zb zv hK;refine Jg (JF rfl (hS _ (by omega)) pl2) rfl (Ji ?_);exact hK zq zc zq2 zc2 zb zv
   ·
    intro gh gh' h
    rfl
   apply JZ 10 rfl
   iterate 3 focus (intros;(conv=>lhs;simp only [Jh,Jr,JM,Jt,JH,eq_self,reduceEqDiff,reduceIte,reduceSub,reduceAdd,JxA,JxB]);all_goals rfl)
   ·
    intro gh X K zq zc zq2 zc2 zb zv hK;refine Jy fn97 rfl rfl fun w hH=>(l03Less_c hS Fe27 (by omega) (by rw [hbl,hrl]) hbk.val hrk.1.val hbv hH).mono ?_;rintro _ w ⟨qo32,co32,rfl,hH⟩;refine ⟨_,rfl,fun a hF=>JR hF hH ?_⟩;refine Ji ?_;exact hK qo32 co32 zq2 zc2 zb zv
   ·
    intro gh gh' h;refine ⟨?_,?_⟩ <;> rfl
   apply Jl 11 rfl
   iterate 3 focus (intros;(conv=>lhs;simp only [Jh,Jr,JM,Jt,JH,eq_self,reduceEqDiff,reduceIte,reduceSub,reduceAdd,JxA,JxB]);all_goals rfl)
   ·
    intro gh X K zq zc zq2 zc2 zb zv hK;refine Jg (Jd rfl) rfl (Ji ?_);exact hK zq zc zq2 zc2 zb zv
   ·
    intro gh gh' h
    first | simp only [h 9 rfl] | rfl
   apply Ei [0,1,2,3,4,5,6,7,8,9,10] [0,1,2,3,4,5,6,7,8,9,10] foll0 rfl rfl rfl (by rfl)
   iterate 2 focus (intros;(conv=>lhs;simp only [Jh,Jr,JM,Jt,JH,eq_self,reduceEqDiff,reduceIte,reduceSub,reduceAdd,JxA,JxB]);all_goals rfl)
   intro gh;generalize (gh 9).c=co32;generalize (gh 9).q=qo32;clear gh;refine EF .z fun Ho32 hleo32 hAo32=>?_;replace hrow:=hrow.le hleo32;replace hrs:=hrs.le hleo32;replace hS:=hS.le hleo32;replace Fe16:=Fe16.le hleo32;replace Fe27:=Fe27.le hleo32;have hxo32:=own_ints hAo32;have hco32:=own_le hAo32;refine JD (Ja (hK6 (Jb (Jg (Jc rfl) rfl (Jg (Jz rfl rfl (by first | exact nw _ (by omega) | rfl)) rfl (Jg (Jd rfl) rfl (Jf (Ja ?_))))))));exact hAg0 (Ho32,qo32,co32,k+1) ⟨(hlk.trans hleo32),by rw [byS_take hk1];exact hxo32,by rw [byS_take hk1];exact hco32,by omega⟩ (by show rs.length - (k+1)<rs.length - k;omega) 31 rfl rfl ⟨rfl,⟨(by rw [byS_take hk1];rfl),trivial⟩⟩ rfl rfl
  ·
   refine Jm (JD (Ja (hK6 (Jb (Jg (Jc rfl) rfl (Jg (Jz rfl rfl (by first | exact nw _ (by omega) | rfl)) rfl (Jg (Jd rfl) rfl (Jf (Ja ?_)))))))));exact hAg0 (Hk,q,c,k+1) ⟨hlk,by rw [byS_take hk1,oneBy_z hbk hrk.1 (by omega)];exact hS,by rw [byS_take hk1,oneBy_z hbk hrk.1 (by omega)];exact hSc,by omega⟩ (by show rs.length - (k+1)<rs.length - k;omega) 20 rfl rfl ⟨rfl,⟨(by rw [byS_take hk1,oneBy_z hbk hrk.1 (by omega)];rfl),trivial⟩⟩ rfl rfl
 ·
  refine JG (Jj (Jj (JL (Ja (hK2 (Je fun _ hK9 _=>(Jb (Jg (Jc rfl) rfl (Jg (Jd rfl) rfl (Jf (Ja (hK9 (Ju (Jq rfl (Res.tmp rfl) fun w hH=>?_))))))))))))))
  obtain rfl:k=rs.length:=by omega
  rw [List.take_length] at hS hSc ⊢;exact ⟨_,_,_,hlk,hS,hSc,rfl,hH⟩
theorem fn70:Fn Tryz.prog 70:=⟨_,Tryz.func70,by kernel_rfl,rfl⟩
theorem fn99:Fn Tryz.prog 99:=⟨_,Tryz.func99,by kernel_rfl,rfl⟩
def stI (u:List Int) (s:List (List Int) × Bool) (r:List Int):List (List Int) × Bool:=if s.2 then s else if ldR u<ldR r then (s.1++[u],true) else s
def stP (u:List Int) (s:List (List Int) × Bool) (r:List Int):List (List Int) × Bool:=((stI u s r).1++[oneBy r u],(stI u s r).2)
def goK (u:List Int) (rs:List (List Int)) (i:Nat):List (List Int) × Bool:=(rs.take i).foldl (stP u) ([],false)
theorem goK_succ {u:List Int} {rs:List (List Int)} {i:Nat} (hi:i<rs.length):goK u rs (i+1)=stP u (goK u rs i) (rw_ rs i):=by
 unfold goK;rw [rw_take hi,List.foldl_append]
 rfl
theorem stI_a {u:List Int} {s:List (List Int) × Bool} {r:List Int} (h:s.2=true):stI u s r=s:=by unfold stI;rw [if_pos h]
theorem stI_b {u:List Int} {s:List (List Int) × Bool} {r:List Int} (h:s.2=false) (hl:ldR u<ldR r):stI u s r=(s.1++[u],true):=by unfold stI;rw [h,if_neg (by decide),if_pos hl]
theorem stI_c {u:List Int} {s:List (List Int) × Bool} {r:List Int} (h:s.2=false) (hl : ¬ldR u<ldR r):stI u s r=s:=by unfold stI;rw [h,if_neg (by decide),if_neg hl]
theorem stP_true (u:List Int) : ∀(rs o:List (List Int)),rs.foldl (stP u) (o,true)=(o++rs.map (fun x=>oneBy x u),true)
 | [],o=>by simp
 | r::rs,o=>by
  rw [List.foldl_cons,show stP u (o,true) r=(o++[oneBy r u],true) from rfl,stP_true u rs,List.map_cons,List.append_assoc]
  rfl
theorem stP_ins (u:List Int) : ∀(rs o:List (List Int)),(if (rs.foldl (stP u) (o,false)).2 then (rs.foldl (stP u) (o,false)).1 else (rs.foldl (stP u) (o,false)).1++[u])=o++insS u rs
 | [],o=>rfl
 | r::rs,o=>by
  rw [List.foldl_cons]
  by_cases h:ldR u<ldR r
  ·have e:stP u (o,false) r=(o++[u]++[oneBy r u],true):=by unfold stP;rw [stI_b rfl h]
   rw [e,stP_true,if_pos rfl]
   simp only [insS]
   rw [if_pos h,List.map_cons]
   simp [oneBy]
  ·have e:stP u (o,false) r=(o++[oneBy r u],false):=by unfold stP;rw [stI_c rfl h]
   rw [e,stP_ins u rs]
   simp only [insS]
   rw [if_neg h]
   simp [oneBy]
theorem goK_end {u:List Int} {rs:List (List Int)} {i:Nat} (hi:i=rs.length):(if (goK u rs i).2 then (goK u rs i).1 else (goK u rs i).1++[u])=insS u rs:=by
 subst hi;unfold goK;rw [List.take_length,stP_ins u rs []]
 rfl
theorem goK_yes {u:List Int} {rs:List (List Int)} {i:Nat} (hi:i=rs.length) (h:(goK u rs i).2=true):(goK u rs i).1=insS u rs:=by rw [← goK_end hi,if_pos h]
theorem goK_no {u:List Int} {rs:List (List Int)} {i:Nat} (hi:i=rs.length) (h:(goK u rs i).2=false):(goK u rs i).1++[u]=insS u rs:=by rw [← goK_end hi,h];rfl
theorem stI_len {u:List Int} {s:List (List Int) × Bool} {r:List Int}:(stI u s r).1.length≤s.1.length+1:=by
 unfold stI
 split
 ·omega
 ·split
  ·simp
  ·omega
theorem goK_len (u:List Int) (rs:List (List Int)) : ∀i,(goK u rs i).1.length≤2 * i
 | 0=>by simp [goK]
 | i+1=>by
  by_cases hi:i<rs.length
  ·rw [goK_succ hi]
   have h1:=goK_len u rs i
   have h2:=stI_len (u:=u) (s:=goK u rs i) (r:=rw_ rs i)
   unfold stP
   rw [List.length_append]
   simp only [List.length_cons,List.length_nil]
   omega
  ·have e:goK u rs (i+1)=goK u rs i:=by
    unfold goK
    rw [List.take_of_length_le (by omega),List.take_of_length_le (by omega)]
   rw [e]
   have:=goK_len u rs i
   omega
theorem put_no {rs:List (List Int)} {row:List Int} (h:idxOf (byS row rs) nzI<0):putS rs row=rs:=by
 have h1:zR (byS row rs)=true:=by rw [← zR_eq];exact decide_eq_true h
 unfold putS;rw [if_neg (of_decide_eq_true h1)]
theorem put_lt {b:List Int} (h : ¬idxOf b nzI<0):ldR b<b.length:=by
 have h1:zR b=false:=by rw [← zR_eq];exact decide_eq_false h
 exact Decidable.not_not.1 (of_decide_eq_false h1)
theorem put_yes {rs:List (List Int)} {row:List Int} (h:ldR (byS row rs)<(byS row rs).length):putS rs row=insS (unitS (byS row rs)) rs:=by
 unfold putS;rw [if_pos h]
theorem l03Put_c {B:World} {H0 H:HP} {L:List SA} {w:World} {qrs:Option Addr} {crs:Nat} {rs:List (List Int)} {qrow:Option Addr} {crow:Nat} {row:List Int} {W:Nat} (hrs:RowsR H qrs rs) (hrow:Ints H qrow row) (hR:Red W rs) (hw:RowOk W row) (hWn:W≤100000) (hcr:row.length≤crow) (hcs:rs.length≤crs) (hH:Hp B H0 H L w):Calls Tryz.prog 49 [.slice qrs rs.length crs,.slice qrow row.length crow].toArray w fun e w'=>∃H' q c,Le H H' ∧RowsR H' q (putS rs row)∧(putS rs row).length≤c∧e = .returned (.slice q (putS rs row).length c)∧Hp B H0 H' L w':=by
 refine Jx Tryz.func49 rfl 74 rfl rfl [(0,.slice qrs rs.length crs),(1,.slice qrow row.length crow)] rfl hH ?_;have hw0:=hH.old;have hw1:=hH.le;have hRc:=hR.count;clear hH;refine Je fun _ hK1 _=>(Jb (Jg (Jd rfl) rfl (Jf (Ja (hK1 (Je fun _ hK2 _=>(Jb (Jg (Jc rfl) rfl (Jg (Jc rfl) rfl (Jy fn70 rfl rfl fun w hH=>(l03By_c (W:=W) hrow hrs hw hR.led (by omega) (by omega) hcr hH).mono ?_))))))))));rintro _ w ⟨Hf11,qf11,cf11,hlf11,hI11,hcc11,rfl,hH⟩;refine ⟨_,rfl,fun a hF=>JR hF hH ?_⟩;replace hrs:=hrs.le hlf11;replace hrow:=hrow.le hlf11;have hbk:=byS_ok hw hR.row;have hbl:=hbk.len;refine Jg (Jd rfl) rfl (Jf (Ja (hK2 (Je fun _ hK3 _=>(Jb (Jg (Jc rfl) rfl (Jy fn96 rfl rfl fun w hH=>(l03First_c hI11 (by omega) hH).mono ?_)))))));rintro _ w ⟨rfl,hH⟩;refine ⟨_,rfl,fun a hF=>JR hF hH ?_⟩;refine Jg (Jd rfl) rfl (Jf (Ja (hK3 (Je fun _ hK4 _=>(Je fun _ hK5 _=>(Jb (Jg (Jc rfl) rfl (Jg (JO rfl rfl) rfl (Jf (Ja (hK5 (Jo rfl (fun h15=>?_) (fun h15=>?_)))))))))))))
 ·
  refine Je fun _ hK6 _=>(Jb (Jg (Jc rfl) rfl (Jg (Jd rfl) rfl (Jf (Ja (hK6 (Ju (Jp (Jq rfl (Res.tmp rfl) fun w hH=>?_)))))))));rw [put_no h15];exact ⟨_,_,_,hlf11,hrs,hcs,rfl,hH⟩
 ·
  have hlt:=put_lt h15;have hld:=idxOf_ld hlt;have hbv:=hbk.val (ldR (byS row rs));have huk:=hbk.unit;have hul:=unitS_ld hbk hlt;have huL:=huk.len;have hiv:=fld_bd (-(ivZ ((byS row rs).getD (ldR (byS row rs)) 0)));have hivb:=ivZ_bd hbv.1;refine Jm (Ja (hK4 (Je fun _ hK7 _=>(Ej (Rs:=[]) 13 [[], [0], [0,1], [], [], [], [4,5], [4,5,6], [4,5,6,7], [4,5,6,7,8], [4,5,6,7,8,9], [0,1,2,3,4,5,6,7,8,9,10], [0,1,2,3,4,5,6,7,8,9,10,11]] [[], [], [], [], [], [], [], [], [], [], [], [2], []] [[], [], [], [], [], [], [], [], [], [], [], [], []] rfl rfl (by kernel_rfl) ?_))));apply Jl 1 rfl
  iterate 3 focus (intros;(conv=>lhs;simp only [Jh,Jr,JM,Jt,JH,eq_self,reduceEqDiff,reduceIte,reduceSub,reduceAdd,JxA,JxB]);all_goals rfl)
  ·
   intro gh X K zq zc zq2 zc2 zb zv hK;refine Jg (Jc rfl) rfl (Ji ?_);exact hK zq zc zq2 zc2 zb zv
  ·
   intro gh gh' h
   rfl
  apply Jl 2 rfl
  iterate 3 focus (intros;(conv=>lhs;simp only [Jh,Jr,JM,Jt,JH,eq_self,reduceEqDiff,reduceIte,reduceSub,reduceAdd,JxA,JxB]);all_goals rfl)
  ·
   intro gh X K zq zc zq2 zc2 zb zv hK;refine Jg (Jn u22 rfl rfl) rfl (Ji ?_);exact hK zq zc zq2 zc2 zb zv
  ·
   intro gh gh' h
   rfl
  apply JZ 3 rfl
  iterate 3 focus (intros;(conv=>lhs;simp only [Jh,Jr,JM,Jt,JH,eq_self,reduceEqDiff,reduceIte,reduceSub,reduceAdd,JxA,JxB]);all_goals rfl)
  ·
   intro gh X K zq zc zq2 zc2 zb zv hK;refine EL (MK.makeI (m:=(byS row rs).length) u22 ze2 sz2 by2 rfl rfl rfl rfl (by omega)) rfl fun qo19 co19=>(Ji ?_);exact hK qo19 co19 zq2 zc2 zb zv
  ·
   intro gh gh' h;refine ⟨?_,?_⟩ <;> rfl
  apply Jl 4 rfl
  iterate 3 focus (intros;(conv=>lhs;simp only [Jh,Jr,JM,Jt,JH,eq_self,reduceEqDiff,reduceIte,reduceSub,reduceAdd,JxA,JxB]);all_goals rfl)
  ·
   intro gh X K zq zc zq2 zc2 zb zv hK;refine Jg (Jc rfl) rfl (Ji ?_);exact hK zq zc zq2 zc2 zb zv
  ·
   intro gh gh' h
   rfl
  apply Jl 5 rfl
  iterate 3 focus (intros;(conv=>lhs;simp only [Jh,Jr,JM,Jt,JH,eq_self,reduceEqDiff,reduceIte,reduceSub,reduceAdd,JxA,JxB]);all_goals rfl)
  ·
   intro gh X K zq zc zq2 zc2 zb zv hK;refine Jg (Jc rfl) rfl (Ji ?_);exact hK zq zc zq2 zc2 zb zv
  ·
   intro gh gh' h
   rfl
  apply Jl 6 rfl
  iterate 3 focus (intros;(conv=>lhs;simp only [Jh,Jr,JM,Jt,JH,eq_self,reduceEqDiff,reduceIte,reduceSub,reduceAdd,JxA,JxB]);all_goals rfl)
  ·
   intro gh X K zq zc zq2 zc2 zb zv hK;refine Jg (EK (v':=.int .i64 ((ldR (byS row rs):Nat):Int)) (by rw [hld]) (Jc rfl)) rfl (Ji ?_);exact hK zq zc zq2 zc2 zb zv
  ·
   intro gh gh' h
   rfl
  apply Jl 7 rfl
  iterate 3 focus (intros;(conv=>lhs;simp only [Jh,Jr,JM,Jt,JH,eq_self,reduceEqDiff,reduceIte,reduceSub,reduceAdd,JxA,JxB]);all_goals rfl)
  ·
   intro gh X K zq zc zq2 zc2 zb zv hK;refine Jg (JQ u22 sz2 rfl rfl rfl hlt hI11.sm) rfl (Ji ?_);exact hK zq zc zq2 zc2 zb zv
  ·
   intro gh gh' h
   rfl
  apply Jl 8 rfl
  iterate 3 focus (intros;(conv=>lhs;simp only [Jh,Jr,JM,Jt,JH,eq_self,reduceEqDiff,reduceIte,reduceSub,reduceAdd,JxA,JxB]);all_goals rfl)
  ·
   intro gh X K zq zc zq2 zc2 zb zv hK;refine Jg (JF rfl (hI11 _ hlt) pl2) rfl (Ji ?_);exact hK zq zc zq2 zc2 zb zv
  ·
   intro gh gh' h
   rfl
  apply Jl 9 rfl
  iterate 3 focus (intros;(conv=>lhs;simp only [Jh,Jr,JM,Jt,JH,eq_self,reduceEqDiff,reduceIte,reduceSub,reduceAdd,JxA,JxB]);all_goals rfl)
  ·
   intro gh X K zq zc zq2 zc2 zb zv hK;refine Jy fn99 rfl rfl fun w hH=>(l01Inverse_c (by omega) hH).mono ?_;rintro _ w ⟨rfl,hH⟩;refine ⟨_,rfl,fun a hF=>JR hF hH ?_⟩;refine Ji ?_;exact hK zq zc zq2 zc2 zb zv
  ·
   intro gh gh' h
   rfl
  apply Jl 10 rfl
  iterate 3 focus (intros;(conv=>lhs;simp only [Jh,Jr,JM,Jt,JH,eq_self,reduceEqDiff,reduceIte,reduceSub,reduceAdd,JxA,JxB]);all_goals rfl)
  ·
   intro gh X K zq zc zq2 zc2 zb zv hK;refine Jg (PR.neg rfl ((nw _ (by omega)).trans (Int.zero_sub _))) rfl (Ji ?_);exact hK zq zc zq2 zc2 zb zv
  ·
   intro gh gh' h
   rfl
  apply Jl 11 rfl
  iterate 3 focus (intros;(conv=>lhs;simp only [Jh,Jr,JM,Jt,JH,eq_self,reduceEqDiff,reduceIte,reduceSub,reduceAdd,JxA,JxB]);all_goals rfl)
  ·
   intro gh X K zq zc zq2 zc2 zb zv hK;refine Jy fn98 rfl rfl fun w hH=>(l01Mod_c (by omega) hH).mono ?_;rintro _ w ⟨rfl,hH⟩;refine ⟨_,rfl,fun a hF=>JR hF hH ?_⟩;refine Ji ?_;exact hK zq zc zq2 zc2 zb zv
  ·
   intro gh gh' h
   rfl
  apply JZ 12 rfl
  iterate 3 focus (intros;(conv=>lhs;simp only [Jh,Jr,JM,Jt,JH,eq_self,reduceEqDiff,reduceIte,reduceSub,reduceAdd,JxA,JxB]);all_goals rfl)
  ·
   intro gh X K zq zc zq2 zc2 zb zv hK;refine Jy fn97 rfl rfl fun w hH=>hH.lend .z fun Hl1 hle1 hA1 hB1 hH=>(l03Less_c (own_ints hA1) (hI11.le hle1) (by simp;omega) (by simp) (fun j=>by rw [rep_get];omega) hbk.val hiv hH).mono ?_;rintro _ w ⟨qo28,co28,rfl,hH⟩;replace hH:=hB1 _ _ hH;refine ⟨_,rfl,fun a hF=>JR hF hH ?_⟩;refine Jw .z (Jw (.s .z) (Ji ?_));exact hK qo28 co28 zq2 zc2 zb zv
  ·
   intro gh gh' h;refine ⟨?_,?_⟩ <;> (first | simp only [h 2 rfl] | rfl)
  apply Jl 13 rfl
  iterate 3 focus (intros;(conv=>lhs;simp only [Jh,Jr,JM,Jt,JH,eq_self,reduceEqDiff,reduceIte,reduceSub,reduceAdd,JxA,JxB]);all_goals rfl)
  ·
   intro gh X K zq zc zq2 zc2 zb zv hK;refine Jg (Jd rfl) rfl (Ji ?_);exact hK zq zc zq2 zc2 zb zv
  ·
   intro gh gh' h
   first | simp only [h 2 rfl,h 11 rfl] | rfl
  apply Ei [0,1,2,3,4,5,6,7,8,9,10,11,12] [0,1,2,3,4,5,6,7,8,9,10,11,12] foll0 rfl rfl rfl (by rfl)
  iterate 2 focus (intros;(conv=>lhs;simp only [Jh,Jr,JM,Jt,JH,eq_self,reduceEqDiff,reduceIte,reduceSub,reduceAdd,JxA,JxB]);all_goals rfl)
  intro gh;generalize (gh 2).c=co19;generalize (gh 2).q=qo19;generalize (gh 11).c=co28;generalize (gh 11).q=qo28;clear gh;refine EF (.s .z) fun Ho28 hleo28 hAo28=>?_;replace hrs:=hrs.le hleo28;replace hrow:=hrow.le hleo28;replace hI11:=hI11.le hleo28;have hxo28:=own_ints hAo28;have hco28:=own_le hAo28;have hxu:Ints Ho28 qo28 (unitS (byS row rs)):=hxo28;have hcu:(unitS (byS row rs)).length≤co28:=hco28;refine JN .z (Ja (hK7 (Je fun _ hK8 _=>(Jb (EL (EP u31 sz22) rfl fun qo29 co29=>(Jg (Jd rfl) rfl (Jg (Jd rfl) rfl (Jf (Ja (hK8 (Je fun _ hK9 _=>(Je fun _ hK10 _=>(Jb (Jg (Jd rfl) rfl (Jf (Ja (hK10 ?_)))))))))))))))));refine Jk (JC (σ:=HP × Option Addr × Nat × List Value × Nat) (fun ⟨Hk,q,c,vals,i⟩=>[(8,.int .i64 (i:Int)),(6,.slice q (goK (unitS (byS row rs)) rs i).1.length c),(7,.bool (goK (unitS (byS row rs)) rs i).2)]) (fun ⟨Hk,q,c,vals,i⟩=>Hk) (fun ⟨Hk,q,c,vals,i⟩=>own 22 1 q (goK (unitS (byS row rs)) rs i).1.length c vals::L) (fun ⟨Hk,q,c,vals,i⟩=>Le Ho28 Hk∧SlF Hk vals (goK (unitS (byS row rs)) rs i).1∧i≤rs.length) (fun ⟨Hk,q,c,vals,i⟩=>rs.length - i) (Ho28,qo29,co29, [],0) ⟨Le.refl _,SlF.nil _,by omega⟩ ⟨rfl,⟨rfl,⟨rfl,trivial⟩⟩⟩ rfl rfl ?_);rintro ⟨Hk,q,c,vals,i⟩ ⟨hlk,hS,hi⟩ _ hAg0;replace hrs:=hrs.le hlk;replace hrow:=hrow.le hlk;replace hI11:=hI11.le hlk;replace hxo28:=hxo28.le hlk;replace hxu:=hxu.le hlk;refine Je fun _ hK11 _=>(Je fun _ hK12 _=>(Jb (Jg (Jc rfl) rfl (Jg (Jc rfl) rfl (Jg (Jn u31 rfl rfl) rfl (Jg (JO rfl rfl) rfl (Jf (Ja (hK12 (Jo rfl (fun h33=>?_) (fun h33=>?_)))))))))))
  ·
   have hik:i<rs.length:=by omega
   have hgl:=goK_len (unitS (byS row rs)) rs i;have hrk:=hR.led _ (rw_mem hik);have hrl:=hrk.1.len;have hldi:=idxOf_ld (r:=rw_ rs i) (by omega);have hvv:=hrk.1.val (ldR (byS row rs));refine Jm (Ja (hK11 (Je fun _ hK13 _=>(Jk (CJ.cutU (σ:=Option Addr × Nat × List Value) (fun ⟨q1,c1,vals1⟩=>[(6,.slice q1 (stI (unitS (byS row rs)) (goK (unitS (byS row rs)) rs i) (rw_ rs i)).1.length c1),(7,.bool (stI (unitS (byS row rs)) (goK (unitS (byS row rs)) rs i) (rw_ rs i)).2)]) (fun ⟨q1,c1,vals1⟩=>Hk) (fun ⟨q1,c1,vals1⟩=>own 22 1 q1 (stI (unitS (byS row rs)) (goK (unitS (byS row rs)) rs i) (rw_ rs i)).1.length c1 vals1::L) (fun ⟨q1,c1,vals1⟩=>SlF Hk vals1 (stI (unitS (byS row rs)) (goK (unitS (byS row rs)) rs i) (rw_ rs i)).1) ?_ ?_)))))
   ·
    intro _ hMt1;refine Je fun _ hK14 _=>(Jb (Jg (Jc rfl) rfl (Jg (En rfl) rfl (Jg (Jc rfl) rfl (Ek (jd:=38) rfl (fun hg38=>?_) (fun hg38=>?_))))))
    ·
     try have hg38p:=of_decide_eq_true hg38
     refine JX (Jc rfl) rfl rfl rfl hg38 (JX (Jc rfl) rfl rfl rfl hg38 (JX (JQ u31 sz22 rfl rfl rfl hik hrs.sm) rfl rfl rfl hg38 ?_));obtain ⟨qe42,ce42,he42,le42,Fe42⟩:=hrs i hik;refine JX (JF rfl he42 pl22) rfl rfl rfl hg38 (J.gcall fn96 rfl rfl hg38 rfl rfl fun w hH=>(l03First_c Fe42 (by omega) hH).mono ?_);rintro _ w ⟨rfl,hH⟩;refine ⟨_,rfl,fun a hF=>JR hF hH ?_⟩;refine JX (Jc rfl) rfl rfl rfl hg38 (JX (EH rfl rfl) rfl rfl rfl hg38 (Jg (Ea rfl hg38 rfl) rfl (Jf (Ja (hK14 (Jo rfl (fun h46=>?_) (fun h46=>?_)))))))
     ·
      refine Je fun _ hK15 _=>(Jb (Jg (Jc rfl) rfl (Jg (Jc rfl) rfl (EL (EB u31 ze22 sz22 rfl rfl) rfl fun qo49 co49=>(EA u31 ze22 sz22 by22 rfl rfl rfl rfl (by omega) .z At.z (fun _ _=>At.z) rfl fun qo50 co50=>?_)))));have hS2:=hS.snoc hxu rfl hcu;refine Jg (Jd rfl) rfl (Jf (Ja (hK15 (Jb (Jg (Jd rfl) rfl (Jf (Ja (JN .z ?_))))))));exact hMt1 (qo50,co50,_) (by rw [stI_b (not_f hg38) (by omega)];exact hS2) 17 rfl rfl ⟨(by rw [stI_b (not_f hg38) (by omega),List.length_append];rfl),⟨(by rw [stI_b (not_f hg38) (by omega)];rfl),trivial⟩⟩ rfl (by dsimp only;rw [stI_b (not_f hg38) (by omega),List.length_append];rfl)
     ·
      refine Jm (Ja ?_);exact hMt1 (q,c,vals) (by rw [stI_c (not_f hg38) (by omega)];exact hS) 11 rfl rfl ⟨(by rw [stI_c (not_f hg38) (by omega)];rfl),⟨(by rw [stI_c (not_f hg38) (by omega)];rfl),trivial⟩⟩ rfl (by rw [stI_c (not_f hg38) (by omega)])
    ·
     try have hg38p:=of_decide_eq_false hg38
     refine JW rfl rfl rfl hg38 (JW rfl rfl rfl hg38 (JW rfl rfl rfl hg38 (JW rfl rfl rfl hg38 (JW rfl rfl rfl hg38 (JW rfl rfl rfl hg38 (JW rfl rfl rfl hg38 (Jg (JY rfl hg38 rfl) rfl (Jf (Ja (hK14 (Eo rfl (Jm (Ja ?_)))))))))))));exact hMt1 (q,c,vals) (by rw [stI_a (not_t hg38)];exact hS) 11 rfl rfl ⟨(by rw [stI_a (not_t hg38)];rfl),⟨(by rw [stI_a (not_t hg38)];rfl),trivial⟩⟩ rfl (by rw [stI_a (not_t hg38)])
   ·
    rintro ⟨q1,c1,vals1⟩ hT;have hsl:=stI_len (u:=(unitS (byS row rs))) (s:=(goK (unitS (byS row rs)) rs i)) (r:=rw_ rs i);refine Ej (Rs:=[_]) 17 [[], [], [], [1,2], [1,2,3], [], [], [], [6,7], [6,7,8], [], [6,7,8,9,10], [6,7,8,9,10,11], [1,2,3,4,5,6,7,8,9,10,11,12], [1,2,3,4,5,6,7,8,9,10,11,12,13], [0,1,2,3,4,5,6,7,8,9,10,11,12,13,14], [0,1,2,3,4,5,6,7,8,9,10,11,12,13,14,15]] [[], [], [], [], [], [], [], [], [], [], [], [], [], [], [], [14], []] [[], [], [], [], [], [], [], [], [], [], [], [], [], [], [], [17], []] rfl rfl (by kernel_rfl) ?_;apply Jl 1 rfl
    iterate 3 focus (intros;(conv=>lhs;simp only [Jh,Jr,JM,Jt,JH,eq_self,reduceEqDiff,reduceIte,reduceSub,reduceAdd,JxA,JxB]);all_goals rfl)
    ·
     intro gh X K zq zc zq2 zc2 zb zv hK;refine Jg (Jc rfl) rfl (Ji ?_);exact hK zq zc zq2 zc2 zb zv
    ·
     intro gh gh' h
     rfl
    apply Jl 2 rfl
    iterate 3 focus (intros;(conv=>lhs;simp only [Jh,Jr,JM,Jt,JH,eq_self,reduceEqDiff,reduceIte,reduceSub,reduceAdd,JxA,JxB]);all_goals rfl)
    ·
     intro gh X K zq zc zq2 zc2 zb zv hK;refine Jg (Jc rfl) rfl (Ji ?_);exact hK zq zc zq2 zc2 zb zv
    ·
     intro gh gh' h
     rfl
    apply Jl 3 rfl
    iterate 3 focus (intros;(conv=>lhs;simp only [Jh,Jr,JM,Jt,JH,eq_self,reduceEqDiff,reduceIte,reduceSub,reduceAdd,JxA,JxB]);all_goals rfl)
    ·
     intro gh X K zq zc zq2 zc2 zb zv hK;refine Jg (Jc rfl) rfl (Ji ?_);exact hK zq zc zq2 zc2 zb zv
    ·
     intro gh gh' h
     rfl
    apply Jl 4 rfl
    iterate 3 focus (intros;(conv=>lhs;simp only [Jh,Jr,JM,Jt,JH,eq_self,reduceEqDiff,reduceIte,reduceSub,reduceAdd,JxA,JxB]);all_goals rfl)
    ·
     intro gh X K zq zc zq2 zc2 zb zv hK;refine Jg (JQ u31 sz22 rfl rfl rfl hik hrs.sm) rfl (Ji ?_);exact hK zq zc zq2 zc2 zb zv
    ·
     intro gh gh' h
     rfl
    obtain ⟨qe55,ce55,he55,le55,Fe55⟩:=hrs i hik;apply Jl 5 rfl
    iterate 3 focus (intros;(conv=>lhs;simp only [Jh,Jr,JM,Jt,JH,eq_self,reduceEqDiff,reduceIte,reduceSub,reduceAdd,JxA,JxB]);all_goals rfl)
    ·
     intro gh X K zq zc zq2 zc2 zb zv hK;refine Jg (JF rfl he55 pl22) rfl (Ji ?_);exact hK zq zc zq2 zc2 zb zv
    ·
     intro gh gh' h
     rfl
    apply Jl 6 rfl
    iterate 3 focus (intros;(conv=>lhs;simp only [Jh,Jr,JM,Jt,JH,eq_self,reduceEqDiff,reduceIte,reduceSub,reduceAdd,JxA,JxB]);all_goals rfl)
    ·
     intro gh X K zq zc zq2 zc2 zb zv hK;refine Jg (Jc rfl) rfl (Ji ?_);exact hK zq zc zq2 zc2 zb zv
    ·
     intro gh gh' h
     rfl
    apply Jl 7 rfl
    iterate 3 focus (intros;(conv=>lhs;simp only [Jh,Jr,JM,Jt,JH,eq_self,reduceEqDiff,reduceIte,reduceSub,reduceAdd,JxA,JxB]);all_goals rfl)
    ·
     intro gh X K zq zc zq2 zc2 zb zv hK;refine Jg (Jc rfl) rfl (Ji ?_);exact hK zq zc zq2 zc2 zb zv
    ·
     intro gh gh' h
     rfl
    apply Jl 8 rfl
    iterate 3 focus (intros;(conv=>lhs;simp only [Jh,Jr,JM,Jt,JH,eq_self,reduceEqDiff,reduceIte,reduceSub,reduceAdd,JxA,JxB]);all_goals rfl)
    ·
     intro gh X K zq zc zq2 zc2 zb zv hK;refine Jg (Jc rfl) rfl (Ji ?_);exact hK zq zc zq2 zc2 zb zv
    ·
     intro gh gh' h
     rfl
    apply Jl 9 rfl
    iterate 3 focus (intros;(conv=>lhs;simp only [Jh,Jr,JM,Jt,JH,eq_self,reduceEqDiff,reduceIte,reduceSub,reduceAdd,JxA,JxB]);all_goals rfl)
    ·
     intro gh X K zq zc zq2 zc2 zb zv hK;refine Jg (JQ u31 sz22 rfl rfl rfl hik hrs.sm) rfl (Ji ?_);exact hK zq zc zq2 zc2 zb zv
    ·
     intro gh gh' h
     rfl
    obtain ⟨qe60,ce60,he60,le60,Fe60⟩:=hrs i hik;apply Jl 10 rfl
    iterate 3 focus (intros;(conv=>lhs;simp only [Jh,Jr,JM,Jt,JH,eq_self,reduceEqDiff,reduceIte,reduceSub,reduceAdd,JxA,JxB]);all_goals rfl)
    ·
     intro gh X K zq zc zq2 zc2 zb zv hK;refine Jg (JF rfl he60 pl22) rfl (Ji ?_);exact hK zq zc zq2 zc2 zb zv
    ·
     intro gh gh' h
     rfl
    apply Jl 11 rfl
    iterate 3 focus (intros;(conv=>lhs;simp only [Jh,Jr,JM,Jt,JH,eq_self,reduceEqDiff,reduceIte,reduceSub,reduceAdd,JxA,JxB]);all_goals rfl)
    ·
     intro gh X K zq zc zq2 zc2 zb zv hK;refine Jg (EK (v':=.int .i64 ((ldR (byS row rs):Nat):Int)) (by rw [hld]) (Jc rfl)) rfl (Ji ?_);exact hK zq zc zq2 zc2 zb zv
    ·
     intro gh gh' h
     rfl
    apply Jl 12 rfl
    iterate 3 focus (intros;(conv=>lhs;simp only [Jh,Jr,JM,Jt,JH,eq_self,reduceEqDiff,reduceIte,reduceSub,reduceAdd,JxA,JxB]);all_goals rfl)
    ·
     intro gh X K zq zc zq2 zc2 zb zv hK;refine Jg (JQ u22 sz2 rfl rfl rfl (by omega) Fe60.sm) rfl (Ji ?_);exact hK zq zc zq2 zc2 zb zv
    ·
     intro gh gh' h
     rfl
    apply Jl 13 rfl
    iterate 3 focus (intros;(conv=>lhs;simp only [Jh,Jr,JM,Jt,JH,eq_self,reduceEqDiff,reduceIte,reduceSub,reduceAdd,JxA,JxB]);all_goals rfl)
    ·
     intro gh X K zq zc zq2 zc2 zb zv hK;refine Jg (JF rfl (Fe60 _ (by omega)) pl2) rfl (Ji ?_);exact hK zq zc zq2 zc2 zb zv
    ·
     intro gh gh' h
     rfl
    apply JZ 14 rfl
    iterate 3 focus (intros;(conv=>lhs;simp only [Jh,Jr,JM,Jt,JH,eq_self,reduceEqDiff,reduceIte,reduceSub,reduceAdd,JxA,JxB]);all_goals rfl)
    ·
     intro gh X K zq zc zq2 zc2 zb zv hK;refine Jy fn97 rfl rfl fun w hH=>(l03Less_c Fe55 hxu (by omega) (by omega) hrk.1.val huk.val hvv hH).mono ?_;rintro _ w ⟨qo64,co64,rfl,hH⟩;refine ⟨_,rfl,fun a hF=>JR hF hH ?_⟩;refine Ji ?_;exact hK qo64 co64 zq2 zc2 zb zv
    ·
     intro gh gh' h;refine ⟨?_,?_⟩ <;> rfl
    apply JZ 15 rfl
    iterate 3 focus (intros;(conv=>lhs;simp only [Jh,Jr,JM,Jt,JH,eq_self,reduceEqDiff,reduceIte,reduceSub,reduceAdd,JxA,JxB]);all_goals rfl)
    ·
     intro gh X K zq zc zq2 zc2 zb zv hK;refine EL (EB u31 ze22 sz22 rfl rfl) rfl fun qo65 co65=>(Ji ?_);exact hK qo65 co65 zq2 zc2 zb zv
    ·
     intro gh gh' h;refine ⟨?_,?_⟩ <;> (first | simp only [h 13 rfl] | rfl)
    apply JZ 16 rfl
    iterate 3 focus (intros;(conv=>lhs;simp only [Jh,Jr,JM,Jt,JH,eq_self,reduceEqDiff,reduceIte,reduceSub,reduceAdd,JxA,JxB]);all_goals rfl)
    ·
     intro gh X K zq zc zq2 zc2 zb zv hK;refine EA u31 ze22 sz22 by22 rfl rfl rfl rfl (by omega) (.s .z) At.z (fun _ _=>At.z) rfl fun qo66 co66=>(Jw .z (Jw (.s .z) (Ji ?_)));exact hK qo66 co66 zq2 zc2 zb zv
    ·
     intro gh gh' h;refine ⟨?_,?_⟩ <;> (first | simp only [h 13 rfl,h 14 rfl] | rfl)
    apply Jl 17 rfl
    iterate 3 focus (intros;(conv=>lhs;simp only [Jh,Jr,JM,Jt,JH,eq_self,reduceEqDiff,reduceIte,reduceSub,reduceAdd,JxA,JxB]);all_goals rfl)
    ·
     intro gh X K zq zc zq2 zc2 zb zv hK;refine Jg (Jd rfl) rfl (Ji ?_);exact hK zq zc zq2 zc2 zb zv
    ·
     intro gh gh' h
     first | simp only [h 13 rfl,h 14 rfl,h 15 rfl] | rfl
    apply Ei [0,1,2,3,4,5,6,7,8,9,10,11,12,13,14,15,16] [0,1,2,3,4,5,6,7,8,9,10,11,12,13,14,15,16] foll0 rfl rfl rfl (by rfl)
    iterate 2 focus (intros;(conv=>lhs;simp only [Jh,Jr,JM,Jt,JH,eq_self,reduceEqDiff,reduceIte,reduceSub,reduceAdd,JxA,JxB]);all_goals rfl)
    intro gh;generalize (gh 13).c=co64;generalize (gh 13).q=qo64;generalize (gh 14).c=co65;generalize (gh 14).q=qo65;generalize (gh 15).c=co66;generalize (gh 15).q=qo66;clear gh;refine EF .z fun Ho64 hleo64 hAo64=>?_;replace hrs:=hrs.le hleo64;replace hrow:=hrow.le hleo64;replace hI11:=hI11.le hleo64;replace hxo28:=hxo28.le hleo64;replace hxu:=hxu.le hleo64;replace hS:=hS.le hleo64;replace hT:=hT.le hleo64;replace Fe55:=Fe55.le hleo64;replace Fe60:=Fe60.le hleo64;have hxo64:=own_ints hAo64;have hco64:=own_le hAo64
    have hxv:Ints Ho64 qo64 (oneBy (rw_ rs i) (unitS (byS row rs))):=by
     unfold oneBy;rw [hul];exact hxo64
    have hT3:=hT.snoc hxv (by unfold oneBy;rw [lessS_len,lessS_len]) hco64;refine JD (Ja (hK13 (Jb (Jg (Jc rfl) rfl (Jg (Jz rfl rfl (by first | exact nw _ (by omega) | rfl)) rfl (Jg (Jd rfl) rfl (Jf (Ja (JN .z ?_)))))))));exact hAg0 (Ho64,qo66,co66,_,i+1) ⟨(hlk.trans hleo64),by rw [goK_succ hik];exact hT3,by omega⟩ (by show rs.length - (i+1)<rs.length - i;omega) 29 rfl rfl ⟨rfl,⟨(by rw [goK_succ hik];unfold stP;rw [List.length_append];rfl),⟨(by rw [goK_succ hik];rfl),trivial⟩⟩⟩ rfl (by dsimp only;rw [goK_succ hik];unfold stP;rw [List.length_append];rfl)
  ·
   refine JG (Jj (Jj (JL (Ja (hK9 (Je fun _ hK16 _=>(Je fun _ hK17 _=>(Jb (Jg (Jc rfl) rfl (Jg (En rfl) rfl (Jf (Ja (hK17 (Eh rfl (fun h68=>?_) (fun h68=>?_)))))))))))))))
   ·
    have hgl:=goK_len (unitS (byS row rs)) rs i;refine Jb (Jg (Jc rfl) rfl (Jg (Jc rfl) rfl (EL (EB u31 ze22 sz22 rfl rfl) rfl fun qo71 co71=>(EA u31 ze22 sz22 by22 rfl rfl rfl rfl (by omega) .z At.z (fun _ _=>At.z) rfl fun qo72 co72=>?_))));have hS3:=hS.snoc hxu rfl hcu;refine Jg (Jd rfl) rfl (Jf (Ja (hK16 (Je fun _ hK18 _=>(Jb (Jg (Jc rfl) rfl (Ew (.s .z) fun Ho29 hleo29 hAo29=>?_)))))));replace hrs:=hrs.le hleo29;replace hrow:=hrow.le hleo29;replace hI11:=hI11.le hleo29;replace hxo28:=hxo28.le hleo29;replace hxu:=hxu.le hleo29;replace hS:=hS.le hleo29;replace hS3:=hS3.le hleo29;have hxo29:=hS3.rows (Le.refl _) hAo29;have hco29:=own_le hAo29;refine Jg (Jd rfl) rfl (Jf (Ja (hK18 (Ju (Jq rfl (Res.tmp rfl) fun w hH=>?_)))));replace hH:=hH.tail;rw [put_yes hlt,← goK_no (i:=i) (by omega) (not_f h68)];exact ⟨_,_,_,(((hlf11.trans hleo28).trans hlk).trans hleo29),hxo29,by rw [List.length_append];exact hco29,by rw [List.length_append];rfl,hH⟩
   ·
    refine Jm (Ja (hK16 (Je fun _ hK19 _=>(Jb (Jg (Jc rfl) rfl (Ew .z fun Ho29 hleo29 hAo29=>?_))))));replace hrs:=hrs.le hleo29;replace hrow:=hrow.le hleo29;replace hI11:=hI11.le hleo29;replace hxo28:=hxo28.le hleo29;replace hxu:=hxu.le hleo29;replace hS:=hS.le hleo29;have hxo29:=hS.rows (Le.refl _) hAo29;have hco29:=own_le hAo29;refine Jg (Jd rfl) rfl (Jf (Ja (hK19 (Ju (Jq rfl (Res.tmp rfl) fun w hH=>?_)))));rw [put_yes hlt,← goK_yes (i:=i) (by omega) (not_t h68)];exact ⟨_,_,_,(((hlf11.trans hleo28).trans hlk).trans hleo29),hxo29,hco29,rfl,hH⟩
theorem fn119:Fn Tryz.prog 119:=⟨_,Tryz.func119,by kernel_rfl,rfl⟩
theorem fn49:Fn Tryz.prog 49:=⟨_,Tryz.func49,by kernel_rfl,rfl⟩
theorem redS_take {rs:List (List Int)} {k:Nat} (hk:k<rs.length):redS (rs.take (k+1))=putS (redS (rs.take k)) (rw_ rs k):=by
 unfold redS;rw [rw_take hk,List.foldl_append]
 rfl
theorem take_ok {W:Nat} {rs:List (List Int)} (h : ∀r∈rs,RowOk W r) (k:Nat) : ∀r∈rs.take k,RowOk W r:=fun r hr=>h r (List.mem_of_mem_take hr)
theorem uni_eq {row:List Int} {W n k:Nat} (hr:row.length=W):((([]++row)++List.replicate n 0):List Int).set (W+k) 1=row++uniR n k:=by
 unfold uniR;subst hr;rw [JxB,List.set_append,if_neg (by omega),Nat.add_sub_cancel_left]
theorem fzK_ylen {R:List (List Int)} {W m:Nat} (hm:m<R.length) (h:zR ((rw_ R m).take W)=true):(fzK R W (m+1)).length=(fzK R W m).length+1:=by
 rw [fzK_yes hm h,List.length_append]
 rfl
theorem zR_take {W:Nat} {r:List Int} (hl:ldR r<r.length) (hW:W≤r.length):zR (r.take W)=decide (W≤ldR r):=by
 unfold zR;refine decide_eq_decide.2 ⟨fun h=>?_,fun h hh=>?_⟩
 ·refine Classical.byContradiction fun hc=>h ?_
  have hlt:ldR r<W:=by omega
  have e:(r.take W).getD (ldR r) 0=r.getD (ldR r) 0:=by rw [List.getD_eq_getElem?_getD,List.getD_eq_getElem?_getD,List.getElem?_take,if_pos hlt]
  have:ldR (r.take W)=ldR r:=ldR_of (fun j hj=>by rw [List.getD_eq_getElem?_getD,List.getElem?_take,if_pos (by omega),← List.getD_eq_getElem?_getD];exact ldR_lt hj) (by rw [e];exact ldR_ne hl);rw [this,List.length_take]
  omega
 ·have h1:=ldR_ne hh;have h2:=hh;rw [List.length_take] at h2;rw [List.getD_eq_getElem?_getD,List.getElem?_take,if_pos (by omega),← List.getD_eq_getElem?_getD,ldR_lt (by omega)] at h1;exact h1 rfl
theorem l03Reduce_c {B:World} {H0 H:HP} {L:List SA} {w:World} {qrs:Option Addr} {crs:Nat} {rs:List (List Int)} {W:Nat} (hrs:RowsR H qrs rs) (hW : ∀r∈rs,RowOk W r) (hn:rs.length≤1000000) (hWn:W≤100000) (hH:Hp B H0 H L w):Calls Tryz.prog 119 [.slice qrs rs.length crs].toArray w fun e w'=>∃H' q c,Le H H' ∧RowsR H' q (redS rs)∧(redS rs).length≤c∧e = .returned (.slice q (redS rs).length c)∧Hp B H0 H' L w':=by
 refine Jx Tryz.func119 rfl 19 rfl rfl [(0,.slice qrs rs.length crs)] rfl hH ?_;have hw0:=hH.old;have hw1:=hH.le;clear hH;refine Je fun _ hK1 _=>(Jb (Jg (Jd rfl) rfl (Jf (Ja (hK1 (Je fun _ hK2 _=>(Jb (EL (EP u31 sz22) rfl fun qo5 co5=>(Jg (Jd rfl) rfl ?_)))))))));have hnil:=SlF.nil H;refine Ew .z fun Ho5 hleo5 hAo5=>?_;replace hrs:=hrs.le hleo5;replace hnil:=hnil.le hleo5;have hxo5:=hnil.rows (Le.refl _) hAo5;have hco5:=own_le hAo5;refine Jf (Ja (hK2 (Je fun _ hK3 _=>(Je fun _ hK4 _=>(Jb (Jg (Jd rfl) rfl (Jf (Ja (hK4 (Jk (JC (σ:=HP × Option Addr × Nat × Nat) (fun ⟨Hk,q,c,k⟩=>[(4,.int .i64 (k:Int)),(3,.slice q (redS (rs.take k)).length c)]) (fun ⟨Hk,q,c,k⟩=>Hk) (fun ⟨Hk,q,c,k⟩=>L) (fun ⟨Hk,q,c,k⟩=>Le Ho5 Hk∧RowsR Hk q (redS (rs.take k))∧(redS (rs.take k)).length≤c∧k≤rs.length) (fun ⟨Hk,q,c,k⟩=>rs.length - k) (Ho5,qo5,co5,0) ⟨Le.refl _,hxo5,hco5,by omega⟩ ⟨rfl,⟨rfl,trivial⟩⟩ rfl rfl ?_)))))))))));rintro ⟨Hk,q,c,k⟩ ⟨hlk,hS,hSc,hk⟩ _ hAg0;replace hrs:=hrs.le hlk;replace hnil:=hnil.le hlk;replace hxo5:=hxo5.le hlk;have hRk:=(redS_ok (take_ok hW k)).1;refine Je fun _ hK5 _=>(Je fun _ hK6 _=>(Jb (Jg (Jc rfl) rfl (Jg (Jc rfl) rfl (Jg (Jn u31 rfl rfl) rfl (Jg (JO rfl rfl) rfl (Jf (Ja (hK6 (Jo rfl (fun h9=>?_) (fun h9=>?_)))))))))))
 ·
  have hk1:k<rs.length:=by omega
  have hrk:=hW _ (rw_mem hk1);refine Jm (Ja (hK5 (Je fun _ hK7 _=>(Jk (Jb (Jg (Jc rfl) rfl (Jg (Jc rfl) rfl (Jg (Jc rfl) rfl (Jg (JQ u31 sz22 rfl rfl rfl hk1 hrs.sm) rfl ?_)))))))));obtain ⟨qe16,ce16,he16,le16,Fe16⟩:=hrs k hk1;refine Jg (JF rfl he16 pl22) rfl (Jy fn49 rfl rfl fun w hH=>(l03Put_c hS Fe16 hRk hrk (by omega) le16 hSc hH).mono ?_);rintro _ w ⟨Hf17,qf17,cf17,hlf17,hI17,hcc17,rfl,hH⟩;refine ⟨_,rfl,fun a hF=>JR hF hH ?_⟩;replace hrs:=hrs.le hlf17;replace hnil:=hnil.le hlf17;replace hxo5:=hxo5.le hlf17;replace hS:=hS.le hlf17;replace Fe16:=Fe16.le hlf17;refine Jg (Jd rfl) rfl (Jf (JD (Ja (hK7 (Jb (Jg (Jc rfl) rfl (Jg (Jz rfl rfl (by first | exact nw _ (by omega) | rfl)) rfl (Jg (Jd rfl) rfl (Jf (Ja ?_))))))))));exact hAg0 (Hf17,qf17,cf17,k+1) ⟨(hlk.trans hlf17),by rw [redS_take hk1];exact hI17,by rw [redS_take hk1];exact hcc17,by omega⟩ (by show rs.length - (k+1)<rs.length - k;omega) 16 rfl rfl ⟨rfl,⟨(by rw [redS_take hk1];rfl),trivial⟩⟩ rfl rfl
 ·
  refine JG (Jj (Jj (JL (Ja (hK3 (Je fun _ hK8 _=>(Jb (Jg (Jc rfl) rfl (Jg (Jd rfl) rfl (Jf (Ja (hK8 (Ju (Jq rfl (Res.tmp rfl) fun w hH=>?_))))))))))))))
  obtain rfl:k=rs.length:=by omega
  rw [List.take_length] at hS hSc ⊢;exact ⟨_,_,_,(hleo5.trans hlk),hS,hSc,rfl,hH⟩
theorem l03Kernel_c {B:World} {H0 H:HP} {L:List SA} {w:World} {qrs:Option Addr} {crs:Nat} {rs:List (List Int)} {W:Nat} (hrs:RowsR H qrs rs) (hW : ∀r∈rs,RowOk W r) (hn:rs.length+W≤100000) (hH:Hp B H0 H L w):Calls Tryz.prog 142 [.slice qrs rs.length crs,.int .i64 (W:Int)].toArray w fun e w'=>∃H' q c,Le H H' ∧RowsR H' q (kerS rs W)∧(kerS rs W).length≤c∧e = .returned (.slice q (kerS rs W).length c)∧Hp B H0 H' L w':=by
 refine Jx Tryz.func142 rfl 65 rfl rfl [(0,.slice qrs rs.length crs),(1,.int .i64 (W:Int))] rfl hH ?_;have hw0:=hH.old;have hw1:=hH.le;clear hH;refine Je fun _ hK1 _=>(Jb (Jg (Jd rfl) rfl (Jf (Ja (hK1 (Je fun _ hK2 _=>(Jb (Jg (Jc rfl) rfl (Jg (Jn u31 rfl rfl) rfl (Jg (Jd rfl) rfl (Jf (Ja (hK2 (Je fun _ hK3 _=>(Jb (EL (EP u31 sz22) rfl fun qo13 co13=>?_))))))))))))))));refine Jg (Jd rfl) rfl (Jf (Ja (hK3 (Je fun _ hK4 _=>(Je fun _ hK5 _=>(Jb (Jg (Jd rfl) rfl (Jf (Ja (hK5 (Jk (JC (σ:=HP × Option Addr × Nat × List Value × Nat) (fun ⟨Hk,q,c,vals,k⟩=>[(7,.int .i64 (k:Int)),(6,.slice q k c)]) (fun ⟨Hk,q,c,vals,k⟩=>Hk) (fun ⟨Hk,q,c,vals,k⟩=>own 22 1 q k c vals::L) (fun ⟨Hk,q,c,vals,k⟩=>Le H Hk∧SlF Hk vals (wdK rs rs.length k)∧k≤rs.length) (fun ⟨Hk,q,c,vals,k⟩=>rs.length - k) (H,qo13,co13, [],0) ⟨Le.refl _,SlF.nil _,by omega⟩ ⟨rfl,⟨rfl,trivial⟩⟩ rfl rfl ?_))))))))))));rintro ⟨Hk,q,c,vals,k⟩ ⟨hlk,hS,hk⟩ _ hAg0;replace hrs:=hrs.le hlk;refine Je fun _ hK6 _=>(Je fun _ hK7 _=>(Jb (Jg (Jc rfl) rfl (Jg (Jc rfl) rfl (Jg (JO rfl rfl) rfl (Jf (Ja (hK7 (Jo rfl (fun h16=>?_) (fun h16=>?_))))))))))
 ·
  have hk1:k<rs.length:=by omega
  have hrk:=(hW _ (rw_mem hk1)).len;refine Jm (Ja (hK6 (Je fun _ hK8 _=>(Jk (Je fun _ hK9 _=>(Jb (EL (MK.lit0I u22 sz2) rfl fun qo19 co19=>(Jg (Jc rfl) rfl (Jg (Jc rfl) rfl (Jg (JQ u31 sz22 rfl rfl rfl hk1 hrs.sm) rfl ?_))))))))));obtain ⟨qe23,ce23,he23,le23,Fe23⟩:=hrs k hk1;refine Jg (JF rfl he23 pl22) rfl (J.appendHI u22 ze2 sz2 by2 rfl rfl Fe23 (by simp only [List.length_nil];omega) At.z (fun _ _=>At.z) rfl fun qo24 co24=>(Jg (Jc rfl) rfl (J.appendZ (m:=rs.length) u22 u3 ze2 sz2 by2 rfl rfl rfl rfl (by omega) (by simp only [List.length_append,List.length_nil];omega) At.z (fun _ _=>At.z) rfl fun qo26 co26=>(Jg (Jd rfl) rfl (Jf (Ja (hK9 (Je fun _ hK10 _=>(Jb (Jg (Jc rfl) rfl (Jg (Jc rfl) rfl (Jg (Jc rfl) rfl (Jg (Jz rfl rfl (by first | exact nw _ (by omega) | rfl)) rfl (Jg (Eu (i':=W+k) u22 sz2 rfl rfl (by omega) (by simp;omega) At.z) rfl (J.storeWI rfl rfl sz2 (by simp;omega) At.z ?_)))))))))))))));rw [uni_eq hrk];refine Ew .z fun Ho19 hleo19 hAo19=>?_;replace hrs:=hrs.le hleo19;replace hS:=hS.le hleo19;replace Fe23:=Fe23.le hleo19;have hxo19:=own_ints hAo19;have hco19:=own_le hAo19;refine Jf (Ja (hK10 (Jb (Jg (Jc rfl) rfl (Jg (EK (v':=.slice qo26 (rw_ rs k++uniR rs.length k).length co26) (by simp) (Jc rfl)) rfl (EL (EB u31 ze22 sz22 rfl rfl) rfl fun qo34 co34=>(EA u31 ze22 sz22 by22 rfl rfl rfl rfl (by omega) .z At.z (fun _ _=>At.z) rfl fun qo35 co35=>?_)))))));have hS2:=hS.snoc hxo19 rfl (by simpa using hco19);refine Jg (Jd rfl) rfl (Jf (JD (Ja (hK8 (Jb (Jg (Jc rfl) rfl (Jg (Jz rfl rfl (by first | exact nw _ (by omega) | rfl)) rfl (Jg (Jd rfl) rfl (Jf (Ja (JN .z ?_)))))))))));exact hAg0 (Ho19,qo35,co35,_,k+1) ⟨(hlk.trans hleo19),by rw [wdK_succ];exact hS2,by omega⟩ (by show rs.length - (k+1)<rs.length - k;omega) 27 rfl rfl ⟨rfl,⟨rfl,trivial⟩⟩ rfl rfl
 ·
  refine JG (Jj (Jj (JL (Ja (hK4 (Je fun _ hK11 _=>(Jb (Jg (EK (v':=.slice q (wdS rs rs.length).length c) (by rw [show (wdS rs rs.length).length=rs.length from wdK_len _ _ _,show k=rs.length by omega]) (Jc rfl)) rfl ?_))))))))
  obtain rfl:k=rs.length:=by omega
  refine Ew .z fun Ho13 hleo13 hAo13=>?_;replace hrs:=hrs.le hleo13;replace hS:=hS.le hleo13;have hxo13:=hS.rows (Le.refl _) hAo13;have hco13:=own_le hAo13;rw [show wdK rs rs.length rs.length=wdS rs rs.length from rfl] at hxo13;refine Jy fn119 rfl rfl fun w hH=>(l03Reduce_c (W:=W+rs.length) hxo13 (wdS_ok hW) (by rw [show (wdS rs rs.length).length=rs.length from wdK_len _ _ _];omega) (by omega) hH).mono ?_;rintro _ w ⟨Hf37,qf37,cf37,hlf37,hI37,hcc37,rfl,hH⟩;refine ⟨_,rfl,fun a hF=>JR hF hH ?_⟩;replace hrs:=hrs.le hlf37;replace hS:=hS.le hlf37;replace hxo13:=hxo13.le hlf37;have hRR:=(redS_ok (wdS_ok (n:=rs.length) hW)).1;have hRc:=hRR.count;refine Jg (Jd rfl) rfl (Jf (Ja (hK11 (Je fun _ hK12 _=>(Jb (EL (EP u31 sz22) rfl fun qo38 co38=>(Jg (Jd rfl) rfl (Jf (Ja (hK12 (Je fun _ hK13 _=>(Je fun _ hK14 _=>(Jb (Jg (Jd rfl) rfl (Jf (Ja (hK14 ?_)))))))))))))))));refine Jk (JC (σ:=HP × Option Addr × Nat × List Value × Nat) (fun ⟨Hm,q2,c2,vals2,m⟩=>[(10,.int .i64 (m:Int)),(9,.slice q2 (fzK (redS (wdS rs rs.length)) W m).length c2)]) (fun ⟨Hm,q2,c2,vals2,m⟩=>Hm) (fun ⟨Hm,q2,c2,vals2,m⟩=>own 22 1 q2 (fzK (redS (wdS rs rs.length)) W m).length c2 vals2::L) (fun ⟨Hm,q2,c2,vals2,m⟩=>Le Hf37 Hm∧SlF Hm vals2 (fzK (redS (wdS rs rs.length)) W m)∧m≤(redS (wdS rs rs.length)).length) (fun ⟨Hm,q2,c2,vals2,m⟩=>(redS (wdS rs rs.length)).length - m) (Hf37,qo38,co38, [],0) ⟨Le.refl _,SlF.nil _,by omega⟩ ⟨rfl,⟨rfl,trivial⟩⟩ rfl rfl ?_);rintro ⟨Hm,q2,c2,vals2,m⟩ ⟨hlm,hT,hm⟩ _ hAg1;replace hrs:=hrs.le hlm;replace hS:=hS.le hlm;replace hxo13:=hxo13.le hlm;replace hI37:=hI37.le hlm;refine Je fun _ hK15 _=>(Je fun _ hK16 _=>(Jb (Jg (Jc rfl) rfl (Jg (Jc rfl) rfl (Jg (Jn u31 rfl rfl) rfl (Jg (JO rfl rfl) rfl (Jf (Ja (hK16 (Jo rfl (fun h42=>?_) (fun h42=>?_)))))))))))
  ·
   have hm1:m<(redS (wdS rs rs.length)).length:=by omega
   have hrm:=hRR.led _ (rw_mem hm1);have hrl:=hrm.1.len;have hfl:=fzK_len (redS (wdS rs rs.length)) W m;have hld:=idxOf_ld (r:=rw_ (redS (wdS rs rs.length)) m) (by omega);have hzt:=zR_take (W:=W) (r:=rw_ (redS (wdS rs rs.length)) m) (by omega) (by omega);refine Jm (Ja (hK15 (Je fun _ hK17 _=>(Jk (Je fun _ hK18 _=>(Jb (Jg (Jc rfl) rfl (Jg (Jc rfl) rfl (Jg (JQ u31 sz22 rfl rfl rfl hm1 hI37.sm) rfl ?_)))))))));obtain ⟨qe48,ce48,he48,le48,Fe48⟩:=hI37 m hm1;refine Jg (JF rfl he48 pl22) rfl (Jy fn96 rfl rfl fun w hH=>(l03First_c Fe48 (by omega) hH).mono ?_);rintro _ w ⟨rfl,hH⟩;refine ⟨_,rfl,fun a hF=>JR hF hH ?_⟩;refine Jg (Jc rfl) rfl (Jg (PR.geq rfl rfl) rfl (Jf (Ja (hK18 (Jo rfl (fun h51=>?_) (fun h51=>?_))))))
   ·
    have hzy:zR ((rw_ (redS (wdS rs rs.length)) m).take W)=true:=by rw [hzt];exact decide_eq_true (by omega)
    refine Jb (Jg (Jc rfl) rfl (EL (MK.lit0I u22 sz2) rfl fun qo53 co53=>(Jg (Jc rfl) rfl (Jg (Jc rfl) rfl (Jg (JQ u31 sz22 rfl rfl rfl hm1 hI37.sm) rfl ?_)))));obtain ⟨qe57,ce57,he57,le57,Fe57⟩:=hI37 m hm1;refine Jg (JF rfl he57 pl22) rfl (Jg (Jc rfl) rfl (Jg (EK (v':=.slice (qe57.map fun a=>a.add W) ((rw_ (redS (wdS rs rs.length)) m).drop W).length (ce57 - W)) (by rw [List.length_drop]) (PR.sliceLH (i':=W) u22 sz2 rfl (Fe57.sm (i:=0) (by omega)) rfl rfl (by omega) (by omega))) rfl (J.appendHI u22 ze2 sz2 by2 rfl rfl (ints_drop Fe57 W) (by simp;omega) At.z (fun _ _=>At.z) rfl fun qo60 co60=>(Ew .z fun Ho53 hleo53 hAo53=>?_))));replace hrs:=hrs.le hleo53;replace hS:=hS.le hleo53;replace hxo13:=hxo13.le hleo53;replace hI37:=hI37.le hleo53;replace hT:=hT.le hleo53;replace Fe48:=Fe48.le hleo53;replace Fe57:=Fe57.le hleo53;have hxo53:=own_ints hAo53;have hco53:=own_le hAo53;refine EL (EB u31 ze22 sz22 rfl rfl) rfl fun qo61 co61=>(EA u31 ze22 sz22 by22 rfl rfl rfl rfl (by omega) .z At.z (fun _ _=>At.z) rfl fun qo62 co62=>?_);have hT3:=hT.snoc hxo53 rfl hco53;refine Jg (Jd rfl) rfl (Jf (JD (Ja (hK17 (Jb (Jg (Jc rfl) rfl (Jg (Jz rfl rfl (by first | exact nw _ (by omega) | rfl)) rfl (Jg (Jd rfl) rfl (Jf (Ja (JN .z ?_)))))))))));exact hAg1 (Ho53,qo62,co62,_,m+1) ⟨(hlm.trans hleo53),by rw [fzK_yes hm1 hzy];exact hT3,by omega⟩ (by show (redS (wdS rs rs.length)).length - (m+1)<(redS (wdS rs rs.length)).length - m;omega) 28 rfl rfl ⟨rfl,⟨(by rw [fzK_ylen hm1 hzy];rfl),trivial⟩⟩ rfl (by dsimp only;rw [fzK_ylen hm1 hzy])
   ·
    have hzn:zR ((rw_ (redS (wdS rs rs.length)) m).take W)=false:=by rw [hzt];exact decide_eq_false (by omega)
    refine Jm (JD (Ja (hK17 (Jb (Jg (Jc rfl) rfl (Jg (Jz rfl rfl (by first | exact nw _ (by omega) | rfl)) rfl (Jg (Jd rfl) rfl (Jf (Ja ?_)))))))));exact hAg1 (Hm,q2,c2,vals2,m+1) ⟨hlm,by rw [fzK_no hm1 hzn];exact hT,by omega⟩ (by show (redS (wdS rs rs.length)).length - (m+1)<(redS (wdS rs rs.length)).length - m;omega) 16 rfl rfl ⟨rfl,⟨(by rw [fzK_no hm1 hzn];rfl),trivial⟩⟩ rfl (by dsimp only;rw [fzK_no hm1 hzn])
  ·
   refine JG (Jj (Jj (JL (Ja (hK13 (Je fun _ hK19 _=>(Jb (Jg (EK (v':=.slice q2 (fzS (redS (wdS rs rs.length)) W).length c2) (by rw [← fzK_end,show m=(redS (wdS rs rs.length)).length by omega]) (Jc rfl)) rfl ?_))))))))
   have hT4:SlF Hm vals2 (fzS (redS (wdS rs rs.length)) W):=by
    rw [show m=(redS (wdS rs rs.length)).length by omega,fzK_end] at hT;exact hT
   have hfn:=fzK_len (redS (wdS rs rs.length)) W (redS (wdS rs rs.length)).length;rw [fzK_end] at hfn;refine Ew .z fun Ho38 hleo38 hAo38=>?_;replace hrs:=hrs.le hleo38;replace hS:=hS.le hleo38;replace hxo13:=hxo13.le hleo38;replace hI37:=hI37.le hleo38;replace hT:=hT.le hleo38;replace hT4:=hT4.le hleo38;have hxo38:=hT4.rows (Le.refl _) hAo38;have hco38:=own_le hAo38;refine Jy fn119 rfl rfl fun w hH=>(l03Reduce_c (W:=rs.length) hxo38 (fzS_ok hRR.row) (by omega) (by omega) hH).mono ?_;rintro _ w ⟨Hf64,qf64,cf64,hlf64,hI64,hcc64,rfl,hH⟩;refine ⟨_,rfl,fun a hF=>JR hF hH ?_⟩;replace hrs:=hrs.le hlf64;replace hS:=hS.le hlf64;replace hxo13:=hxo13.le hlf64;replace hI37:=hI37.le hlf64;replace hT:=hT.le hlf64;replace hT4:=hT4.le hlf64;replace hxo38:=hxo38.le hlf64;refine Jg (Jd rfl) rfl (Jf (Ja (hK19 (Ju (Jq rfl (Res.tmp rfl) fun w hH=>?_)))));exact ⟨_,_,_,(((((hlk.trans hleo13).trans hlf37).trans hlm).trans hleo38).trans hlf64),hI64,hcc64,rfl,hH⟩
theorem eg105:Tryz.prog.eqGuardType Tryz.prog.depth 105=false:=by kernel_rfl
def vec:List Term→List Pw→List Int
 | _, []=>[]
 | [],_::ps=>0::vec [] ps
 | t::ts,p::ps=>if t.mono=p then t.fac::vec ts ps else 0::vec (t::ts) ps
theorem vec_nil : ∀ps:List Pw,vec [] ps=List.replicate ps.length 0
 | []=>rfl
 | p::ps=>by rw [vec,vec_nil ps];rfl
theorem vec_end (f:List Term):vec f []=[]:=by cases f <;> rfl
theorem tm_drop {f:List Term} {j:Nat} (hj:j<f.length):f.drop j=tm f j::f.drop (j+1):=by
 rw [List.drop_eq_getElem_cons hj]
 simp [tm,List.getD_eq_getElem?_getD,List.getElem?_eq_getElem hj]
theorem rw_drop1 {ps:List Pw} {k:Nat} (hk:k<ps.length):ps.drop k=rw_ ps k::ps.drop (k+1):=by
 rw [List.drop_eq_getElem_cons hk]
 simp [rw_,List.getD_eq_getElem?_getD,List.getElem?_eq_getElem hk]
theorem vec_yes {f:List Term} {ps:List Pw} {j k:Nat} (hj:j<f.length) (hk:k<ps.length) (h:(tm f j).mono=rw_ ps k):vec (f.drop j) (ps.drop k)=(tm f j).fac::vec (f.drop (j+1)) (ps.drop (k+1)):=by
 rw [tm_drop hj,rw_drop1 hk,vec,if_pos h]
theorem vec_no {f:List Term} {ps:List Pw} {j k:Nat} (hj:j<f.length) (hk:k<ps.length) (h : ¬(tm f j).mono=rw_ ps k):vec (f.drop j) (ps.drop k)=0::vec (f.drop j) (ps.drop (k+1)):=by
 rw [tm_drop hj,rw_drop1 hk,vec,if_neg h]
theorem vec_out1 {f:List Term} {ps:List Pw} {A:List Int} {j k:Nat} (h:A++vec (f.drop j) (ps.drop k)=vec f ps) (hk : ¬k<ps.length):A++List.replicate (ps.length - k) 0=vec f ps:=by
 rw [← h,List.drop_of_length_le (show ps.length≤k by omega),vec_end,show ps.length - k=0 by omega]
 rfl
theorem vec_out2 {f:List Term} {ps:List Pw} {A:List Int} {j k:Nat} (h:A++vec (f.drop j) (ps.drop k)=vec f ps) (hj : ¬j<f.length):A++List.replicate (ps.length - k) 0=vec f ps:=by
 rw [← h,List.drop_of_length_le (show f.length≤j by omega),vec_nil,List.length_drop]
theorem rep_set {A:List Int} {n k:Nat} {v:Int} (hA:A.length=k) (hk:k<n):(A++List.replicate (n - k) 0).set k v=(A++[v])++List.replicate (n - (k+1)) 0:=by
 subst hA;rw [List.set_append,if_neg (by omega),Nat.sub_self,show n - A.length=(n - (A.length+1))+1 by omega,List.replicate_succ]
 simp
theorem rep_one {A:List Int} {n k:Nat} (hk:k<n):A++List.replicate (n - k) 0=(A++[0])++List.replicate (n - (k+1)) 0:=by
 rw [show n - k=(n - (k+1))+1 by omega,List.replicate_succ]
 simp
theorem vec_len : ∀(f:List Term) (ps:List Pw),(vec f ps).length=ps.length
 | f, []=>by rw [vec_end];rfl
 | [],p::ps=>by rw [vec_nil];simp
 | t::ts,p::ps=>by
  rw [vec]
  split
  ·simp [vec_len ts ps]
  ·simp [vec_len (t::ts) ps]
theorem vec_cf : ∀{ps:List Pw} {f:List Term},(toS f).Pairwise (fun x y=>before x.1 y.1=true)→ps.Pairwise (fun p q=>before p q=true)→(∀x∈toS f,x.1∈ps)→vec f ps=ps.map (cf (toS f))
 | [],f,_,_,_=>by rw [vec_end];rfl
 | p::ps, [],_,_,_=>by
  rw [vec_nil]
  simp only [toS,List.map_nil,List.map_cons,List.length_cons,List.replicate_succ,cf]
  congr 1
  exact map_zero ps
 | p::ps,t::ts,hf,hp,hm=>by
  have hf':=List.pairwise_cons.1 (show ((t.mono,t.fac)::toS ts).Pairwise _ from hf)
  have hp':=List.pairwise_cons.1 hp
  rw [vec]
  by_cases e:t.mono=p
  ·rw [if_pos e,List.map_cons]
   have hts : ∀x∈toS ts,x.1∈ps:=fun x hx=>by
    rcases List.mem_cons.1 (hm x (by show x∈(t.mono,t.fac)::toS ts;exact List.mem_cons_of_mem _ hx)) with h | h
    ·have:=before_ne (hf'.1 x hx)
     exact absurd (e.trans h.symm) this
    ·exact h
   rw [vec_cf hf'.2 hp'.2 hts]
   congr 1
   ·show t.fac=cf ((t.mono,t.fac)::toS ts) p
    simp only [cf]
    rw [if_pos e]
   ·refine List.map_congr_left fun q hq=>?_
    show cf (toS ts) q=cf ((t.mono,t.fac)::toS ts) q
    simp only [cf]
    rw [if_neg (fun h=>before_ne (hp'.1 q hq) (e.symm.trans h))]
  ·rw [if_neg e,List.map_cons]
   have ht:t.mono∈ps:=by
    rcases List.mem_cons.1 (hm (t.mono,t.fac) (by show _∈(t.mono,t.fac)::toS ts;simp)) with h | h
    ·exact absurd h e
    ·exact h
   have hne : ∀x∈toS (t::ts),x.1≠p:=fun x hx hh=>by
    rcases List.mem_cons.1 (show x∈(t.mono,t.fac)::toS ts from hx) with rfl | hx
    ·exact e hh
    ·have h1:=hf'.1 x hx
     rw [hh] at h1
     have h2:=before_as (hp'.1 _ ht)
     rw [h1] at h2
     cases h2
   rw [cf_none hne,vec_cf hf hp'.2 fun x hx=>(List.mem_cons.1 (hm x hx)).resolve_left (hne x hx)]
def fmK (ps:List Pw) (row:List Int) (k:Nat):List Term:=((List.range k).filter fun i=>decide (row.getD i 0≠0)).map fun i=>⟨rw_ ps i,row.getD i 0⟩
def fmS (ps:List Pw) (row:List Int):List Term:=fmK ps row ps.length
theorem fmK_yes {ps:List Pw} {row:List Int} {k:Nat} (h:row.getD k 0≠0):fmK ps row (k+1)=fmK ps row k++[⟨rw_ ps k,row.getD k 0⟩]:=by
 unfold fmK;rw [List.range_succ,List.filter_append,List.map_append];simp only [List.filter_cons,decide_eq_true h,if_true,List.filter_nil,List.map_cons,List.map_nil]
theorem fmK_no {ps:List Pw} {row:List Int} {k:Nat} (h : ¬row.getD k 0≠0):fmK ps row (k+1)=fmK ps row k:=by
 unfold fmK;rw [List.range_succ,List.filter_append,List.map_append];simp only [List.filter_cons,decide_eq_false h,Bool.false_eq_true,if_false,List.filter_nil,List.map_nil,List.append_nil]
theorem fmK_len (ps:List Pw) (row:List Int) (k:Nat):(fmK ps row k).length≤k:=by
 unfold fmK;rw [List.length_map];exact Nat.le_trans (List.length_filter_le _ _) (by simp)
theorem fmK_wf {ps:List Pw} {row:List Int} (hp : ∀p∈ps,Mono p) (hr : ∀j,0≤row.getD j 0∧row.getD j 0≤10006) {k:Nat} (hk:k≤ps.length):Wfs (fmK ps row k):=fun t ht=>by
 obtain ⟨i,hi,rfl⟩:=List.mem_map.1 ht
 have hi':=List.mem_range.1 (List.mem_filter.1 hi).1
 have:=hr i
 exact Term.wf.of (hp _ (rw_mem (by omega))) (show _≤row.getD i 0∧row.getD i 0≤_ by omega)
theorem tot_filter : ∀(l:Sm) (p:Pw),tot_ (l.filter fun x=>decide (x.2≠0)) p=tot_ l p
 | [],_=>rfl
 | x::l,p=>by
  have ih:=tot_filter l p
  by_cases h:x.2≠0
  ·rw [List.filter_cons_of_pos (by simpa using h)]
   simp only [tot_]
   rw [ih]
  ·rw [List.filter_cons_of_neg (by simpa using h)]
   simp only [tot_]
   rw [ih]
   have h0:x.2=0:=Decidable.not_not.1 h
   rw [h0]
   split <;> omega
theorem acc_ord {M:Int} {l:Sm} (hs:l.Pairwise fun x y=>before x.1 y.1=true) (hk : ∀x∈l,Pok M x.1) (hv : ∀x∈l,0≤x.2∧x.2≤10006):acc [] l=l.filter fun x=>decide (x.2≠0):=by
 have h2:Sok M (l.filter fun x=>decide (x.2≠0)):=⟨hs.filter _,fun x hx=>hk x (List.mem_filter.1 hx).1,fun x hx=>by
  have h1:=List.mem_filter.1 hx;have h3:=hv x h1.1
  have h4:x.2≠0:=by simpa using h1.2
  omega⟩
 refine Sok.ext (Sok.nil.acc hk) h2 fun p=>?_;rw [cf_acc p Sok.nil hk,← acc_self h2,cf_acc p Sok.nil h2.key,tot_filter]
theorem rowK_srt {ps:List Pw} {row:List Int} (hp:ps.Pairwise fun p q=>before p q=true) {k:Nat} (hk:k≤ps.length):(rowK ps row k).Pairwise fun x y=>before x.1 y.1=true:=by
 unfold rowK;rw [List.pairwise_map];refine List.pairwise_lt_range.imp_of_mem fun {a b} ha hb hab=>?_;have ha':=List.mem_range.1 ha;have hb':=List.mem_range.1 hb;have h:=List.pairwise_iff_getElem.1 hp a b (by omega) (by omega) hab
 simpa [rw_,List.getD_eq_getElem?_getD,List.getElem?_eq_getElem (show a<ps.length by omega),List.getElem?_eq_getElem (show b<ps.length by omega)] using h
theorem fmS_sum {M:Int} {ps:List Pw} {row:List Int} (hp:ps.Pairwise fun p q=>before p q=true) (hk : ∀p∈ps,Pok M p) (hr : ∀j,0≤row.getD j 0∧row.getD j 0≤10006) (hl:row.length=ps.length):fmS ps row=ofS (sumR ps row):=by
 unfold sumR
 rw [acc_ord (rowK_srt hp (by omega)) (fun x hx=>by
  obtain ⟨i,hi,rfl⟩:=List.mem_map.1 hx
  exact hk _ (rw_mem (by have:=List.mem_range.1 hi;omega))) (fun x hx=>by
  obtain ⟨i,hi,rfl⟩:=List.mem_map.1 hx
  exact hr i)]
 unfold rowK fmS fmK ofS;rw [List.filter_map,List.map_map,hl]
 rfl
theorem l03Vector_c {B:World} {H0 H:HP} {L:List SA} {w:World} {qf:Option Addr} {cf:Nat} {f:List Term} {qps:Option Addr} {cps:Nat} {ps:List (List Int)} (hf:Terms H qf f) (hps:Monos H qps ps) (hn:ps.length≤1000000) (hfl:f.length≤1000000) (hpm : ∀p∈ps,Mono p) (hH:Hp B H0 H L w):Calls Tryz.prog 71 [.agg [.slice qf f.length cf].toArray,.slice qps ps.length cps].toArray w fun e w'=>∃q c,e = .returned (.slice q (vec f ps).length c)∧Hp B H0 H (own 2 1 q (vec f ps).length c (intsC (vec f ps))::L) w':=by
 refine Jx Tryz.func71 rfl 47 rfl rfl [(0,.agg [.slice qf f.length cf].toArray),(1,.slice qps ps.length cps)] rfl hH ?_;clear hH;refine Je fun _ hK1 _=>(Jb (Ee rfl rfl rfl fun g2=>(Jg (Jd rfl) rfl (Jf (Ja (hK1 (Je fun _ hK2 _=>(Jb (Jg (Jc rfl) rfl (Jg (Jn u135 rfl rfl) rfl (EL (MK.makeI (m:=ps.length) u22 ze2 sz2 by2 rfl rfl rfl rfl (by omega)) rfl fun qo10 co10=>(Jg (EK (v':=.slice qo10 ps.length co10) (by rw [List.length_replicate]) (Jd rfl)) rfl (Jg (Jd rfl) rfl (Jf (Ja (hK2 ?_))))))))))))))));refine Je fun _ hK3 _=>(Je fun _ hK4 _=>(Jb (Jg (Jd rfl) rfl (Jf (Ja (hK4 (Jk (JC (σ:=List Int × Nat × Nat) (fun ⟨A,k,j⟩=>[(7,.int .i64 (k:Int)),(6,.int .i64 (j:Int))]) (fun ⟨A,k,j⟩=>H) (fun ⟨A,k,j⟩=>own 2 1 qo10 ps.length co10 (intsC (A++List.replicate (ps.length - k) 0))::obj g2 (.cells [.slice qf f.length cf].toArray 40 (0,0))::L) (fun ⟨A,k,j⟩=>A.length=k∧k≤ps.length∧j≤f.length∧A++vec (f.drop j) (ps.drop k)=vec f ps) (fun ⟨A,k,j⟩=>ps.length - k) ([],0,0) ⟨rfl,by omega,by omega,rfl⟩ ⟨rfl,⟨rfl,trivial⟩⟩ rfl (by rw [List.length_replicate];rfl) ?_))))))));rintro ⟨A,k,j⟩ ⟨hA,hk,hj,hV⟩ _ hAg0;refine Je fun _ hK5 _=>(Je fun _ hK6 _=>(Jb (Jg (Jc rfl) rfl (Jg (Jc rfl) rfl (Jg (Jn u135 rfl rfl) rfl (Jg (JO rfl rfl) rfl (Jg (Jc rfl) rfl (Ek (jd:=15) rfl (fun hg15=>?_) (fun hg15=>?_)))))))))
 ·
  try have hg15p:=of_decide_eq_true hg15
  refine JX (Jc rfl) rfl rfl rfl hg15 (JX (Js u40 rfl sz38 rfl) rfl rfl rfl hg15 (JX (Jv rfl (.s .z) rfl pl38) rfl rfl rfl hg15 (JX (Jn u38 rfl rfl) rfl rfl rfl hg15 (JX (JO rfl rfl) rfl rfl rfl hg15 (Jg (Ea rfl hg15 rfl) rfl (Jf (Ja (hK6 (Jo rfl (fun h21=>?_) (fun h21=>?_))))))))))
  ·
   have hk1:k<ps.length:=by omega
   have hj1:j<f.length:=by omega
   refine Jm (Ja (hK5 (Je fun _ hK7 _=>(Jk (Je fun _ hK8 _=>(Et foll0 (by kernel_rfl) (JE (Js u40 rfl sz38 rfl) rfl (JE (Jv rfl (.s .z) rfl pl38) rfl (JE (Jc rfl) rfl (JE (El u38 sz107 rfl rfl rfl hj1 hf.sm) rfl (JE (EE u107 rfl sz105 rfl (hf.sm (i:=j) hj1)) rfl (JE (JP rfl (hf.mono hj1) (hf.sm (i:=j) hj1) (by rw [bytesC_length,(hf.wf _ hj1).mono.len];exact ag105)) rfl (JE (Jc rfl) rfl (JE (Jc rfl) rfl (JE (El u135 sz105 rfl rfl rfl hk1 hps.sm) rfl ?_)))))))))))))));refine JE (JP rfl (hps.cell _ hk1) (hps.sm (i:=k) hk1) (by rw [bytesC_length,hps.len _ hk1];exact ag105)) rfl (JE (PR.eqlM u105 u5 sz5 eg105 rfl rfl (hf.wf j hj1).mono.len (rw_all hpm hk1).len) rfl (Ef (Ja (hK8 (Jo rfl (fun h34=>?_) (fun h34=>?_))))))
   ·
    refine Je fun _ hK9 _=>(Jb (Jg (Jc rfl) rfl (Jg (Jc rfl) rfl (Jg (Js u40 rfl sz38 rfl) rfl (Jg (Jv rfl (.s .z) rfl pl38) rfl (Jg (Jc rfl) rfl (Jg (El u38 sz107 rfl rfl rfl hj1 hf.sm) rfl (Jg (EE u107 rfl sz2 rfl (hf.sm (i:=j) hj1)) rfl (Jg (JF rfl (hf.fac hj1) pl2) rfl (Jg (Eu u22 sz2 rfl rfl rfl hk1 At.z) rfl (J.storeWI rfl rfl sz2 hk1 At.z (Jf (Ja (hK9 (Jb ?_)))))))))))))));refine Jg (Jc rfl) rfl (Jg (Jz rfl rfl (by first | exact nw _ (by omega) | rfl)) rfl (Jg (Jd rfl) rfl (Jf (JD (Ja (hK7 (Jb (Jg (Jc rfl) rfl (Jg (Jz rfl rfl (by first | exact nw _ (by omega) | rfl)) rfl (Jg (Jd rfl) rfl (Jf (Ja ?_))))))))))));exact hAg0 (A++[(tm f j).fac],k+1,j+1) ⟨by simp [hA],by omega,by omega,by rw [← hV,vec_yes hj1 hk1 h34];simp⟩ (by show ps.length - (k+1)<ps.length - k;omega) 39 rfl rfl ⟨rfl,⟨rfl,trivial⟩⟩ rfl (by dsimp only;rw [rep_set hA hk1])
   ·
    refine Jm (JD (Ja (hK7 (Jb (Jg (Jc rfl) rfl (Jg (Jz rfl rfl (by first | exact nw _ (by omega) | rfl)) rfl (Jg (Jd rfl) rfl (Jf (Ja ?_)))))))));exact hAg0 (A++[0],k+1,j) ⟨by simp [hA],by omega,by omega,by rw [← hV,vec_no hj1 hk1 h34];simp⟩ (by show ps.length - (k+1)<ps.length - k;omega) 27 rfl rfl ⟨rfl,⟨rfl,trivial⟩⟩ rfl (by dsimp only;rw [rep_one hk1])
  ·
   refine JG (Jj (Jj (JL (Ja (hK3 (Je fun _ hK10 _=>(Jb (Jg (Jc rfl) rfl (Jg (Jd rfl) rfl (Jf (Ja (hK10 (Ju (Jq rfl (Res.tmp rfl) fun w hH=>?_))))))))))))));replace hH:=hH.sublist (.cons_cons _ (.cons _ (List.Sublist.refl _)));rw [vec_out2 hV (by omega)] at hH;exact ⟨_,_,by rw [vec_len],by rw [vec_len];exact hH⟩
 ·
  try have hg15p:=of_decide_eq_false hg15
  refine JW rfl rfl rfl hg15 (JW rfl rfl rfl hg15 (JW rfl rfl rfl hg15 (JW rfl rfl rfl hg15 (JW rfl rfl rfl hg15 (Jg (JY rfl hg15 rfl) rfl (Jf (Ja (hK6 (Eo rfl (JG (Jj (Jj (JL (Ja (hK3 (Je fun _ hK11 _=>?_))))))))))))))));refine Jb (Jg (Jc rfl) rfl (Jg (Jd rfl) rfl (Jf (Ja (hK11 (Ju (Jq rfl (Res.tmp rfl) fun w hH=>?_)))))));replace hH:=hH.sublist (.cons_cons _ (.cons _ (List.Sublist.refl _)));rw [vec_out1 hV (by omega)] at hH;exact ⟨_,_,by rw [vec_len],by rw [vec_len];exact hH⟩
theorem l03Form_c {B:World} {H0 H:HP} {L:List SA} {w:World} {qrow:Option Addr} {crow:Nat} {row:List Int} {qps:Option Addr} {cps:Nat} {ps:List (List Int)} (hrow:Ints H qrow row) (hps:Monos H qps ps) (hl:row.length=ps.length) (hn:ps.length≤1000000) (hpm : ∀p∈ps,Mono p) (hr : ∀j,0≤row.getD j 0∧row.getD j 0≤10006) (hH:Hp B H0 H L w):Calls Tryz.prog 116 [.slice qrow row.length crow,.slice qps ps.length cps].toArray w fun e w'=>∃q c,e = .returned (.agg [.slice q (fmS ps row).length c].toArray)∧Hp B H0 H (own 107 9 q (fmS ps row).length c (tsC (fmS ps row))::L) w':=by
 refine Jx Tryz.func116 rfl 34 rfl rfl [(0,.slice qrow row.length crow),(1,.slice qps ps.length cps)] rfl hH ?_;clear hH;have hw9 : ∀k,k≤ps.length→Wfs (fmK ps row k):=fun k hk=>fmK_wf hpm hr hk;refine Je fun _ hK1 _=>(Jb (JU ze40 rfl fun g4=>(Jf (Ja (hK1 (Je fun _ hK2 _=>(Jb (J.own0 107 9 (Jg (Ez bz40) rfl (JU ze40 rfl fun g5=>(JK rfl rfl (by first | exact bytesC_one _ | exact intsC_one _ | exact Term.c_one _ | simp [Value.oneCell']) (by simpa [*] using sz40) (by simp [*]) At.z (Jf (Ja (hK2 (Je fun _ hK3 _=>(Je fun _ hK4 _=>?_))))))))))))))));refine Jb (Jg (Jd rfl) rfl (Jf (Ja (hK4 (Jk (JC (σ:=Option Addr × Nat × Nat) (fun ⟨q,c,k⟩=>[(6,.int .i64 (k:Int))]) (fun ⟨q,c,k⟩=>H) (fun ⟨q,c,k⟩=>obj g5 (.cells [.slice q (fmK ps row k).length c].toArray 40 (0,0))::own 107 9 q (fmK ps row k).length c (tsC (fmK ps row k))::obj g4 (.cells [.slice none 0 0].toArray 40 (0,0))::L) (fun ⟨q,c,k⟩=>k≤ps.length) (fun ⟨q,c,k⟩=>ps.length - k) (none,0,0) (by show 0≤ps.length;omega) ⟨rfl,trivial⟩ rfl rfl ?_))))));rintro ⟨q,c,k⟩ hk _ hAg0;have wfO:=hw9 k hk;have hfl:=fmK_len ps row k;refine Je fun _ hK5 _=>(Je fun _ hK6 _=>(Jb (Jg (Jc rfl) rfl (Jg (Jc rfl) rfl (Jg (Jn u135 rfl rfl) rfl (Jg (JO rfl rfl) rfl (Jf (Ja (hK6 (Jo rfl (fun h11=>?_) (fun h11=>?_)))))))))))
 ·
  have hk1:k<ps.length:=by omega
  have hrk:=hr k;refine Jm (Ja (hK5 (Je fun _ hK7 _=>(Jk (Je fun _ hK8 _=>(Jb (Jg (Jc rfl) rfl (Jg (Jc rfl) rfl (Jg (JQ u22 sz2 rfl rfl rfl (by omega) hrow.sm) rfl (Jg (JF rfl (hrow _ (by omega)) pl2) rfl (Jg (Em rfl rfl) rfl (Jf (Ja (hK8 (Jo rfl (fun h18=>?_) (fun h18=>?_))))))))))))))))
  ·
   refine Es [[], [0], [], [], [2,3], [4], [], [], [6,7], [8], [5,9], [10]] (by kernel_rfl) (JB (fun gh=>Js u40 rfl sz38 rfl) (JB (fun gh=>Jv rfl At.z rfl pl38) (JB (fun gh=>Jc rfl) (JB (fun gh=>Jc rfl) (JB (fun gh=>El u135 sz105 rfl rfl rfl hk1 hps.sm) (JB (fun gh=>JP rfl (hps.cell _ hk1) (hps.sm (i:=k) hk1) (by rw [bytesC_length,hps.len _ hk1];exact ag105)) (JB (fun gh=>Jc rfl) (JB (fun gh=>Jc rfl) (JB (fun gh=>JQ u22 sz2 rfl rfl rfl (by omega) hrow.sm) (JB (fun gh=>JF rfl (hrow _ (by omega)) pl2) (JB (fun gh=>PR.build2 rfl rfl (fun w=>bt107 _ _ (rw_all hpm hk1).len w)) (HJ.mk (fun gh=>MK.lit1T u38 ze107 sz107 (Term.wf.of (rw_all hpm hk1) (by omega)) rfl) (Ed 12 3 foll0 (by kernel_rfl) rfl rfl fun gh=>(Ep (us':=(19,_)::(20,_)::(21,_)::(22,_)::(23,_)::(24,_)::(25,_)::(26,_)::(27,_)::(28,_)::(29,_)::(30,_)::_) (L':=_::_) rfl rfl ?_))))))))))))));refine J.appendOT u38 ze107 sz107 by107 rfl rfl (by simp only [List.length_cons,List.length_nil];omega) .z (.s .z) (fun _ _=>(.s .z)) rfl fun qo31 co31=>(Jg (Js u40 rfl sz38 rfl) rfl (Er rfl rfl rfl rfl sz38 (by simp [*]) (.s .z) (Jf (Ec (Ef (JD (Ja (hK7 (Jb (Jg (Jc rfl) rfl (Jg (Jz rfl rfl (by first | exact nw _ (by omega) | rfl)) rfl (Jg (Jd rfl) rfl (Jf (Ja (JN .z ?_)))))))))))))));exact hAg0 (qo31,co31,k+1) (by show k+1≤ps.length;omega) (by show ps.length - (k+1)<ps.length - k;omega) 27 rfl rfl ⟨rfl,trivial⟩ rfl (by dsimp only;rw [fmK_yes h18];rfl)
  ·
   refine Jm (JD (Ja (hK7 (Jb (Jg (Jc rfl) rfl (Jg (Jz rfl rfl (by first | exact nw _ (by omega) | rfl)) rfl (Jg (Jd rfl) rfl (Jf (Ja ?_)))))))));exact hAg0 (q,c,k+1) (by show k+1≤ps.length;omega) (by show ps.length - (k+1)<ps.length - k;omega) 13 rfl rfl ⟨rfl,trivial⟩ rfl (by dsimp only;rw [fmK_no h18])
 ·
  refine JG (Jj (Jj (JL (Ja (hK3 (Je fun _ hK9 _=>(Jb (Jg (JA rfl At.z (by simpa [*] using ag40)) rfl (JK rfl rfl (by first | exact bytesC_one _ | exact intsC_one _ | exact Term.c_one _ | simp [Value.oneCell']) (by simpa [*] using sz40) (by simp [*]) (.s (.s .z)) (Jf (Ja (hK9 (Ju (Jq rfl (Res.agg rfl (.s (.s .z)) (by simpa [*] using ag40)) fun w hH=>?_))))))))))))));replace hH:=hH.sublist (.cons _ (.cons_cons _ (.cons _ (List.Sublist.refl _))))
  obtain rfl:k=ps.length:=by omega
  exact ⟨_,_,rfl,hH⟩
end Go.Proofs.YtelcehjliighfaaGreat.G
