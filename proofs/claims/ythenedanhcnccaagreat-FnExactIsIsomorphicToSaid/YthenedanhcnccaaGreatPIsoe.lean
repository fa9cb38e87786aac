/- A part of the walk of one law: what the functions compute. No condition. -/
import Derived.Test.YthenedanhcnccaaGreatRows
import Derived.Test.YthenedanhcnccaaGreatProg
import Derived.WalkKit
import Derived.KernelRfl
import Derived.JoinedOf
import Derived.Maps.AppendAt
import Derived.Still
import Derived.ProofKit
import Derived.OpenShut
import Derived.StillTail
import Derived.Deep.Upon
import Derived.WalkSpells
import Derived.Maps.Range
import Derived.DeepKeys4
import Derived.Maps.Keyed
import Derived.ChangeOld
import Derived.Below
import Derived.SizedLaws
import Derived.Test.YthenedanhcnccaaGreatPIsod
set_option linter.unusedVariables false
set_option linter.unusedSimpArgs false
set_option maxRecDepth 10000
set_option maxHeartbeats 8000000
open Nat (reduceEqDiff reduceSub reduceAdd)
namespace Go.Proofs.YthenedanhcnccaaGreat.G
open Go Go.RowKit
theorem wsum_zero {ds m:List Int} (h : ∀j,m.getD j 0=0) : ∀n:Nat,wsum ds m n=0
 | 0=>rfl
 | n+1=>by simp only [wsum];rw [wsum_zero h n,h n];simp
theorem isDeg_pos1 {ds:List Int} (h:isDeg ds=true) : ∀j,j<ds.length→1≤ds.getD j 0:=by
 intro j hj;unfold isDeg at h;rw [Bool.and_eq_true] at h;have:=List.all_eq_true.1 h.2 (ds.getD j 0) (by rw [List.getD_eq_getElem?_getD,List.getElem?_eq_getElem hj];exact List.getElem_mem hj);rw [Bool.and_eq_true,decide_eq_true_eq] at this
 omega
theorem wrd_nn {m:List Int} (hm : ∀j,0≤m.getD j 0) : ∀n:Nat,0≤wrd m n
 | 0=>by simp [wrd]
 | n+1=>by have h1:=wrd_nn hm n;have h2:=hm n;simp only [wrd];omega
theorem fn192:Fn Tryz.prog 192:=⟨_,Tryz.func192,by kernel_rfl,rfl⟩
theorem GrowI_c {B:World} {H0 H:HP} {L:List SA} {w:World} {n:Nat} (hn:n≤1048576) (hH:Hp B H0 H L w):Calls Tryz.prog 192 [.slice none 0 0,.int .i64 (n:Int)].toArray w fun e w'=>∃q c,e = .returned (.slice q ([]:List Int).length c)∧Hp B H0 H (own 2 1 q ([]:List Int).length c (intsC [])::L) w':=by
 refine Jz Tryz.func192 rfl 27 rfl rfl [(0,.slice none 0 0),(1,.int .i64 (n:Int))] rfl hH ?_;clear hH;refine Je fun _ hK1 _=>(Jb (Jg (Jd rfl) rfl (Jf (Ja (hK1 (Je fun _ hK2 _=>(Je fun _ hK3 _=>(Jb (Jg (Jc rfl) rfl (Jg (JR rfl rfl) rfl (Jf (Ja (hK3 (Jp rfl (fun h6=>?_) (fun h6=>?_)))))))))))))))
 ·
  exact absurd h6 (by omega)
 ·
  refine Jo (Ja (hK2 (Je fun _ hK4 _=>(Je fun _ hK5 _=>(Jb (Jg (Jc rfl) rfl (Jg (Jc rfl) rfl (Jg (PR.capS u22 rfl) rfl (Jg (Jc rfl) rfl (Jg (Jm u22 rfl rfl) rfl (Jg (EL rfl rfl (by first | exact nw _ (by omega) | rfl)) rfl (Jg (EL rfl rfl (by first | exact nw _ (by omega) | rfl)) rfl (Jg (Jd rfl) rfl (Jf (Ja (hK5 ?_))))))))))))))));refine Je fun _ hK6 _=>(Jb (Jg (Jc rfl) rfl (Jg (EC rfl rfl) rfl (Jf (Ja (hK6 (Jp rfl (fun h16=>?_) (fun h16=>?_))))))))
  ·
   refine Jb (Jg (Jc rfl) rfl (Jg (Jc rfl) rfl (Jg (PR.capS u22 rfl) rfl (Jg (PR.sliceHi (i':=0) u22 sz2 rfl rfl rfl (by omega)) rfl (Jg (Jc rfl) rfl (J.appendMk (m:=n) u22 u3 ze2 sz2 by2 rfl rfl rfl (by omega) (by omega) (by omega) rfl fun gG cG=>(Jg (Jc rfl) rfl (Jg (Jm u22 rfl rfl) rfl (Jg (PR.sliceHi (i':=0) u22 sz2 rfl rfl rfl (by omega)) rfl (Jg (Jd rfl) rfl (Jf (Ja (hK4 (Je fun _ hK7 _=>(Jb ?_)))))))))))))));refine Jg (Jc rfl) rfl (Jg (Jd rfl) rfl (Jf (Ja (hK7 (Js (Jq rfl (Res.tmp rfl) fun w hH=>?_))))));replace hH:=hH.sublist (.cons_cons _ (List.Sublist.refl _));exact ⟨some ⟨gG,0,none⟩,cG,rfl,hH⟩
  ·
   refine Jo (Ja (hK4 (Je fun _ hK8 _=>(Jb (Jg (Jc rfl) rfl (Jg (Jd rfl) rfl (Jf (Ja (hK8 (Js (Jq rfl (Res.tmp rfl) fun w hH=>?_)))))))))));replace hH:=hH.sublist (List.Sublist.refl _);exact ⟨none,0,rfl,hH.own0 2 1⟩
theorem ConcatI_c {B:World} {H0 H:HP} {L:List SA} {w:World} {qrs:Option Addr} {crs:Nat} {rs:List (List Int)} (hrs:RowsR H qrs rs) (hn:rs.length≤1048576) (ht:totI rs≤1048576) (hH:Hp B H0 H L w):Calls Tryz.prog 166 [.slice qrs rs.length crs].toArray w fun e w'=>∃q c,e = .returned (.slice q rs.flatten.length c)∧Hp B H0 H (own 2 1 q rs.flatten.length c (intsC rs.flatten)::L) w':=by
 refine Jz Tryz.func166 rfl 36 rfl rfl [(0,.slice qrs rs.length crs)] rfl hH ?_;clear hH;refine Je fun _ hK1 _=>(Jb (Jg (Jd rfl) rfl (Jf (Ja (hK1 (Je fun _ hK2 _=>(Jb (Jg (Jd rfl) rfl (Jf (Ja (hK2 (Je fun _ hK3 _=>(Je fun _ hK4 _=>(Jb (Jg (Jc rfl) rfl (Jg (Jm u57 rfl rfl) rfl ?_))))))))))))))));refine Jg (Jc rfl) rfl (Jf (Ja (hK4 (Jn (JE (σ:=Nat) (fun (k:Nat)=>[(11,.int .i64 (k:Int)),(3,.int .i64 ((totI (rs.take k):Nat):Int))]) (fun (k:Nat)=>H) (fun (k:Nat)=>L) (fun (k:Nat)=>k≤rs.length) (fun (k:Nat)=>rs.length - k) 0 (by omega) ⟨rfl,⟨(vi (by simp [totI])),trivial⟩⟩ rfl rfl ?_)))));rintro k hk _ hAg0;have htl:k<rs.length→totI (rs.take k)+(rw_ rs k).length≤totI rs:=fun h=>totI_take_le h;have hts:k<rs.length→totI (rs.take (k+1))=totI (rs.take k)+(rw_ rs k).length:=fun h=>totI_succ h;refine Je fun _ hK5 _=>(Jb (Jg (JR rfl rfl) rfl (Jf (Ja (hK5 (Je fun _ hK6 _=>(Jp rfl (fun hc12=>?_) (fun hc12=>?_))))))))
 ·
  refine Jo (Ja (hK6 (Je fun _ hK7 _=>(Jn (Je fun _ hK8 _=>(Jb (Jg (JP u57 sz22 rfl rfl rfl (by omega) hrs.sm) rfl ?_)))))));obtain ⟨qe14,ce14,he14,le14,Fe14⟩:=hrs k (by omega);refine Jg (JB rfl he14 pl22) rfl (Jg (Jd rfl) rfl (Jf (Ja (hK8 (Je fun _ hK9 _=>(Jb (Jg (Jc rfl) rfl (Jg (Jc rfl) rfl (Jg (Jm u22 rfl rfl) rfl (Jg (JC rfl rfl (by first | exact nw _ (by omega) | rfl)) rfl (Jg (Jd rfl) rfl (Jf (Ja (hK9 (Je fun _ hK10 _=>(Jb ?_))))))))))))))));refine Jg (Jc rfl) rfl (Jg (JR rfl rfl) rfl (Jf (Ja (hK10 (Jp rfl (fun h20=>?_) (fun h20=>?_))))))
  ·
   exact absurd h20 (by omega)
  ·
   refine Jo (JF (Ja (hK7 (Jb (Jg (JC rfl rfl (by first | exact nw _ (by omega) | rfl)) rfl (Jg (Jc rfl) rfl (Jf (Ja ?_))))))));exact hAg0 (k+1) (by omega) (by omega) 15 rfl rfl ⟨rfl,⟨(vi (by rw [hts (by omega)];omega)),trivial⟩⟩ rfl rfl
 ·
  refine JH (Jl (Jl (JQ (Ja (hK3 (Je fun _ hK11 _=>(Jb (Jg (Jc (by rw [show k=rs.length by omega,List.take_length];rfl)) rfl (Jw fn192 rfl rfl fun w hH=>(GrowI_c (n:=totI rs) (by omega) hH).mono ?_)))))))));rintro _ w ⟨qo24,co24,rfl,hH⟩;refine ⟨_,rfl,fun a hF=>JL hF hH ?_⟩;refine Jg (Jd rfl) rfl (Jf (Ja (hK11 (Je fun _ hK12 _=>(Je fun _ hK13 _=>(Jb (Jg (Jc rfl) rfl (Jg (Jm u57 rfl rfl) rfl (Jg (Jc rfl) rfl (Jf (Ja (hK13 (Jn (JE (σ:=Option Addr × Nat × Nat) (fun ⟨q,c,k⟩=>[(27,.int .i64 (k:Int)),(6,.slice q (flK rs k).length c)]) (fun ⟨q,c,k⟩=>H) (fun ⟨q,c,k⟩=>own 2 1 q (flK rs k).length c (intsC (flK rs k))::L) (fun ⟨q,c,k⟩=>k≤rs.length) (fun ⟨q,c,k⟩=>rs.length - k) (qo24,co24,0) (by show 0≤rs.length;omega) ⟨rfl,⟨rfl,trivial⟩⟩ rfl rfl ?_))))))))))))));rintro ⟨q,c,k⟩ hk2 _ hAg1;have hfl:=flK_len rs k;have htl:k<rs.length→totI (rs.take k)+(rw_ rs k).length≤totI rs:=fun h=>totI_take_le h;refine Je fun _ hK14 _=>(Jb (Jg (JR rfl rfl) rfl (Jf (Ja (hK14 (Je fun _ hK15 _=>(Jp rfl (fun hc28=>?_) (fun hc28=>?_))))))))
  ·
   refine Jo (Ja (hK15 (Je fun _ hK16 _=>(Jn (Je fun _ hK17 _=>(Jb (Jg (JP u57 sz22 rfl rfl rfl (by omega) hrs.sm) rfl ?_)))))));obtain ⟨qe30,ce30,he30,le30,Fe30⟩:=hrs k (by omega);refine Jg (JB rfl he30 pl22) rfl (Jg (Jd rfl) rfl (Jf (Ja (hK17 (Jb (Jg (Jc rfl) rfl (Jg (Jc rfl) rfl (J.appendHI u22 ze2 sz2 by2 rfl rfl Fe30 (by omega) At.z (fun _ _=>At.z) rfl fun qo33 co33=>(Jg (Jd rfl) rfl (Jf (JF (Ja (hK16 (Jb (Jg (JC rfl rfl (by first | exact nw _ (by omega) | rfl)) rfl (Jg (Jc rfl) rfl ?_))))))))))))))));refine Jf (Ja ?_);exact hAg1 (qo33,co33,k+1) (by show k+1≤rs.length;omega) (by show rs.length - (k+1)<rs.length - k;omega) 12 rfl rfl ⟨rfl,⟨(by dsimp only;rw [flK_succ (by omega)];rfl),trivial⟩⟩ rfl (by dsimp only;rw [flK_succ (by omega)])
  ·
   refine JH (Jl (Jl (JQ (Ja (hK12 (Je fun _ hK18 _=>(Jb (Jg (Jc rfl) rfl (Jg (Jd rfl) rfl (Jf (Ja (hK18 (Js (Jq rfl (Res.tmp rfl) fun w hH=>?_))))))))))))));replace hH:=hH.sublist (.cons_cons _ (List.Sublist.refl _))
   obtain rfl:k=rs.length:=by omega
   rw [flK_end] at hH ⊢;exact ⟨_,_,rfl,hH⟩
def cntB:Nat→Nat→Nat
 | 0,_=>1
 | n+1,s=>((List.range (s+1)).map (cntB n)).sum
theorem sum_ind (g:Nat→Nat) (k:Nat) : ∀N:Nat,((List.range N).map fun e=>g e+if k=e then 1 else 0).sum=((List.range N).map g).sum+if k<N then 1 else 0
 | 0=>rfl
 | N+1=>by
  rw [List.range_succ,List.map_append,List.map_append,List.sum_append,List.sum_append,sum_ind g k N]
  simp only [List.map_cons,List.map_nil,List.sum_cons,List.sum_nil]
  by_cases h1:k=N
  ·rw [if_pos h1,if_neg (by omega),if_pos (by omega)];omega
  ·by_cases h2:k<N
   ·rw [if_pos h2,if_neg h1,if_pos (by omega)];omega
   ·rw [if_neg h2,if_neg h1,if_neg (by omega)];omega
theorem part_len {α:Type} (f:α→Nat) (N:Nat) : ∀l:List α,(∀x∈l,f x<N)→l.length=((List.range N).map fun e=>(l.filter fun x=>decide (f x=e)).length).sum
 | [],_=>by
  simp only [List.filter_nil,List.length_nil]
  generalize List.range N=r
  induction r with
  | nil=>rfl
  | cons a r ih=>simpa using ih
 | x::l,h=>by
  have ih:=part_len f N l fun y hy=>h y (by simp [hy])
  have h0:=h x (by simp)
  have e:(fun e=>((x::l).filter fun x=>decide (f x=e)).length)=fun e=>(l.filter fun x=>decide (f x=e)).length+if f x=e then 1 else 0:=by
   funext e
   rw [List.filter_cons]
   by_cases h1:f x=e
   ·rw [if_pos (by simpa using h1),if_pos h1];rfl
   ·rw [if_neg (by simpa using h1),if_neg h1];rfl
  rw [e,sum_ind,if_pos h0,List.length_cons,← ih]
theorem sum_map_le {f g:Nat→Nat} : ∀l:List Nat,(∀e∈l,f e≤g e)→(l.map f).sum≤(l.map g).sum
 | [],_=>Nat.le_refl _
 | a::l,h=>by
  have h1:=sum_map_le l fun e he=>h e (by simp [he])
  have h2:=h a (by simp)
  simp only [List.map_cons,List.sum_cons]
  omega
theorem cnt_le : ∀(n s:Nat) (l:List (List Int)),l.Nodup→(∀p∈l,p.length=n∧(∀x∈p,0≤x)∧p.sum≤(s:Int))→l.length≤cntB n s
 | 0,s,l,hn,h=>by
  match l,hn,h with
  | [],_,_=>simp [cntB]
  | [_],_,_=>simp [cntB]
  | a::b::l,hn,h=>
   have h1:=(h a (by simp)).1
   have h2:=(h b (by simp)).1
   have e1:a=[]:=List.eq_nil_of_length_eq_zero h1
   have e2:b=[]:=List.eq_nil_of_length_eq_zero h2
   subst e1
   subst e2
   simp at hn
 | n+1,s,l,hn,h=>by
  have hk : ∀p∈l,((s:Int) - p.headD 0).toNat<s+1:=fun p hp=>by
   obtain ⟨h1,h2,_⟩:=h p hp
   cases p with
   | nil=>simp at h1
   | cons x p=>have:=h2 x (by simp);simp only [List.headD_cons];omega
  rw [part_len (fun p=>((s:Int) - p.headD 0).toNat) (s+1) l hk]
  simp only [cntB]
  refine sum_map_le _ fun e he=>?_
  have he':e<s+1:=List.mem_range.1 he
  have hm : ∀p∈l.filter (fun p=>decide (((s:Int) - p.headD 0).toNat=e)),p.headD 0=(s:Int) - e∧p∈l:=fun p hp=>by
   obtain ⟨h1,h2⟩:=List.mem_filter.1 hp
   obtain ⟨h3,h4,h5⟩:=h p h1
   refine ⟨?_,h1⟩
   have h6:=of_decide_eq_true h2
   cases p with
   | nil=>simp at h3
   | cons x p=>
    have hx:=h4 x (by simp)
    have h7:0≤p.sum:=by
     have h8 : ∀y∈p,0≤y:=fun y hy=>h4 y (by simp [hy])
     clear h2 h6 h1 h3 h4 h5 hp
     induction p with
     | nil=>simp
     | cons y p ih=>
      have:=h8 y (by simp)
      have:=ih fun z hz=>h8 z (by simp [hz])
      simp only [List.sum_cons]
      omega
    simp only [List.sum_cons] at h5
    simp only [List.headD_cons] at h6 ⊢
    omega
  have h9:=cnt_le n e ((l.filter (fun p=>decide (((s:Int) - p.headD 0).toNat=e))).map List.tail) (by
   rw [List.Nodup,List.pairwise_map]
   refine (hn.sublist List.filter_sublist).imp_of_mem fun {a b} ha hb hab e1=>?_
   obtain ⟨a1,a2⟩:=hm a ha
   obtain ⟨b1,b2⟩:=hm b hb
   have la:=(h a a2).1
   have lb:=(h b b2).1
   cases a with
   | nil=>simp at la
   | cons x a=>
    cases b with
    | nil=>simp at lb
    | cons y b=>
     simp only [List.headD_cons] at a1 b1
     simp only [List.tail_cons] at e1
     exact hab (by rw [a1,b1,e1])) (fun p hp=>by
   obtain ⟨q,hq,rfl⟩:=List.mem_map.1 hp
   obtain ⟨q1,q2⟩:=hm q hq
   obtain ⟨h3,h4,h5⟩:=h q q2
   cases q with
   | nil=>simp at h3
   | cons x q=>
    simp only [List.headD_cons] at q1
    simp only [List.sum_cons] at h5
    simp only [List.tail_cons]
    exact ⟨by simpa using h3,fun y hy=>h4 y (by simp [hy]),by omega⟩)
  rw [List.length_map] at h9
  exact h9
def cntR (n:Nat):List Nat:=(List.range 21).map (cntB n)
def cntX (l:List Nat):List Nat:=(List.range 21).map fun s=>(l.take (s+1)).sum
theorem cntR_succ (n:Nat):cntR (n+1)=cntX (cntR n):=by
 unfold cntR cntX;refine List.map_congr_left fun s hs=>?_;have h1:s<21:=List.mem_range.1 hs;rw [← List.map_take,List.take_range,Nat.min_eq_left (by omega)]
 rfl
theorem cntR_8:cntR 8=[1,9,45,165,495,1287,3003,6435,12870,24310,43758,75582,125970,203490,319770,490314,735471,1081575,1562275,2220075,3108105]:=by
 have h0:cntR 0=List.replicate 21 1:=by rfl
 rw [cntR_succ,cntR_succ,cntR_succ,cntR_succ,cntR_succ,cntR_succ,cntR_succ,cntR_succ,h0]
 rfl
theorem cnt8 {s:Nat} (hs:s≤20):cntB 8 s=[1,9,45,165,495,1287,3003,6435,12870,24310,43758,75582,125970,203490,319770,490314,735471,1081575,1562275,2220075,3108105].getD s 0:=by
 rw [← cntR_8];unfold cntR;rw [List.getD_eq_getElem?_getD,List.getElem?_map,List.getElem?_range (by omega)]
 rfl
theorem cnt_prod {s t:Nat} (h:s+t≤20):cntB 8 s * cntB 8 t≤10000000000∧cntB 8 s≤4000000:=by
 have h1 : ∀s,s<21→∀t,t<21→s+t≤20→ [1,9,45,165,495,1287,3003,6435,12870,24310,43758,75582,125970,203490,319770,490314,735471,1081575,1562275,2220075,3108105].getD s 0 * [1,9,45,165,495,1287,3003,6435,12870,24310,43758,75582,125970,203490,319770,490314,735471,1081575,1562275,2220075,3108105].getD t 0≤10000000000∧ [1,9,45,165,495,1287,3003,6435,12870,24310,43758,75582,125970,203490,319770,490314,735471,1081575,1562275,2220075,3108105].getD s 0≤4000000:=by decide
 rw [cnt8 (by omega),cnt8 (by omega)];exact h1 s (by omega) t (by omega) h
theorem wrd_sum {p:List Int} (h:p.length=8):wrd p 8=p.sum:=by
 obtain ⟨a0,a1,a2,a3,a4,a5,a6,a7,rfl⟩:=list8_ex h;simp only [wrd,List.sum_cons,List.sum_nil,List.getD_cons_zero,List.getD_cons_succ]
 omega
theorem mem_get {p:List Int} {x:Int} (h:x∈p) : ∃j,x=p.getD j 0:=by
 obtain ⟨j,hj,rfl⟩:=List.mem_iff_getElem.1 h;exact ⟨j,by rw [List.getD_eq_getElem?_getD,List.getElem?_eq_getElem hj];rfl⟩
theorem sok_len {M:Int} {t:Sm} {s:Nat} (h:Sok M t) (hw : ∀x∈t,wrd x.1 8≤(s:Int)):t.length≤cntB 8 s:=by
 have:=cnt_le 8 s (t.map (·.1)) h.nodup (fun p hp=>by
  obtain ⟨x,hx,rfl⟩:=List.mem_map.1 hp;have hk:=h.key x hx;refine ⟨hk.len,fun y hy=>?_,by rw [← wrd_sum hk.len];exact hw x hx⟩;obtain ⟨j,rfl⟩:=mem_get hy
  exact (hk.bd j).1)
 rwa [List.length_map] at this
def Mo (a b:Int):Prop:=a % 10007=b % 10007
theorem Mo.refl (a:Int):Mo a a:=rfl
theorem Mo.symm {a b:Int} (h:Mo a b):Mo b a:=Eq.symm h
theorem Mo.trans {a b c:Int} (h:Mo a b) (k:Mo b c):Mo a c:=Eq.trans h k
theorem Mo.add {a b c d:Int} (h:Mo a b) (k:Mo c d):Mo (a+c) (b+d):=by unfold Mo at *;omega
theorem Mo.mul {a b:Int} (h:Mo a b) (c:Int):Mo (a * c) (b * c):=by
 unfold Mo at *;rw [Int.mul_emod,h,← Int.mul_emod]
theorem Mo.mull {a b:Int} (h:Mo a b) (c:Int):Mo (c * a) (c * b):=by
 rw [Int.mul_comm c a,Int.mul_comm c b];exact h.mul c
theorem Mo.fld (a:Int):Mo (G.fld a) a:=by unfold Mo;rw [fld_eq];omega
theorem Mo.tmod (a:Int):Mo (a.tmod 10007) a:=by
 obtain ⟨r,h⟩:=tmod_p a;unfold Mo;rw [h]
 omega
theorem Mo.eq {a b:Int} (h:Mo a b):G.fld a=G.fld b:=by rw [fld_eq,fld_eq];exact h
def wG (G:Pw→Int):Sm→Int
 | []=>0
 | x::s=>x.2 * G x.1+wG G s
theorem wG_app (G:Pw→Int) : ∀s t:Sm,wG G (s++t)=wG G s+wG G t
 | [],t=>by simp [wG]
 | x::s,t=>by simp only [JxA,wG];rw [wG_app G s t];omega
theorem wG_addS (G:Pw→Int) (p:Pw) (k:Int) : ∀s:Sm,Mo (wG G (addS s p k)) (wG G s+k * G p)
 | []=>by
  simp only [addS]
  split
  ·rename_i h
   have h1:=(Mo.fld k).symm.mul (G p)
   rw [h] at h1
   simp only [wG]
   unfold Mo at h1 ⊢
   rw [Int.zero_mul] at h1
   omega
  ·have h1:=(Mo.fld k).mul (G p)
   simp only [wG]
   unfold Mo at h1 ⊢
   omega
 | x::s=>by
  have ih:=wG_addS G p k s
  simp only [addS]
  split
  ·rename_i e
   have h1:=(Mo.fld (x.2+k)).mul (G p)
   rw [Int.add_mul] at h1
   split
   ·rename_i h
    rw [h,Int.zero_mul] at h1
    simp only [wG]
    rw [← e]
    unfold Mo at h1 ⊢
    omega
   ·simp only [wG]
    rw [← e]
    unfold Mo at h1 ⊢
    omega
  ·split
   ·split
    ·rename_i h
     have h1:=(Mo.fld k).symm.mul (G p)
     rw [h,Int.zero_mul] at h1
     simp only [wG]
     unfold Mo at h1 ⊢
     omega
    ·have h1:=(Mo.fld k).mul (G p)
     simp only [wG]
     unfold Mo at h1 ⊢
     omega
   ·simp only [wG]
    unfold Mo at ih ⊢
    omega
theorem wG_acc (G:Pw→Int) : ∀l s:Sm,Mo (wG G (acc s l)) (wG G s+wG G l)
 | [],s=>by simp [acc_nil,wG,Mo]
 | x::l,s=>by
  rw [acc_cons]
  have h1:=wG_acc G l (addS s x.1 x.2)
  have h2:=wG_addS G x.1 x.2 s
  simp only [wG]
  unfold Mo at h1 h2 ⊢
  omega
theorem wG_scl (G:Pw→Int) (k:Int) : ∀s:Sm,Mo (wG G (scl s k)) (k * wG G s)
 | []=>by simp [scl,wG,Mo]
 | x::s=>by
  have ih:=wG_scl G k s
  have h1:=(Mo.tmod (x.2 * k)).mul (G x.1)
  have e:scl (x::s) k=(x.1,(x.2 * k).tmod 10007)::scl s k:=rfl
  rw [e]
  simp only [wG]
  have e2:k * (x.2 * G x.1+wG G s)=x.2 * k * G x.1+k * wG G s:=by rw [Int.mul_add,← Int.mul_assoc,Int.mul_comm k x.2]
  rw [e2]
  exact h1.add ih
def ind (p q:Pw):Int:=if q=p then 1 else 0
theorem tot_ind (p:Pw) : ∀s:Sm,tot_ s p=wG (ind p) s
 | []=>rfl
 | x::s=>by
  simp only [tot_,wG,ind]
  rw [tot_ind p s]
  split <;> simp [ind]
def gT (ds:Pw) (p:Pw):Sm→Pw→Int
 | [],_=>0
 | y::t,q=>(if sgn ds q y.1=0 then 0 else (if addp q y.1=p then sgn ds q y.1 * y.2 else 0))+gT ds p t q
theorem tot_mul1 (ds:Pw) (p:Pw) (x:Pw × Int) : ∀t:Sm,Mo (tot_ (mul1 ds x t) p) (x.2 * gT ds p t x.1)
 | []=>by simp [mul1,tot_,gT,Mo]
 | y::t=>by
  have ih:=tot_mul1 ds p x t
  have e:mul1 ds x (y::t)=(if sgn ds x.1 y.1=0 then [] else [(addp x.1 y.1,(sgn ds x.1 y.1 * x.2 * y.2).tmod 10007)])++mul1 ds x t:=by
   unfold mul1
   rw [List.flatMap_cons]
  rw [e,totS_app]
  simp only [gT]
  rw [Int.mul_add]
  refine Mo.add ?_ ih
  by_cases h:sgn ds x.1 y.1=0
  ·rw [if_pos h,if_pos h]
   simp [tot_,Mo]
  ·rw [if_neg h,if_neg h]
   simp only [tot_]
   by_cases h2:addp x.1 y.1=p
   ·rw [if_pos h2,if_pos h2,Int.add_zero]
    have e2:x.2 * (sgn ds x.1 y.1 * y.2)=sgn ds x.1 y.1 * x.2 * y.2:=by rw [← Int.mul_assoc,Int.mul_comm x.2]
    rw [e2]
    exact Mo.tmod _
   ·rw [if_neg h2,if_neg h2]
    simp [Mo]
theorem tot_mulL (ds:Pw) (p:Pw) (t:Sm) : ∀s:Sm,Mo (tot_ (mulL ds s t) p) (wG (gT ds p t) s)
 | []=>by simp [mulL,tot_,wG,Mo]
 | x::s=>by
  have ih:=tot_mulL ds p t s
  have e:mulL ds (x::s) t=mul1 ds x t++mulL ds s t:=by unfold mulL;rw [List.flatMap_cons]
  rw [e,totS_app]
  simp only [wG]
  exact (tot_mul1 ds p x t).add ih
theorem Sok.sclA {M:Int} {s:Sm} (h:Sok M s) (c:Int):Sok M (G.acc [] (scl s c)):=Sok.nil.acc (scl_pok h c)
theorem times_scl {ds:Pw} {s t:Sm} {M N:Int} (hs:Sok M s) (ht:Sok N t) (c:Int):timesS ds (acc [] (scl s c)) t=acc [] (scl (timesS ds s t) c):=by
 have h1:=hs.sclA c;have h2:=hs.times ht (ds:=ds);refine Sok.ext (h1.times ht (ds:=ds)) (h2.sclA c) fun p=>?_;rw [show timesS ds (acc [] (scl s c)) t=acc [] (mulL ds (acc [] (scl s c)) t) from rfl,cf_acc p Sok.nil (mulL_pok h1 ht),cf_acc p Sok.nil (scl_pok h2 c)];refine Mo.eq (Mo.add (Mo.refl _) ?_);have a1:=tot_mulL ds p t (acc [] (scl s c));have a2:=wG_acc (gT ds p t) (scl s c) [];have a3:=wG_scl (gT ds p t) c s;have b1:=wG_scl (ind p) c (timesS ds s t);rw [← tot_ind] at b1;have b2:=(wG_acc (ind p) (mulL ds s t) []).mull c;have b3:=tot_mulL ds p t s;rw [tot_ind] at b3;have b4:=b3.mull c;simp only [wG,Int.zero_add] at a2 b2;exact a1.trans (a2.trans (a3.trans (b4.symm.trans (b2.symm.trans b1.symm))))
theorem acc_scl1 {out u:Sm} {M:Int} (ho:Sok M out) (hu:Sok M u) (c:Int):acc out (scl (acc [] (scl u c)) 1)=acc out (scl u c):=by
 have h1:=hu.sclA c;refine Sok.ext (ho.acc (scl_pok h1 1)) (ho.acc (scl_pok hu c)) fun p=>?_;rw [cf_acc p ho (scl_pok h1 1),cf_acc p ho (scl_pok hu c)];refine Mo.eq (Mo.add (Mo.refl _) ?_);rw [tot_ind,tot_ind];have a1:=wG_scl (ind p) 1 (acc [] (scl u c));have a2:=wG_acc (ind p) (scl u c) [];rw [Int.one_mul] at a1;simp only [wG,Int.zero_add] at a2;exact a1.trans a2
def zP:Pw:=List.replicate 8 0
def oneS:Sm:=[(zP,1)]
def pwS (ds:Pw) (s:Sm):Nat→Sm
 | 0=>oneS
 | e+1=>timesS ds (pwS ds s e) s
def prS (ds:Pw) (ss:Nat→Sm) (p:Pw) (u:Sm):Nat→Sm
 | 0=>u
 | i+1=>if 0<p.getD i 0 then timesS ds (prS ds ss p u i) (pwS ds (ss i) (p.getD i 0).toNat) else prS ds ss p u i
def leadL (ds:Pw) (ss:Nat→Sm) (n:Nat) (s:Sm):Sm:=s.flatMap fun x=>scl (prS ds ss x.1 oneS n) x.2
def leadS (ds:Pw) (ss:Nat→Sm) (n:Nat) (s:Sm):Sm:=acc [] (leadL ds ss n s)
theorem zP_get (j:Nat):zP.getD j 0=0:=by
 unfold zP;rw [List.getD_eq_getElem?_getD,List.getElem?_replicate]
 split <;> rfl
theorem zP_pok {M:Int} (hM:0≤M):Pok M zP:=⟨by simp [zP],fun j=>by rw [zP_get];omega⟩
theorem zP_ex (ds:Pw):Ex ds zP:=⟨fun i _=>zP_get i,fun i _ _=>by rw [zP_get];omega⟩
theorem wsum_add {ds p q:Pw} (hp:p.length=8) (hq:q.length=8) : ∀n:Nat,wsum ds (addp p q) n=wsum ds p n+wsum ds q n
 | 0=>rfl
 | n+1=>by
  simp only [wsum]
  rw [wsum_add hp hq n,addp_get hp hq,Int.mul_add]
  omega
structure Dg (ds:Pw):Prop where
 hn:ds.length≤8
 pos : ∀j,j<ds.length→1≤ds.getD j 0
 hd : ∀j,0≤ds.getD j 0∧ds.getD j 0≤12
theorem Dg.of {ds:Pw} (h:isDeg ds=true):Dg ds:=⟨isDeg_len h,isDeg_pos1 h,isDeg_bd h⟩
theorem wrd_le {ds p:Pw} (hd:Dg ds) (hp : ∀j,0≤p.getD j 0) : ∀n:Nat,n≤ds.length→wrd p n≤wsum ds p n
 | 0,_=>by simp [wrd,wsum]
 | n+1,h=>by
  have ih:=wrd_le hd hp n (by omega)
  have h1:=hd.pos n (by omega)
  have h2:=hp n
  have h3:1 * p.getD n 0≤ds.getD n 0 * p.getD n 0:=Int.mul_le_mul_of_nonneg_right h1 h2
  simp only [wrd,wsum]
  omega
theorem wrd_out {ds p:Pw} (hz : ∀j,ds.length≤j→p.getD j 0=0) : ∀d:Nat,wrd p (ds.length+d)=wrd p ds.length
 | 0=>rfl
 | d+1=>by
  show wrd p (ds.length+d)+p.getD (ds.length+d) 0=_
  rw [wrd_out hz d,hz _ (by omega)]
  omega
theorem wrd_w {ds p:Pw} (hd:Dg ds) (hp : ∀j,0≤p.getD j 0) (hx:Ex ds p):wrd p 8≤wsum ds p ds.length:=by
 have h1:=wrd_out hx.out (8 - ds.length);have:=hd.hn;rw [show ds.length+(8 - ds.length)=8 by omega] at h1;rw [h1];exact wrd_le hd hp _ (Nat.le_refl _)
theorem get_wrd {p:Pw} (hp : ∀j,0≤p.getD j 0) : ∀n j:Nat,j<n→p.getD j 0≤wrd p n
 | 0,j,h=>by omega
 | n+1,j,h=>by
  have h2:=hp n
  have h3:=wrd_nn hp n
  simp only [wrd]
  by_cases e:j=n
  ·subst e;omega
  ·have:=get_wrd hp n j (by omega)
   omega
structure Ws (ds:Pw) (d:Int) (t:Sm):Prop where
 sok:Sok 20 t
 kex:KEx ds t
 wt : ∀x∈t,wsum ds x.1 ds.length=d
theorem Ws.of {ds:Pw} {d M:Int} {t:Sm} (hd:Dg ds) (h:Sok M t) (hk:KEx ds t) (hw : ∀x∈t,wsum ds x.1 ds.length=d) (h13:d≤20):Ws ds d t:=by
 refine ⟨⟨h.srt,fun x hx=>?_,h.val⟩,hk,hw⟩;have hp:=h.key x hx;refine ⟨hp.len,fun j=>⟨(hp.bd j).1,?_⟩⟩;have h1:=wrd_w hd (fun j=>(hp.bd j).1) (hk x hx);have h2:=hw x hx
 rcases Nat.lt_or_ge j 8 with hj | hj
 ·have:=get_wrd (fun j=>(hp.bd j).1) 8 j hj
  omega
 ·rw [getD_ge (by rw [hp.len];omega)]
  omega
theorem Ws.one {ds:Pw} {c:Int} (hc:1≤c∧c≤10006):Ws ds 0 [(zP,c)]:=by
 refine ⟨Sok.one (zP_pok (by omega)) hc,fun x hx=>?_,fun x hx=>?_⟩
 ·rw [List.mem_singleton.1 hx];exact zP_ex ds
 ·rw [List.mem_singleton.1 hx];exact wsum_zero zP_get _
theorem Ws.times {ds:Pw} {a b:Int} {s t:Sm} (hd:Dg ds) (hs:Ws ds a s) (ht:Ws ds b t) (h:a+b≤20):Ws ds (a+b) (timesS ds s t):=by
 refine Ws.of hd (hs.sok.times ht.sok) (times_kex hs.sok.g ht.sok.g hs.kex ht.kex) (fun x hx=>?_) h
 rcases acc_mem hx with h1 | ⟨y,hy,e⟩
 ·simp at h1
 ·obtain ⟨u,hu,v,hv,_,e2⟩:=mulL_mem hy;rw [e,e2,wsum_add (hs.sok.key u hu).len (ht.sok.key v hv).len,hs.wt u hu,ht.wt v hv]
theorem Ws.pw {ds:Pw} {d:Int} {s:Sm} (hd:Dg ds) (hs:Ws ds d s) (h0:0≤d) : ∀e:Nat,(e:Int) * d≤20→Ws ds ((e:Int) * d) (pwS ds s e)
 | 0,_=>by
  have:=Ws.one (ds:=ds) (c:=1) (by omega)
  simpa [pwS,oneS] using this
 | e+1,h=>by
  have e1:((e+1:Nat):Int) * d=(e:Int) * d+d:=by rw [Int.natCast_add,Int.add_mul];simp
  rw [e1] at h ⊢
  exact (Ws.pw hd hs h0 e (by omega)).times hd hs h
theorem Ws.pr {ds ws:Pw} {ss:Nat→Sm} {p:Pw} {u:Sm} {a:Int} (hd:Dg ds) (hw : ∀j,0≤ws.getD j 0) (hp : ∀j,0≤p.getD j 0) (hu:Ws ds a u) (h0:0≤a) : ∀n:Nat,(∀j,j<n→Ws ds (ws.getD j 0) (ss j))→a+wsum ws p n≤20→Ws ds (a+wsum ws p n) (prS ds ss p u n)
 | 0,_,_=>by simpa [prS,wsum] using hu
 | n+1,hs,h=>by
  have hm:0≤ws.getD n 0 * p.getD n 0:=Int.mul_nonneg (hw n) (hp n)
  have hws : ∀k:Nat,0≤wsum ws p k:=fun k=>by
   induction k with
   | zero=>simp [wsum]
   | succ k ih=>have:=Int.mul_nonneg (hw k) (hp k);simp only [wsum];omega
  have h2:=hws n
  simp only [wsum] at h ⊢
  have ih:=Ws.pr hd hw hp hu h0 n (fun j hj=>hs j (by omega)) (by omega)
  simp only [prS]
  split
  ·rename_i hpos
   have e1:((p.getD n 0).toNat:Int)=p.getD n 0:=by omega
   have hpw:=(hs n (by omega)).pw hd (hw n) (p.getD n 0).toNat (by rw [e1,Int.mul_comm];omega)
   have h3:=ih.times hd hpw (by rw [e1,Int.mul_comm (p.getD n 0)];omega)
   rw [e1,Int.mul_comm (p.getD n 0)] at h3
   rw [← Int.add_assoc]
   exact h3
  ·rename_i hpos
   have:p.getD n 0=0:=by have:=hp n;omega
   rw [this,Int.mul_zero,Int.add_zero]
   exact ih
theorem Ws.len {ds:Pw} {d:Int} {t:Sm} (hd:Dg ds) (h:Ws ds d t) (h0:0≤d):t.length≤cntB 8 d.toNat:=sok_len h.sok fun x hx=>by
 have:=wrd_w hd (fun j=>((h.sok.key x hx).bd j).1) (h.kex x hx)
 have:=h.wt x hx
 omega
theorem Ws.lens {ds:Pw} {a b:Int} {s t:Sm} (hd:Dg ds) (hs:Ws ds a s) (ht:Ws ds b t) (ha:0≤a) (hb:0≤b) (h:a+b≤20):s.length * t.length≤10000000000∧s.length≤4000000:=by
 have h1:=hs.len hd ha;have h2:=ht.len hd hb;have h3:=cnt_prod (s:=a.toNat) (t:=b.toNat) (by omega);exact ⟨Nat.le_trans (Nat.mul_le_mul h1 h2) h3.1,by omega⟩
theorem pr_scl {ds ws:Pw} {ss:Nat→Sm} {p:Pw} {u:Sm} {a:Int} (hd:Dg ds) (hw : ∀j,0≤ws.getD j 0) (hp : ∀j,0≤p.getD j 0) (hu:Ws ds a u) (h0:0≤a) (c:Int) : ∀n:Nat,(∀j,j<n→Ws ds (ws.getD j 0) (ss j))→a+wsum ws p n≤20→prS ds ss p (acc [] (scl u c)) n=acc [] (scl (prS ds ss p u n) c)
 | 0,_,_=>rfl
 | n+1,hs,h=>by
  have hm:0≤ws.getD n 0 * p.getD n 0:=Int.mul_nonneg (hw n) (hp n)
  have hws : ∀k:Nat,0≤wsum ws p k:=fun k=>by
   induction k with
   | zero=>simp [wsum]
   | succ k ih=>have:=Int.mul_nonneg (hw k) (hp k);simp only [wsum];omega
  have h2:=hws n
  simp only [wsum] at h
  have ih:=pr_scl hd hw hp hu h0 c n (fun j hj=>hs j (by omega)) (by omega)
  simp only [prS]
  rw [ih]
  split
  ·rename_i hpos
   have e1:((p.getD n 0).toNat:Int)=p.getD n 0:=by omega
   have h3:=Ws.pr hd hw hp hu h0 n (fun j hj=>hs j (by omega)) (by omega)
   have hpw:=(hs n (by omega)).pw hd (hw n) (p.getD n 0).toNat (by rw [e1,Int.mul_comm];omega)
   exact times_scl h3.sok hpw.sok c
  ·rfl
theorem one_scl {c:Int} (hc:1≤c∧c≤10006):addS [] zP c=acc [] (scl oneS c):=by
 unfold oneS scl;simp only [List.map_cons,List.map_nil,acc_cons,acc_nil,Int.one_mul];exact addS_congr (fun a=>(fld_tmod a c).symm) zP []
theorem zP_mono:Mono zP:=⟨by simp [zP],fun j=>by rw [zP_get];omega⟩
theorem lead_one {ds:Pw} {ss:Nat→Sm} {n:Nat} {ts:List Term} {k:Nat} (hk:k<ts.length):leadS ds ss n (toS (ts.take (k+1)))=acc (leadS ds ss n (toS (ts.take k))) (scl (prS ds ss (tm ts k).mono oneS n) (tm ts k).fac):=by
 unfold leadS leadL;rw [toS_take hk,List.flatMap_append,acc_app]
 simp
section
variable {ds ws : Pw} {ss : Nat → Sm} {s : Sm} {n : Nat} {M : Int}
structure Ld (ds ws:Pw) (ss:Nat→Sm) (n:Nat) (M:Int) (s:Sm):Prop where
 dg:Dg ds
 ws0 : ∀j,0≤ws.getD j 0
 im : ∀j,j<n→Ws ds (ws.getD j 0) (ss j)
 sok:Sok M s
 wt : ∀x∈s,wsum ws x.1 n≤20
theorem Ld.pr (h:Ld ds ws ss n M s) {x:Pw × Int} (hx:x∈s) {u:Sm} (hu:Ws ds 0 u) {i:Nat} (hi:i≤n):Ws ds (wsum ws x.1 i) (prS ds ss x.1 u i):=by
 have hp:=h.sok.key x hx
 have hws : ∀k d:Nat,wsum ws x.1 k≤wsum ws x.1 (k+d):=fun k d=>by
  induction d with
  | zero=>exact Int.le_refl _
  | succ d ih=>have:=Int.mul_nonneg (h.ws0 (k+d)) (hp.bd (k+d)).1;show _≤wsum ws x.1 (k+d)+ws.getD (k+d) 0 * x.1.getD (k+d) 0;omega
 have h1:=hws i (n - i);rw [show i+(n - i)=n by omega] at h1;have h2:=h.wt x hx;have h3:=Ws.pr (ws:=ws) (p:=x.1) h.dg h.ws0 (fun j=>(hp.bd j).1) hu (Int.le_refl 0) i (fun j hj=>h.im j (by omega)) (by omega)
 rwa [Int.zero_add] at h3
theorem Ld.le (h:Ld ds ws ss n M s) {x:Pw × Int} (hx:x∈s) {i:Nat} (hi:i<n):0≤wsum ws x.1 i∧wsum ws x.1 i+ws.getD i 0 * x.1.getD i 0≤20:=by
 have hp:=h.sok.key x hx
 have hws : ∀k d:Nat,wsum ws x.1 k≤wsum ws x.1 (k+d):=fun k d=>by
  induction d with
  | zero=>exact Int.le_refl _
  | succ d ih=>have:=Int.mul_nonneg (h.ws0 (k+d)) (hp.bd (k+d)).1;show _≤wsum ws x.1 (k+d)+ws.getD (k+d) 0 * x.1.getD (k+d) 0;omega
 have h1:=hws (i+1) (n - (i+1));rw [show i+1+(n - (i+1))=n by omega] at h1;have h2:=h.wt x hx;have h3:=hws 0 i;rw [Nat.zero_add] at h3;simp only [wsum] at h1 h3;exact ⟨h3,by omega⟩
theorem Ld.pw (h:Ld ds ws ss n M s) {x:Pw × Int} (hx:x∈s) {i:Nat} (hi:i<n):Ws ds (ws.getD i 0 * x.1.getD i 0) (pwS ds (ss i) (x.1.getD i 0).toNat):=by
 have hp:=(h.sok.key x hx).bd i
 have e1:((x.1.getD i 0).toNat:Int)=x.1.getD i 0:=by omega
 have h1:=h.le hx hi;have h2:=(h.im i hi).pw h.dg (h.ws0 i) (x.1.getD i 0).toNat (by rw [e1,Int.mul_comm];omega)
 rwa [e1,Int.mul_comm] at h2
theorem Ld.tail (h:Ld ds ws ss n M s) {t:Sm} (ht : ∀x∈t,x∈s) (hs:Sok M t):Ld ds ws ss n M t:=⟨h.dg,h.ws0,h.im,hs,fun x hx=>h.wt x (ht x hx)⟩
theorem Ld.key (h:Ld ds ws ss n M s) : ∀z∈leadL ds ss n s,Pok 20 z.1:=fun z hz=>by
 obtain ⟨x,hx,h1⟩:=List.mem_flatMap.1 hz
 exact scl_pok (h.pr hx (Ws.one (c:=1) (by omega)) (Nat.le_refl n)).sok x.2 z h1
theorem Ld.lead (h:Ld ds ws ss n M s):Sok 20 (leadS ds ss n s):=Sok.nil.acc h.key
theorem scl_len (s:Sm) (k:Int):(scl s k).length=s.length:=by simp [scl]
theorem Ld.llen (h:Ld ds ws ss n M s):(leadL ds ss n s).length≤s.length * 4000000:=by
 have key : ∀t:Sm,(∀x∈t,x∈s)→(leadL ds ss n t).length≤t.length * 4000000:=by
  intro t
  induction t with
  | nil=>intro _;simp [leadL]
  | cons x t ih=>
   intro ht;have h1:=ih fun y hy=>ht y (by simp [hy]);have hx:=ht x (by simp)
   have h2:=(h.pr hx (Ws.one (c:=1) (by omega)) (Nat.le_refl n)).len h.dg (by
    have hp:=h.sok.key x hx
    have hws : ∀k:Nat,0≤wsum ws x.1 k:=fun k=>by
     induction k with
     | zero=>simp [wsum]
     | succ k ih=>have:=Int.mul_nonneg (h.ws0 k) (hp.bd k).1;simp only [wsum];omega
    exact hws n)
   have h3:=h.wt x hx;have h4:=(cnt_prod (s:=(wsum ws x.1 n).toNat) (t:=0) (by omega)).2
   have e:leadL ds ss n (x::t)=scl (prS ds ss x.1 oneS n) x.2++leadL ds ss n t:=by unfold leadL;rw [List.flatMap_cons]
   rw [e,List.length_append,scl_len,List.length_cons,Nat.succ_mul];unfold oneS at h2 ⊢
   omega
 exact key s fun x hx=>hx
theorem Ld.len (h:Ld ds ws ss n M s):(leadS ds ss n s).length≤s.length * 4000000:=by
 have h1:=acc_len (leadL ds ss n s) [];have h2:=h.llen;unfold leadS;simp only [List.length_nil] at h1
 omega
theorem Ld.step (h:Ld ds ws ss n M s) {x:Pw × Int} (hx:x∈s) (hv:1≤x.2∧x.2≤10006) {out:Sm} (ho:Sok 20 out):acc out (scl (prS ds ss x.1 (addS [] zP x.2) n) 1)=acc out (scl (prS ds ss x.1 oneS n) x.2):=by
 have hp:=h.sok.key x hx;have h1:=pr_scl (ws:=ws) (ss:=ss) (p:=x.1) (u:=oneS) h.dg h.ws0 (fun j=>(hp.bd j).1) (Ws.one (c:=1) (by omega)) (Int.le_refl 0) x.2 n h.im (by have:=h.wt x hx;omega);rw [one_scl hv,h1];exact acc_scl1 ho (h.pr hx (Ws.one (c:=1) (by omega)) (Nat.le_refl n)).sok x.2
theorem addS_zP {c:Int} (hc:1≤c∧c≤10006):addS [] zP c=[(zP,c)]:=by
 simp only [addS];rw [fld_id (by omega),if_neg (by omega)]
end
theorem l04Power_c {B:World} {H0 H:HP} {L:List SA} {w:World} {qds:Option Addr} {cds:Nat} {ds:List Int} {qts:Option Addr} {cts:Nat} {ts:List Term} {x:Int} {d:Int} (hds:Ints H qds ds) (hts:Terms H qts ts) (hd:Dg ds) (hs:Ws ds d (toS ts)) (h0:0≤d) (hx:0≤x∧x≤255) (hw:x * d≤20) (hH:Hp B H0 H L w):Calls Tryz.prog 183 [.slice qds ds.length cds,.agg [.slice qts ts.length cts].toArray,.int .u8 x].toArray w fun e w'=>∃q c,e = .returned (.agg [.slice q (ofS (pwS ds (toS ts) x.toNat)).length c].toArray)∧Hp B H0 H (own 152 9 q (ofS (pwS ds (toS ts) x.toNat)).length c (tsC (ofS (pwS ds (toS ts) x.toNat)))::L) w':=by
 refine Jz Tryz.func183 rfl 19 rfl rfl [(0,.slice qds ds.length cds),(1,.agg [.slice qts ts.length cts].toArray),(2,.int .u8 x)] rfl hH ?_;clear hH;refine Je fun _ hK1 _=>(Jb (Ee rfl rfl rfl fun g4=>(JV ze39 rfl fun g6=>(Jf (Ja (hK1 (Je fun _ hK2 _=>(Jb (Jg (Ew bz150) rfl (Jw fn159 rfl rfl fun w hH=>(l01Single_c zP_mono (by omega) hH).mono ?_))))))))));rintro _ w ⟨qo9,co9,rfl,hH⟩;refine ⟨_,rfl,fun a hF=>JL hF hH ?_⟩;refine JV ze39 rfl fun g7=>(JJ rfl rfl (by first | exact bytesC_one _ | exact intsC_one _ | exact Term.c_one _ | simp [Value.oneCell']) (by simpa [*] using sz39) (by simp [*]) At.z (Jf (Ja (hK2 (Je fun _ hK3 _=>(Jn (JE (σ:=Option Addr × Nat × Nat) (fun ⟨q,c,j⟩=>[(2,.int .u8 (x - (j:Int)))]) (fun ⟨q,c,j⟩=>H) (fun ⟨q,c,j⟩=>obj g7 (.cells [.slice q (ofS (pwS ds (toS ts) j)).length c].toArray 39 (0,0))::own 152 9 q (ofS (pwS ds (toS ts) j)).length c (tsC (ofS (pwS ds (toS ts) j)))::obj g6 (.cells [.slice none 0 0].toArray 39 (0,0))::obj g4 (.cells [.slice qts ts.length cts].toArray 39 (0,0))::L) (fun ⟨q,c,j⟩=>(j:Int)≤x) (fun ⟨q,c,j⟩=>x.toNat - j) (qo9,co9,0) (by show (0:Int)≤x;omega) ⟨(vi8 (by omega)),trivial⟩ rfl (by dsimp only;rw [addS_one];rfl) ?_)))))));rintro ⟨q,c,j⟩ hj _ hAg0;have hmj:(j:Int) * d≤x * d:=Int.mul_le_mul_of_nonneg_right hj h0;have hj1:=hs.pw hd h0 j (by omega);have hjn:0≤(j:Int) * d:=Int.mul_nonneg (by omega) h0;have wfO:=hj1.sok.wf (by omega);refine Je fun _ hK4 _=>(Je fun _ hK5 _=>(Jb (Jg (Jc rfl) rfl (Jg (EC rfl rfl) rfl (Jf (Ja (hK5 (Jp rfl (fun h11=>?_) (fun h11=>?_)))))))))
 ·
  have hjd:((j:Int)+1) * d≤x * d:=Int.mul_le_mul_of_nonneg_right (by omega) h0;rw [Int.add_mul,Int.one_mul] at hjd;have hjl:=hj1.lens hd hs hjn h0 (by omega);refine Jo (Ja (hK4 (Je fun _ hK6 _=>(Jn (Jb (Jg (Jc rfl) rfl (Jg (Jx rfl At.z (by simpa [*] using ag39)) rfl (Jg (Jx rfl (.s (.s (.s .z))) (by simpa [*] using ag39)) rfl (Jw fn77 rfl rfl fun w hH=>hH.lend (.s .z) fun Hl1 hle1 hA1 hB1 hH=>(l01Times_c (hds.le hle1) (own_terms wfO hA1) (hts.le hle1) hd.hn hd.hd (by rw [toS_ofS];exact hj1.kex) hs.kex (by rw [toS_ofS];exact hj1.sok.g) hs.sok.g (by omega) (by rw [ofS_len,← toS_len ts];exact Nat.le_trans hjl.1 (by omega)) (by rw [ofS_len];have:=hjl.2;omega) hH).mono ?_)))))))));rintro _ w ⟨qo17,co17,rfl,hH⟩;replace hH:=hB1 _ _ hH;refine ⟨_,rfl,fun a hF=>JL hF hH ?_⟩;refine JJ rfl rfl (by first | exact bytesC_one _ | exact intsC_one _ | exact Term.c_one _ | simp [Value.oneCell']) (by simpa [*] using sz39) (by simp [*]) (.s (.s .z)) (Jf (JF (Ja (hK6 (Jb (Jg (Jc rfl) rfl (Jg (EL rfl rfl (u8_id (by omega))) rfl (Jg (Jd rfl) rfl (Jf (Ja (JK .z (Jr (.s (.s (.s .z))) (Jr (.s (.s (.s .z))) (Jr (.s (.s .z)) (Jr (.s (.s (.s .z))) ?_)))))))))))))));exact hAg0 (qo17,co17,j+1) (by show ((j+1:Nat):Int)≤x;omega) (by show x.toNat - (j+1)<x.toNat - j;omega) 10 rfl rfl ⟨(vi8 (by omega)),trivial⟩ rfl (by dsimp only;simp only [toS_ofS];rfl)
 ·
  refine JH (Jl (Jl (JQ (Ja (hK3 (Je fun _ hK7 _=>(Jb (Jg (Jx rfl At.z (by simpa [*] using ag39)) rfl (JJ rfl rfl (by first | exact bytesC_one _ | exact intsC_one _ | exact Term.c_one _ | simp [Value.oneCell']) (by simpa [*] using sz39) (by simp [*]) (.s (.s .z)) (Jf (Ja (hK7 (Js (Jq rfl (Res.agg rfl (.s (.s .z)) (by simpa [*] using ag39)) fun w hH=>?_))))))))))))));replace hH:=hH.sublist (.cons _ (.cons_cons _ (.cons _ (.cons _ (List.Sublist.refl _)))))
  have ej:j=x.toNat:=by omega
  subst ej;exact ⟨_,_,rfl,hH⟩
theorem fn183:Fn Tryz.prog 183:=⟨_,Tryz.func183,by kernel_rfl,rfl⟩
def ssF (ms:List (List Term)) (i:Nat):Sm:=toS (fm ms i)
theorem prS_yes {ds:Pw} {ss:Nat→Sm} {p:Pw} {u:Sm} {i:Nat} (h:0<p.getD i 0):prS ds ss p u (i+1)=timesS ds (prS ds ss p u i) (pwS ds (ss i) (p.getD i 0).toNat):=by
 rw [prS,if_pos h]
theorem prS_no {ds:Pw} {ss:Nat→Sm} {p:Pw} {u:Sm} {i:Nat} (h : ¬0<p.getD i 0):prS ds ss p u (i+1)=prS ds ss p u i:=by
 rw [prS,if_neg h]
theorem wsum_nn0 {ws p:Pw} (hw : ∀j,0≤ws.getD j 0) (hp : ∀j,0≤p.getD j 0) : ∀k:Nat,0≤wsum ws p k
 | 0=>by simp [wsum]
 | k+1=>by have:=wsum_nn0 hw hp k;have:=Int.mul_nonneg (hw k) (hp k);simp only [wsum];omega
theorem wsum_mono {ws p:Pw} (hw : ∀j,0≤ws.getD j 0) (hp : ∀j,0≤p.getD j 0) (k:Nat) : ∀d:Nat,wsum ws p k≤wsum ws p (k+d)
 | 0=>Int.le_refl _
 | d+1=>by have:=wsum_mono hw hp k d;have:=Int.mul_nonneg (hw (k+d)) (hp (k+d));show _≤wsum ws p (k+d)+ws.getD (k+d) 0 * p.getD (k+d) 0;omega
theorem Ld.wle {ds ws:Pw} {ss:Nat→Sm} {s:Sm} {n:Nat} {M:Int} (h:Ld ds ws ss n M s) {x:Pw × Int} (hx:x∈s) {i:Nat} (hi:i≤n):wsum ws x.1 i≤20:=by
 have h1:=wsum_mono h.ws0 (fun j=>((h.sok.key x hx).bd j).1) i (n - i);rw [show i+(n - i)=n by omega] at h1;have:=h.wt x hx
 omega
theorem l04Apply_c {B:World} {H0 H:HP} {L:List SA} {w:World} {qds:Option Addr} {cds:Nat} {ds:List Int} {qms:Option Addr} {cms:Nat} {ms:List (List Term)} {qts:Option Addr} {cts:Nat} {ts:List Term} {ws:Pw} {M:Int} (hds:Ints H qds ds) (hms:Forms H qms ms) (hts:Terms H qts ts) (hL:Ld ds ws (ssF ms) ms.length M (toS ts)) (hM:M≤255) (hl:ts.length≤400) (hm:ms.length≤8) (hH:Hp B H0 H L w):Calls Tryz.prog 148 [.slice qds ds.length cds,.slice qms ms.length cms,.agg [.slice qts ts.length cts].toArray].toArray w fun e w'=>∃q c,e = .returned (.agg [.slice q (ofS (leadS ds (ssF ms) ms.length (toS ts))).length c].toArray)∧Hp B H0 H (own 152 9 q (ofS (leadS ds (ssF ms) ms.length (toS ts))).length c (tsC (ofS (leadS ds (ssF ms) ms.length (toS ts))))::L) w':=by
 refine Jz Tryz.func148 rfl 63 rfl rfl [(0,.slice qds ds.length cds),(1,.slice qms ms.length cms),(2,.agg [.slice qts ts.length cts].toArray)] rfl hH ?_;clear hH;refine Je fun _ hK1 _=>(Jb (Ee rfl rfl rfl fun g5=>(JV ze39 rfl fun g6=>(Jf (Ja (hK1 (Je fun _ hK2 _=>(Jb (J.own0 152 9 (Jg (Ew bz39) rfl (JV ze39 rfl fun g7=>(JJ rfl rfl (by first | exact bytesC_one _ | exact intsC_one _ | exact Term.c_one _ | simp [Value.oneCell']) (by simpa [*] using sz39) (by simp [*]) At.z (Jf (Ja (hK2 (Je fun _ hK3 _=>?_))))))))))))))));refine Je fun _ hK4 _=>(Jb (Jg (Jd rfl) rfl (Jf (Ja (hK4 (Jn (JE (σ:=Option Addr × Nat × Nat) (fun ⟨q,c,k⟩=>[(8,.int .i64 (k:Int))]) (fun ⟨q,c,k⟩=>H) (fun ⟨q,c,k⟩=>obj g7 (.cells [.slice q (ofS (leadS ds (ssF ms) ms.length (toS (ts.take k)))).length c].toArray 39 (0,0))::own 152 9 q (ofS (leadS ds (ssF ms) ms.length (toS (ts.take k)))).length c (tsC (ofS (leadS ds (ssF ms) ms.length (toS (ts.take k)))))::obj g6 (.cells [.slice none 0 0].toArray 39 (0,0))::obj g5 (.cells [.slice qts ts.length cts].toArray 39 (0,0))::L) (fun ⟨q,c,k⟩=>k≤ts.length) (fun ⟨q,c,k⟩=>ts.length - k) (none,0,0) (by show 0≤ts.length;omega) ⟨rfl,trivial⟩ rfl rfl ?_)))))));rintro ⟨q,c,k⟩ hk _ hAg0;have hLk:=hL.tail (t:=toS (ts.take k)) (fun x hx=>by rw [toS_tk] at hx;exact List.mem_of_mem_take hx) (hL.sok.tk k);have hls:=hLk.lead;have hll:=hLk.len;rw [toS_len,List.length_take_of_le (by omega)] at hll;have wfO:=hls.wf (by omega);refine Je fun _ hK5 _=>(Je fun _ hK6 _=>(Jb (Jg (Jc rfl) rfl (Jg (Ju u39 rfl sz37 rfl) rfl (Jg (Jy rfl (.s (.s (.s .z))) rfl pl37) rfl (Jg (Jm u37 rfl rfl) rfl (Jg (JR rfl rfl) rfl (Jf (Ja (hK6 (Jp rfl (fun h16=>?_) (fun h16=>?_))))))))))))
 ·
  have hkl:k<ts.length:=by omega
  have hxi:=toS_at (ts:=ts) hkl;have hxv:=hL.sok.val _ hxi;have hxk:=hL.sok.key _ hxi;simp only at hxv hxk;have hx8:=hxk.len
  have hu:Ws ds 0 (addS [] zP (tm ts k).fac):=by rw [addS_zP (by omega)];exact Ws.one (by omega)
  refine Jo (Ja (hK5 (Je fun _ hK7 _=>(Jn (Je fun _ hK8 _=>(Jb (Jg (Ew bz150) rfl (Jg (Ju u39 rfl sz37 rfl) rfl (Jg (Jy rfl (.s (.s (.s .z))) rfl pl37) rfl (Jg (Jc rfl) rfl (Jg (Ep u37 sz152 rfl rfl rfl (by omega) hts.sm) rfl (Jg (EB u152 rfl sz2 rfl (hts.sm (i:=k) (by omega))) rfl (Jg (JB rfl (hts.fac (by omega)) pl2) rfl (Jw fn159 rfl rfl fun w hH=>(l01Single_c zP_mono (by omega) hH).mono ?_))))))))))))));rintro _ w ⟨qo26,co26,rfl,hH⟩;refine ⟨_,rfl,fun a hF=>JL hF hH ?_⟩;refine JV ze39 rfl fun g9=>(JJ rfl rfl (by first | exact bytesC_one _ | exact intsC_one _ | exact Term.c_one _ | simp [Value.oneCell']) (by simpa [*] using sz39) (by simp [*]) At.z (Jf (Ja (hK8 (Je fun _ hK9 _=>(Je fun _ hK10 _=>(Jb (Jg (Jd rfl) rfl (Jf (Ja (hK10 (Jn (JE (σ:=Option Addr × Nat × Nat) (fun ⟨q1,c1,i⟩=>[(10,.int .i64 (i:Int))]) (fun ⟨q1,c1,i⟩=>H) (fun ⟨q1,c1,i⟩=>obj g9 (.cells [.slice q1 (ofS (prS ds (ssF ms) (tm ts k).mono (addS [] zP (tm ts k).fac) i)).length c1].toArray 39 (0,0))::own 152 9 q1 (ofS (prS ds (ssF ms) (tm ts k).mono (addS [] zP (tm ts k).fac) i)).length c1 (tsC (ofS (prS ds (ssF ms) (tm ts k).mono (addS [] zP (tm ts k).fac) i)))::obj g7 (.cells [.slice q (ofS (leadS ds (ssF ms) ms.length (toS (ts.take k)))).length c].toArray 39 (0,0))::own 152 9 q (ofS (leadS ds (ssF ms) ms.length (toS (ts.take k)))).length c (tsC (ofS (leadS ds (ssF ms) ms.length (toS (ts.take k)))))::obj g6 (.cells [.slice none 0 0].toArray 39 (0,0))::obj g5 (.cells [.slice qts ts.length cts].toArray 39 (0,0))::L) (fun ⟨q1,c1,i⟩=>i≤ms.length) (fun ⟨q1,c1,i⟩=>ms.length - i) (qo26,co26,0) (by show 0≤ms.length;omega) ⟨rfl,trivial⟩ rfl rfl ?_)))))))))))));rintro ⟨q1,c1,i⟩ hi _ hAg1;have hpr:=hL.pr hxi hu hi;simp only at hpr;have wfP:=hpr.sok.wf (by omega);have hpn:=Nat.le_trans (hpr.len hL.dg (wsum_nn0 hL.ws0 (fun j=>(hxk.bd j).1) i)) (cnt_prod (s:=(wsum ws (tm ts k).mono i).toNat) (t:=0) (by have:=hL.wle hxi hi;simp only at this;omega)).2;refine Je fun _ hK11 _=>(Je fun _ hK12 _=>(Jb (Jg (Jc rfl) rfl (Jg (Jc rfl) rfl (Jg (Jm u33 rfl rfl) rfl (Jg (JR rfl rfl) rfl (Jf (Ja (hK12 (Jp rfl (fun h30=>?_) (fun h30=>?_)))))))))))
  ·
   have hil:i<ms.length:=by omega
   refine Jo (Ja (hK11 (Je fun _ hK13 _=>(Jn (Je fun _ hK14 _=>(Jb (Jg (Ju u39 rfl sz37 rfl) rfl (Jg (Jy rfl (.s (.s (.s (.s (.s .z))))) rfl pl37) rfl (Jg (Jc rfl) rfl (Jg (Jc rfl) rfl (Jg (Ep u37 sz152 rfl rfl rfl (by omega) hts.sm) rfl (Jg (EB u152 rfl sz150 rfl (hts.sm (i:=k) (by omega))) rfl (Jg (PR.idxP1 u150 sz5 rfl (hts.sm (i:=k) (by omega)) rfl rfl (by omega)) rfl (Jg (JB rfl (hts.byte (by omega) (by omega)) pl5) rfl (Jg (EC rfl rfl) rfl ?_)))))))))))))));refine Jf (Ja (hK14 (Jp rfl (fun h41=>?_) (fun h41=>?_))))
   ·
    have hpos:0<(tm ts k).mono.getD i 0:=by omega
    have hpk:=hxk.bd i;have hle:=hL.le hxi hil;have hpw:=hL.pw hxi hil;simp only at hle hpw;have hpl:=hpr.lens hL.dg hpw hle.1 (Int.mul_nonneg (hL.ws0 i) hpk.1) hle.2;refine Ej (Rs:=[_,_,_,_,_,_]) 18 [[], [], [], [], [], [3,4], [3,4,5], [], [7], [], [], [7,8,9], [7,8,9,11], [7,8,9,10,11,12], [7,8,9,10,11,12,13], [2,3,4,5,6,7,8,9,10,11,12,13,14], [0,1,2,3,4,5,6,7,8,9,10,11,12,13,14,15], [0,1,2,3,4,5,6,7,8,9,10,11,12,13,14,15,16]] [[], [18], [], [], [], [], [], [], [23], [], [], [], [], [], [], [], [15,19], []] [[], [], [], [], [], [], [], [], [], [], [], [], [], [], [], [], [], [18]] rfl rfl (by kernel_rfl) ?_;apply Jj 1 rfl
    iterate 3 focus (intros;(conv=>lhs;simp only [Jh,Jt,JN,Jv,JI,eq_self,reduceEqDiff,reduceIte,reduceSub,reduceAdd,JxA,JxB]);all_goals rfl)
    ·
     intro gh X K zq zc zq2 zc2 zb zv hK;refine Jg (Jc rfl) rfl (Ji ?_);exact hK zq zc zq2 zc2 zb zv
    ·
     intro gh gh' h
     rfl
    apply Jj 2 rfl
    iterate 3 focus (intros;(conv=>lhs;simp only [Jh,Jt,JN,Jv,JI,eq_self,reduceEqDiff,reduceIte,reduceSub,reduceAdd,JxA,JxB]);all_goals rfl)
    ·
     intro gh X K zq zc zq2 zc2 zb zv hK;refine Jg (Jx rfl At.z (by simpa [*] using ag39)) rfl (Ji ?_);exact hK zq zc zq2 zc2 zb zv
    ·
     intro gh gh' h
     rfl
    apply Jj 3 rfl
    iterate 3 focus (intros;(conv=>lhs;simp only [Jh,Jt,JN,Jv,JI,eq_self,reduceEqDiff,reduceIte,reduceSub,reduceAdd,JxA,JxB]);all_goals rfl)
    ·
     intro gh X K zq zc zq2 zc2 zb zv hK;refine Jg (Jc rfl) rfl (Ji ?_);exact hK zq zc zq2 zc2 zb zv
    ·
     intro gh gh' h
     rfl
    apply Jj 4 rfl
    iterate 3 focus (intros;(conv=>lhs;simp only [Jh,Jt,JN,Jv,JI,eq_self,reduceEqDiff,reduceIte,reduceSub,reduceAdd,JxA,JxB]);all_goals rfl)
    ·
     intro gh X K zq zc zq2 zc2 zb zv hK;refine Jg (Jc rfl) rfl (Ji ?_);exact hK zq zc zq2 zc2 zb zv
    ·
     intro gh gh' h
     rfl
    apply Jj 5 rfl
    iterate 3 focus (intros;(conv=>lhs;simp only [Jh,Jt,JN,Jv,JI,eq_self,reduceEqDiff,reduceIte,reduceSub,reduceAdd,JxA,JxB]);all_goals rfl)
    ·
     intro gh X K zq zc zq2 zc2 zb zv hK;refine Jg (Jc rfl) rfl (Ji ?_);exact hK zq zc zq2 zc2 zb zv
    ·
     intro gh gh' h
     rfl
    apply Jj 6 rfl
    iterate 3 focus (intros;(conv=>lhs;simp only [Jh,Jt,JN,Jv,JI,eq_self,reduceEqDiff,reduceIte,reduceSub,reduceAdd,JxA,JxB]);all_goals rfl)
    ·
     intro gh X K zq zc zq2 zc2 zb zv hK;refine Jg (JP u33 sz39 rfl rfl rfl (by omega) hms.sm) rfl (Ji ?_);exact hK zq zc zq2 zc2 zb zv
    ·
     intro gh gh' h
     rfl
    obtain ⟨qe48,ce48,he48,le48,Fe48⟩:=hms i (by omega);apply Jj 7 rfl
    iterate 3 focus (intros;(conv=>lhs;simp only [Jh,Jt,JN,Jv,JI,eq_self,reduceEqDiff,reduceIte,reduceSub,reduceAdd,JxA,JxB]);all_goals rfl)
    ·
     intro gh X K zq zc zq2 zc2 zb zv hK;refine Jg (JO (cs:=[_]) rfl (one_cell he48) (hms.sm (i:=i) (by omega)) ag39) rfl (Ji ?_);exact hK zq zc zq2 zc2 zb zv
    ·
     intro gh gh' h
     rfl
    apply Jj 8 rfl
    iterate 3 focus (intros;(conv=>lhs;simp only [Jh,Jt,JN,Jv,JI,eq_self,reduceEqDiff,reduceIte,reduceSub,reduceAdd,JxA,JxB]);all_goals rfl)
    ·
     intro gh X K zq zc zq2 zc2 zb zv hK;refine Jg (Ju u39 rfl sz37 rfl) rfl (Ji ?_);exact hK zq zc zq2 zc2 zb zv
    ·
     intro gh gh' h
     rfl
    apply Jj 9 rfl
    iterate 3 focus (intros;(conv=>lhs;simp only [Jh,Jt,JN,Jv,JI,eq_self,reduceEqDiff,reduceIte,reduceSub,reduceAdd,JxA,JxB]);all_goals rfl)
    ·
     intro gh X K zq zc zq2 zc2 zb zv hK;refine Jg (Jy rfl At.z rfl pl37) rfl (Ji ?_);exact hK zq zc zq2 zc2 zb zv
    ·
     intro gh gh' h
     rfl
    apply Jj 10 rfl
    iterate 3 focus (intros;(conv=>lhs;simp only [Jh,Jt,JN,Jv,JI,eq_self,reduceEqDiff,reduceIte,reduceSub,reduceAdd,JxA,JxB]);all_goals rfl)
    ·
     intro gh X K zq zc zq2 zc2 zb zv hK;refine Jg (Jc rfl) rfl (Ji ?_);exact hK zq zc zq2 zc2 zb zv
    ·
     intro gh gh' h
     rfl
    apply Jj 11 rfl
    iterate 3 focus (intros;(conv=>lhs;simp only [Jh,Jt,JN,Jv,JI,eq_self,reduceEqDiff,reduceIte,reduceSub,reduceAdd,JxA,JxB]);all_goals rfl)
    ·
     intro gh X K zq zc zq2 zc2 zb zv hK;refine Jg (Jc rfl) rfl (Ji ?_);exact hK zq zc zq2 zc2 zb zv
    ·
     intro gh gh' h
     rfl
    apply Jj 12 rfl
    iterate 3 focus (intros;(conv=>lhs;simp only [Jh,Jt,JN,Jv,JI,eq_self,reduceEqDiff,reduceIte,reduceSub,reduceAdd,JxA,JxB]);all_goals rfl)
    ·
     intro gh X K zq zc zq2 zc2 zb zv hK;refine Jg (Ep u37 sz152 rfl rfl rfl (by omega) hts.sm) rfl (Ji ?_);exact hK zq zc zq2 zc2 zb zv
    ·
     intro gh gh' h
     rfl
    apply Jj 13 rfl
    iterate 3 focus (intros;(conv=>lhs;simp only [Jh,Jt,JN,Jv,JI,eq_self,reduceEqDiff,reduceIte,reduceSub,reduceAdd,JxA,JxB]);all_goals rfl)
    ·
     intro gh X K zq zc zq2 zc2 zb zv hK;refine Jg (EB u152 rfl sz150 rfl (hts.sm (i:=k) (by omega))) rfl (Ji ?_);exact hK zq zc zq2 zc2 zb zv
    ·
     intro gh gh' h
     rfl
    apply Jj 14 rfl
    iterate 3 focus (intros;(conv=>lhs;simp only [Jh,Jt,JN,Jv,JI,eq_self,reduceEqDiff,reduceIte,reduceSub,reduceAdd,JxA,JxB]);all_goals rfl)
    ·
     intro gh X K zq zc zq2 zc2 zb zv hK;refine Jg (PR.idxP1 u150 sz5 rfl (hts.sm (i:=k) (by omega)) rfl rfl (by omega)) rfl (Ji ?_);exact hK zq zc zq2 zc2 zb zv
    ·
     intro gh gh' h
     rfl
    apply Jj 15 rfl
    iterate 3 focus (intros;(conv=>lhs;simp only [Jh,Jt,JN,Jv,JI,eq_self,reduceEqDiff,reduceIte,reduceSub,reduceAdd,JxA,JxB]);all_goals rfl)
    ·
     intro gh X K zq zc zq2 zc2 zb zv hK;refine Jg (JB rfl (hts.byte (by omega) (by omega)) pl5) rfl (Ji ?_);exact hK zq zc zq2 zc2 zb zv
    ·
     intro gh gh' h
     rfl
    apply Ea 16 rfl
    iterate 3 focus (intros;(conv=>lhs;simp only [Jh,Jt,JN,Jv,JI,eq_self,reduceEqDiff,reduceIte,reduceSub,reduceAdd,JxA,JxB]);all_goals rfl)
    ·
     intro gh X K zq zc zq2 zc2 zb zv hK;refine Jw fn183 rfl rfl fun w hH=>(l04Power_c hds Fe48 hL.dg (hL.im i hil) (hL.ws0 i) (by omega) (by rw [Int.mul_comm];omega) hH).mono ?_;rintro _ w ⟨qo57,co57,rfl,hH⟩;refine ⟨_,rfl,fun a hF=>JL hF hH ?_⟩;refine Ji ?_;exact hK qo57 co57 zq2 zc2 zb zv
    ·
     intro gh gh' h;refine ⟨?_,?_⟩ <;> rfl
    apply Ea 17 rfl
    iterate 3 focus (intros;(conv=>lhs;simp only [Jh,Jt,JN,Jv,JI,eq_self,reduceEqDiff,reduceIte,reduceSub,reduceAdd,JxA,JxB]);all_goals rfl)
    ·
     intro gh X K zq zc zq2 zc2 zb zv hK;refine Jw fn77 rfl rfl fun w hH=>hH.lend (.s .z) fun Hl1 hle1 hA1 hB1 hH=>hH.lend .z fun Hl2 hle2 hA2 hB2 hH=>(l01Times_c ((hds.le hle1).le hle2) ((own_terms wfP hA1).le hle2) (own_terms (hpw.sok.wf (by omega)) hA2) hL.dg.hn hL.dg.hd (by rw [toS_ofS];exact hpr.kex) (by rw [toS_ofS];exact hpw.kex) (by rw [toS_ofS];exact hpr.sok.g) (by rw [toS_ofS];exact hpw.sok.g) (by omega) (by rw [ofS_len,ofS_len];exact Nat.le_trans hpl.1 (by omega)) (by rw [ofS_len];have:=hpl.2;omega) hH).mono ?_;rintro _ w ⟨qo58,co58,rfl,hH⟩;replace hH:=hB2 _ _ hH;replace hH:=hB1 _ _ hH;refine ⟨_,rfl,fun a hF=>JL hF hH ?_⟩;refine Jr .z (Jr (.s .z) (Jr (.s (.s .z)) (Ji ?_)));exact hK qo58 co58 zq2 zc2 zb zv
    ·
     intro gh gh' h;refine ⟨?_,?_⟩ <;> (first | simp only [h 15 rfl] | rfl)
    apply ET 18 rfl
    iterate 3 focus (intros;(conv=>lhs;simp only [Jh,Jt,JN,Jv,JI,eq_self,reduceEqDiff,reduceIte,reduceSub,reduceAdd,JxA,JxB]);all_goals rfl)
    ·
     intro gh X K hK;refine JJ rfl rfl (by first | exact bytesC_one _ | exact intsC_one _ | exact Term.c_one _ | simp [Value.oneCell']) (by simpa [*] using sz39) (by simp [*]) At.z (Ji ?_);exact hK
    ·
     intro gh gh' h
     first | simp only [h 15 rfl,h 16 rfl] | rfl
    apply Ek [0,1,2,3,4,5,6,7,8,9,10,11,12,13,14,15,16,17] [0,1,2,3,4,5,6,7,8,9,10,11,12,13,14,15,16,17,19,20,21,22,23] foll0 rfl rfl rfl (by rfl)
    iterate 2 focus (intros;(conv=>lhs;simp only [Jh,Jt,JN,Jv,JI,eq_self,reduceEqDiff,reduceIte,reduceSub,reduceAdd,JxA,JxB]);all_goals rfl)
    intro gh;generalize (gh 15).c=co57;generalize (gh 15).q=qo57;generalize (gh 16).c=co58;generalize (gh 16).q=qo58;clear gh;refine JF (Ja (hK13 (Jb (Jg (Jc rfl) rfl (Jg (JC rfl rfl (by first | exact nw _ (by omega) | rfl)) rfl (Jg (Jd rfl) rfl (Jf (Ja (JK (.s (.s (.s .z))) (JK .z (Jr (.s (.s (.s (.s (.s .z))))) (Jr (.s (.s (.s (.s (.s .z))))) (Jr (.s (.s (.s (.s (.s .z))))) (Jr (.s (.s (.s (.s (.s .z))))) (Jr (.s (.s (.s (.s .z)))) ?_)))))))))))))));refine Jr (.s (.s (.s (.s (.s .z))))) ?_;exact hAg1 (qo58,co58,i+1) (by show i+1≤ms.length;omega) (by show ms.length - (i+1)<ms.length - i;omega) 34 rfl rfl ⟨rfl,trivial⟩ rfl (by dsimp only;simp only [toS_ofS];rw [prS_yes hpos])
   ·
    refine Jo (JF (Ja (hK13 (Jb (Jg (Jc rfl) rfl (Jg (JC rfl rfl (by first | exact nw _ (by omega) | rfl)) rfl (Jg (Jd rfl) rfl (Jf (Ja ?_)))))))));exact hAg1 (q1,c1,i+1) (by show i+1≤ms.length;omega) (by show ms.length - (i+1)<ms.length - i;omega) 17 rfl rfl ⟨rfl,trivial⟩ rfl (by dsimp only;rw [prS_no (by omega)])
  ·
   refine JH (Jl (Jl (JQ (Ja (hK9 (Jb (Jg (Jx rfl (.s (.s .z)) (by simpa [*] using ag39)) rfl (Jg (Jx rfl At.z (by simpa [*] using ag39)) rfl (Jw fn130 rfl rfl fun w hH=>hH.lend (.s (.s (.s .z))) fun Hl1 hle1 hA1 hB1 hH=>hH.lend (.s .z) fun Hl2 hle2 hA2 hB2 hH=>(l01Add_c (M:=20) ((own_terms wfO hA1).le hle2) (own_terms wfP hA2) (by rw [toS_ofS];exact hls) (by rw [toS_ofS];exact hpr.sok.g) (by omega) (by omega) (by rw [ofS_len,ofS_len];omega) hH).mono ?_)))))))));rintro _ w ⟨qo61,co61,rfl,hH⟩;replace hH:=hB2 _ _ hH;replace hH:=hB1 _ _ hH;refine ⟨_,rfl,fun a hF=>JL hF hH ?_⟩;refine JJ rfl rfl (by first | exact bytesC_one _ | exact intsC_one _ | exact Term.c_one _ | simp [Value.oneCell']) (by simpa [*] using sz39) (by simp [*]) (.s (.s (.s (.s .z)))) (Jf (JF (Ja (hK7 (Jb (Jg (Jc rfl) rfl (Jg (JC rfl rfl (by first | exact nw _ (by omega) | rfl)) rfl (Jg (Jd rfl) rfl (Jf (Ja (JK .z (JK .z (JK (.s .z) (Jr (.s (.s (.s .z))) (Jr (.s (.s (.s .z))) ?_)))))))))))))));refine Jr (.s (.s .z)) (Jr (.s (.s (.s .z))) ?_);exact hAg0 (qo61,co61,k+1) (by show k+1≤ts.length;omega) (by show ts.length - (k+1)<ts.length - k;omega) 27 rfl rfl ⟨rfl,trivial⟩ rfl (by dsimp only;simp only [toS_ofS];rw [show i=ms.length by omega,hL.step hxi hxv hls,lead_one hkl])
 ·
  refine JH (Jl (Jl (JQ (Ja (hK3 (Je fun _ hK15 _=>(Jb (Jg (Jx rfl At.z (by simpa [*] using ag39)) rfl (JJ rfl rfl (by first | exact bytesC_one _ | exact intsC_one _ | exact Term.c_one _ | simp [Value.oneCell']) (by simpa [*] using sz39) (by simp [*]) (.s (.s .z)) (Jf (Ja (hK15 (Js (Jq rfl (Res.agg rfl (.s (.s .z)) (by simpa [*] using ag39)) fun w hH=>?_))))))))))))));replace hH:=hH.sublist (.cons _ (.cons_cons _ (.cons _ (.cons _ (List.Sublist.refl _)))))
  obtain rfl:k=ts.length:=by omega
  rw [List.take_length] at hH ⊢;exact ⟨_,_,rfl,hH⟩
theorem fn148:Fn Tryz.prog 148:=⟨_,Tryz.func148,by kernel_rfl,rfl⟩
theorem fn72:Fn Tryz.prog 72:=⟨_,Tryz.func72,by kernel_rfl,rfl⟩
theorem degOk_wt {ds:List Int} {ts:List Term} {x:Int} (hn:ds.length≤8) (hd : ∀j,0≤ds.getD j 0∧ds.getD j 0≤12) (hw:Wfs ts) (h:degOk ds ts x=true) : ∀y∈toS ts,wsum ds y.1 ds.length=x:=by
 intro y hy;unfold degOk at h;obtain ⟨h1,h2⟩:=Bool.and_eq_true_iff.1 h;obtain ⟨t,ht,rfl⟩:=List.mem_map.1 hy;obtain ⟨j,hj,rfl⟩:=List.mem_iff_getElem.1 ht
 have h3:wd ds ts j=wd ds ts 0:=by simpa using List.all_eq_true.1 h1 j (by simpa using hj)
 have h4:=degF_neg hn hd hw h1
 have h5:degF ds ts=x:=by
  rcases (Bool.or_eq_true_iff.1 h2) with h | h
  ·exact absurd (of_decide_eq_true h) (fun e=>h4.1 e (by omega))
  ·exact of_decide_eq_true h
 unfold degF outAt at h5;rw [h1,if_pos rfl,if_neg (by omega)] at h5;rw [tm_eq hj]
 show wd ds ts j=x
 omega
theorem form_ws {ds:List Int} {ts:List Term} {x:Int} (hD:isDeg ds=true) (hw:Wfs ts) (hf:isForm ds ts=true) (hd:degOk ds ts x=true) (h13:x≤20):Ws ds x (toS ts):=
 Ws.of (Dg.of hD) (isForm_sok hw hf) (isForm_kex (isDeg_bd hD) (isDeg_len hD) hw hf) (degOk_wt (isDeg_len hD) (isDeg_bd hD) hw hd) h13
def mpOk (bd:List Int) (ms:List (List Term)) (ad:List Int) (i:Nat):Bool:=isForm bd (fm ms i) && degOk bd (fm ms i) (ad.getD i 0)
def mpsOk (bd:List Int) (ms:List (List Term)) (ad:List Int):Bool:=(List.range ms.length).all (mpOk bd ms ad)
def kpS (bd:List Int) (bf ms af:List (List Term)) (i:Nat):Sm:=acc (leadS bd (ssF ms) ms.length (toS (fm af i))) (scl (dS bd bf (toS (fm ms i))) 10006)
def kps (bd:List Int) (bf ms af:List (List Term)):Bool:=(List.range af.length).all fun i=>decide ((kpS bd bf ms af i).length=0)
def isMp (ad:List Int) (af:List (List Term)) (bd:List Int) (bf ms:List (List Term)):Bool:=isAlg ad af && isAlg bd bf && (decide (ms.length=ad.length) && mpsOk bd ms ad && kps bd bf ms af)
theorem mpsOk_bad {bd ad:List Int} {ms:List (List Term)} {i:Nat} (hi:i<ms.length) (h:mpOk bd ms ad i=false):mpsOk bd ms ad=false:=List.all_eq_false.2 ⟨i,by simpa using hi,by simp [h]⟩
theorem mpsOk_good {bd ad:List Int} {ms:List (List Term)} (h : ∀j,j<ms.length→mpOk bd ms ad j=true):mpsOk bd ms ad=true:=List.all_eq_true.2 fun j hj=>h j (by simpa using hj)
theorem mpsOk_at {bd ad:List Int} {ms:List (List Term)} (h:mpsOk bd ms ad=true) {i:Nat} (hi:i<ms.length):mpOk bd ms ad i=true:=List.all_eq_true.1 h i (by simpa using hi)
theorem kps_bad {bd:List Int} {bf ms af:List (List Term)} {i:Nat} (hi:i<af.length) (h : ¬(kpS bd bf ms af i).length=0):kps bd bf ms af=false:=List.all_eq_false.2 ⟨i,by simpa using hi,by simpa using h⟩
theorem kps_good {bd:List Int} {bf ms af:List (List Term)} (h : ∀j,j<af.length→(kpS bd bf ms af j).length=0):kps bd bf ms af=true:=List.all_eq_true.2 fun j hj=>by simpa using h j (by simpa using hj)
theorem mpOk_yes {bd ad:List Int} {ms:List (List Term)} {i:Nat} (h1:isForm bd (fm ms i)=true) (h2:homog bd (fm ms i)=true) (h3:degF bd (fm ms i) = -1∨degF bd (fm ms i)=ad.getD i 0):mpOk bd ms ad i=true:=by
 unfold mpOk degOk;rw [h1,h2]
 rcases h3 with h | h <;> rw [decide_eq_true h] <;> simp
theorem mpOk_no1 {bd ad:List Int} {ms:List (List Term)} {i:Nat} (h1:isForm bd (fm ms i)=false):mpOk bd ms ad i=false:=by unfold mpOk;rw [h1];rfl
theorem mpOk_no2 {bd ad:List Int} {ms:List (List Term)} {i:Nat} (h1:homog bd (fm ms i)=false):mpOk bd ms ad i=false:=by unfold mpOk degOk;rw [h1];simp
theorem mpOk_no3 {bd ad:List Int} {ms:List (List Term)} {i:Nat} (h1 : ¬degF bd (fm ms i) = -1) (h2 : ¬degF bd (fm ms i)=ad.getD i 0):mpOk bd ms ad i=false:=by unfold mpOk degOk;rw [decide_eq_false h1,decide_eq_false h2];simp
theorem isAlg_im {ds:List Int} {fs:List (List Term)} (h:isAlg ds fs=true):imsOk ds fs=true:=by
 unfold isAlg at h;simp only [Bool.and_eq_true] at h;exact h.1.2
theorem Ld.map {ad bd:List Int} {af ms:List (List Term)} (hA:isAlg ad af=true) (hB:isDeg bd=true) (hwa:Wfss af) (hwm:Wfss ms) (hl:ms.length=ad.length) (h : ∀j,j<ms.length→mpOk bd ms ad j=true) {i:Nat} (hi:i<af.length):Ld bd ad (ssF ms) ms.length 20 (toS (fm af i)):=by
 have hD:=isAlg_deg hA;have hd:=isDeg_bd hD;have h1:=imsOk_at (isAlg_im hA) hi;unfold imOk at h1;obtain ⟨h2,h3⟩:=Bool.and_eq_true_iff.1 h1;refine ⟨Dg.of hB,fun j=>(hd j).1,fun j hj=>?_,isForm_sok (hwa.fm i) h2,fun x hx=>?_⟩
 ·have h4:=h j hj;unfold mpOk at h4;obtain ⟨h5,h6⟩:=Bool.and_eq_true_iff.1 h4;exact form_ws hB (hwm.fm j) h5 h6 (by have:=hd j;omega)
 ·rw [hl,degOk_wt (isDeg_len hD) hd (hwa.fm i) h3 x hx];have:=hd i
  omega
theorem dS_len {ds:List Int} {fs:List (List Term)} {ts:List Term} (hL : ∀i,i<fs.length→(fm fs i).length≤10000) (ho:Occ fs.length (toS ts)):(dS ds fs (toS ts)).length≤ts.length * 80000:=by
 have h1:=acc_len (dAll ds fs (toS ts)) [];have h2:=dAll_len (ds:=ds) hL ho;rw [toS_len] at h2;unfold dS;simp only [List.length_nil] at h1
 omega
theorem l04Is_c {B:World} {H0 H:HP} {L:List SA} {w:World} {qad qaf:Option Addr} {cad caf:Nat} {ad:List Int} {af:List (List Term)} {qbd qbf:Option Addr} {cbd cbf:Nat} {bd:List Int} {bf:List (List Term)} {qms:Option Addr} {cms:Nat} {ms:List (List Term)} (had:Ints H qad ad) (haf:Forms H qaf af) (hbd:Ints H qbd bd) (hbf:Forms H qbf bf) (hms:Forms H qms ms) (hn8:ad.length≤1048576) (hn9:af.length≤1048576) (hl9 : ∀i,i<af.length→(fm af i).length≤1048576) (hbn8:bd.length≤1048576) (hbn9:bf.length≤1048576) (hbl9 : ∀i,i<bf.length→(fm bf i).length≤1048576) (hmn9:ms.length≤1048576) (hml9 : ∀i,i<ms.length→(fm ms i).length≤1048576) (hH:Hp B H0 H L w):Calls Tryz.prog 146 [.agg [.slice qad ad.length cad,.slice qaf af.length caf].toArray,.agg [.slice qbd bd.length cbd,.slice qbf bf.length cbf].toArray,.slice qms ms.length cms].toArray w fun e w'=>e = .returned (.bool (isMp ad af bd bf ms))∧Hp B H0 H L w':=by
 refine Jz Tryz.func146 rfl 96 rfl rfl [(0,.agg [.slice qad ad.length cad,.slice qaf af.length caf].toArray),(1,.agg [.slice qbd bd.length cbd,.slice qbf bf.length cbf].toArray),(2,.slice qms ms.length cms)] rfl hH ?_;clear hH;refine Je fun _ hK1 _=>(Jb (Ee rfl rfl rfl fun g3=>(Ee rfl rfl rfl fun g4=>(Jg (Jd rfl) rfl (Jf (Ja (hK1 (Je fun _ hK2 _=>(Je fun _ hK3 _=>(Jb (Jg (Jx rfl (.s .z) (by simpa [*] using ag35)) rfl (Jw fn72 rfl rfl fun w hH=>(l02Is_c had haf (by omega) (by omega) (by omega) hH).mono ?_))))))))))));rintro _ w ⟨rfl,hH⟩;refine ⟨_,rfl,fun a hF=>JL hF hH ?_⟩;refine Jg (Em rfl) rfl (Jg (Jc rfl) rfl (Ei (jd:=14) rfl (fun hg14=>?_) (fun hg14=>?_)))
 ·
  try have hg14p:=of_decide_eq_true hg14
  refine JU rfl rfl rfl hg14 (JU rfl rfl rfl hg14 (JU rfl rfl rfl hg14 (Jg (JZ rfl hg14 rfl) rfl (Jg (Jc rfl) rfl (JU rfl rfl rfl rfl (JU rfl rfl rfl rfl (JU rfl rfl rfl rfl (JU rfl rfl rfl rfl (JU rfl rfl rfl rfl (JU rfl rfl rfl rfl (Jg (JZ rfl rfl rfl) rfl (Jf (Ja (hK3 (Ey rfl ?_)))))))))))))));refine Je fun _ hK4 _=>(Jb (Jg (Jd rfl) rfl (Jf (Ja (hK4 (Js (Jk (Jq rfl (Res.tmp rfl) fun w hH=>?_))))))));replace hH:=hH.tail;replace hH:=hH.tail;exact ⟨rb (by unfold isMp;rw [show isAlg ad af=false by simpa using hg14];rfl),hH⟩
 ·
  try have hg14p:=of_decide_eq_false hg14
  refine JX (Jx rfl At.z (by simpa [*] using ag35)) rfl rfl rfl hg14 (ES fn72 rfl rfl hg14 rfl rfl fun w hH=>(l02Is_c hbd hbf (by omega) (by omega) (by omega) hH).mono ?_);rintro _ w ⟨rfl,hH⟩;refine ⟨_,rfl,fun a hF=>JL hF hH ?_⟩;refine JX (Em rfl) rfl rfl rfl hg14 (Jg (JW rfl hg14 rfl) rfl (Jg (Jc rfl) rfl (Ei (jd:=19) rfl (fun hg19=>?_) (fun hg19=>?_))))
  ·
   try have hg19p:=of_decide_eq_true hg19
   refine JU rfl rfl rfl hg19 (JU rfl rfl rfl hg19 (JU rfl rfl rfl hg19 (JU rfl rfl rfl hg19 (JU rfl rfl rfl hg19 (JU rfl rfl rfl hg19 (Jg (JZ rfl hg19 rfl) rfl (Jf (Ja (hK3 (Ey rfl (Je fun _ hK5 _=>(Jb (Jg (Jd rfl) rfl (Jf (Ja (hK5 ?_))))))))))))))));refine Js (Jk (Jq rfl (Res.tmp rfl) fun w hH=>?_));replace hH:=hH.tail;replace hH:=hH.tail;exact ⟨rb (by unfold isMp;rw [show isAlg bd bf=false by simpa using hg19];simp),hH⟩
  ·
   try have hg19p:=of_decide_eq_false hg19
   refine JX (Jc rfl) rfl rfl rfl hg19 (JX (Jm u33 rfl rfl) rfl rfl rfl hg19 (JX (Ju u35 rfl sz22 rfl) rfl rfl rfl hg19 (JX (Jy rfl (.s .z) rfl pl22) rfl rfl rfl hg19 (JX (Jm u22 rfl rfl) rfl rfl rfl hg19 (JX (El rfl rfl) rfl rfl rfl hg19 (Jg (JW rfl hg19 rfl) rfl (Jf (Ja (hK3 (Jp rfl (fun hc26=>?_) (fun hc26=>?_)))))))))))
   ·
    refine Je fun _ hK6 _=>(Jb (Jg (Jd rfl) rfl (Jf (Ja (hK6 (Js (Jk (Jq rfl (Res.tmp rfl) fun w hH=>?_))))))));replace hH:=hH.tail;replace hH:=hH.tail;exact ⟨rb (by unfold isMp;rw [decide_eq_false (show ¬ms.length=ad.length by omega)];simp),hH⟩
   ·
    have hAa:isAlg ad af=true:=by simpa using hg14
    have hBb:isAlg bd bf=true:=by simpa using hg19
    have hAo:=isAlg_ok hAa haf.wfss;have hBo:=isAlg_ok hBb hbf.wfss;have hn:=hBo.hn;have hd:=hBo.hd;have hal:=hAo.hl;have han:=hAo.hn
    have hlen:ms.length=ad.length:=by omega
    have hpos9 : ∀j,j<bd.length→0≤bd.getD j 0:=fun j _=>(hd j).1;refine Jo (Ja (hK2 (Je fun _ hK7 _=>(Je fun _ hK8 _=>(Jb (Jg (Jd rfl) rfl (Jf (Ja (hK8 (Jn (JE (σ:=Nat) (fun (i:Nat)=>[(7,.int .i64 (i:Int))]) (fun (i:Nat)=>H) (fun (i:Nat)=>obj g4 (.cells [.slice qbd bd.length cbd,.slice qbf bf.length cbf].toArray 35 (0,0))::obj g3 (.cells [.slice qad ad.length cad,.slice qaf af.length caf].toArray 35 (0,0))::L) (fun (i:Nat)=>i≤ms.length∧∀j,j<i→mpOk bd ms ad j=true) (fun (i:Nat)=>ms.length - i) 0 ⟨by omega,fun j hj=>by omega⟩ ⟨rfl,trivial⟩ rfl rfl ?_)))))))))));rintro i ⟨hi,hI⟩ _ hAg0;refine Je fun _ hK9 _=>(Je fun _ hK10 _=>(Jb (Jg (Jc rfl) rfl (Jg (Jc rfl) rfl (Jg (Jm u33 rfl rfl) rfl (Jg (JR rfl rfl) rfl (Jf (Ja (hK10 (Jp rfl (fun hc30=>?_) (fun hc30=>?_)))))))))))
    ·
     have hl0:=hml9 i (by omega);have hdi:=hAo.hd i;refine Jo (Ja (hK9 (Je fun _ hK11 _=>(Jn (Je fun _ hK12 _=>(Je fun _ hK13 _=>(Eo [[], [0], [], [], [2,3], [4]] (by kernel_rfl) (JA (fun gh=>Ju u35 rfl sz22 rfl) (JA (fun gh=>Jy rfl At.z rfl pl22) (JA (fun gh=>Jc rfl) (JA (fun gh=>Jc rfl) (JA (fun gh=>JP u33 sz39 rfl rfl rfl (by omega) hms.sm) ?_))))))))))));obtain ⟨qe38,ce38,he38,le38,Fe38⟩:=hms i (by omega);refine JA (fun gh=>JO (cs:=[_]) rfl (one_cell he38) (hms.sm (i:=i) (by omega)) ag39) (Eb 6 1 foll0 (by kernel_rfl) rfl rfl fun gh=>(En (us':=(33,_)::(34,_)::(35,_)::(36,_)::(37,_)::(38,_)::_) (L':=_) rfl rfl (Jw fn105 rfl rfl fun w hH=>(l01Is_c hbd Fe38 (by omega) hpos9 (by omega) hH).mono ?_)));rintro _ w ⟨rfl,hH⟩;refine ⟨_,rfl,fun a hF=>JL hF hH ?_⟩;refine Jf (Ec (JD (Em rfl) rfl (Ef (Ja (hK13 (Eg rfl (fun h40=>?_) (fun h40=>?_)))))))
     ·
      refine Je fun _ hK14 _=>(Jb (Jg (Jd rfl) rfl (Jf (Ja (hK14 (Js (Jk (JT (Jk (Jk (JT (Jk (Jq rfl (Res.tmp rfl) fun w hH=>?_)))))))))))));replace hH:=hH.tail;replace hH:=hH.tail;exact ⟨rb (by unfold isMp;rw [mpsOk_bad (i:=i) (by omega) (mpOk_no1 (by simpa using h40))];simp),hH⟩
     ·
      have hfo:isForm bd (fm ms i)=true:=by simpa using h40
      refine Jo (Ja (hK12 (Je fun _ hK15 _=>(Eo [[], [0], [], [], [2,3], [4]] (by kernel_rfl) (JA (fun gh=>Ju u35 rfl sz22 rfl) (JA (fun gh=>Jy rfl At.z rfl pl22) (JA (fun gh=>Jc rfl) (JA (fun gh=>Jc rfl) (JA (fun gh=>JP u33 sz39 rfl rfl rfl (by omega) hms.sm) ?_)))))))));obtain ⟨qe47,ce47,he47,le47,Fe47⟩:=hms i (by omega);refine JA (fun gh=>JO (cs:=[_]) rfl (one_cell he47) (hms.sm (i:=i) (by omega)) ag39) (Eb 6 1 foll0 (by kernel_rfl) rfl rfl fun gh=>(En (us':=(42,_)::(43,_)::(44,_)::(45,_)::(46,_)::(47,_)::_) (L':=_) rfl rfl (Jw fn106 rfl rfl fun w hH=>(l01Degree_c hbd Fe47 hn hd (by omega) hH).mono ?_)));rintro _ w ⟨rfl,hH⟩;refine ⟨_,rfl,fun a hF=>JL hF hH ?_⟩;refine Jf (Ec (JD (Jc rfl) rfl (JD (JM rfl rfl) rfl (JD (JM rfl rfl) rfl (JD (Jd rfl) rfl (JD (Jd rfl) rfl (Ef (Ja (hK15 (Je fun _ hK16 _=>(Jb (Jg (Jc rfl) rfl (Jg (Em rfl) rfl (Jg (Jc rfl) rfl (Ei (jd:=53) rfl (fun h53=>?_) (fun h53=>?_))))))))))))))))
      ·
       try have h53p:=of_decide_eq_true h53
       refine JU rfl rfl rfl h53 (JU rfl rfl rfl h53 (JU rfl rfl rfl h53 (JU rfl rfl rfl h53 (JU rfl rfl rfl h53 (JU rfl rfl rfl h53 (JU rfl rfl rfl h53 (JU rfl rfl rfl h53 (J.gu rfl rfl rfl (J.gu rfl rfl rfl (J.gu rfl rfl rfl (J.gu rfl rfl rfl (J.gu rfl rfl rfl (J.gu rfl rfl rfl (J.gu rfl rfl rfl ?_))))))))))))));refine JU rfl rfl rfl h53 (Jg (JZ rfl h53 rfl) rfl (Jf (Ja (hK16 (Ey rfl (Je fun _ hK17 _=>(Jb (Jg (Jd rfl) rfl (Jf (Ja (hK17 (Js (JT (Jk (Jk (JT ?_))))))))))))))));refine Jk (Jq rfl (Res.tmp rfl) fun w hH=>?_);replace hH:=hH.tail;replace hH:=hH.tail;exact ⟨rb (by unfold isMp;rw [mpsOk_bad (i:=i) (by omega) (mpOk_no2 (by simpa using h53))];simp),hH⟩
      ·
       try have h53p:=of_decide_eq_false h53
       refine JX (Jc rfl) rfl rfl rfl h53 (JX (Jc rfl) rfl rfl rfl h53 (JX (JP u33 sz39 rfl rfl rfl (by omega) hms.sm) rfl rfl rfl h53 (JX (EB u39 rfl sz37 rfl (hms.sm (i:=i) (by omega))) rfl rfl rfl h53 ?_)));obtain ⟨qe58,ce58,he58,le58,Fe58⟩:=hms i (by omega);refine JX (JB rfl he58 pl37) rfl rfl rfl h53 (JX (Jm u37 rfl rfl) rfl rfl rfl h53 (JX (EC rfl rfl) rfl rfl rfl h53 (JX (Jc rfl) rfl rfl rfl h53 (Ei (jd:=61) rfl (fun h61=>?_) (fun h61=>?_)))))
       ·
        try have h61p:=of_decide_eq_true h61
        refine JX (Jc rfl) rfl rfl rfl h61 (JX (Ju u35 rfl sz22 rfl) rfl rfl rfl h61 (JX (Jy rfl (.s .z) rfl pl22) rfl rfl rfl h61 (JX (Jc rfl) rfl rfl rfl h61 (JX (JP u22 sz2 rfl rfl rfl (by omega) had.sm) rfl rfl rfl h61 (JX (JB rfl (had _ (by omega)) pl2) rfl rfl rfl h61 (JX (El rfl rfl) rfl rfl rfl h61 (JX (JZ rfl h61 rfl) rfl rfl rfl h53 (Jg (JW rfl h53 rfl) rfl (Jf (Ja (hK16 (Jp rfl (fun h70=>?_) (fun h70=>?_)))))))))))))
        ·
         refine Je fun _ hK18 _=>(Jb (Jg (Jd rfl) rfl (Jf (Ja (hK18 (Js (JT (Jk (Jk (JT (Jk (Jq rfl (Res.tmp rfl) fun w hH=>?_))))))))))));replace hH:=hH.tail;replace hH:=hH.tail;exact ⟨rb (by unfold isMp;rw [mpsOk_bad (i:=i) (by omega) (mpOk_no3 (fun e=>(degF_neg hn hd (hms.wfss.fm i) (by simpa using h53)).1 e (by omega)) h70)];simp),hH⟩
        ·
         refine Jo (JF (Ja (hK11 (Jb (Jg (Jc rfl) rfl (Jg (JC rfl rfl (by first | exact nw _ (by omega) | rfl)) rfl (Jg (Jd rfl) rfl (Jf (Ja ?_)))))))));exact hAg0 (i+1) ⟨by omega,upto hI (mpOk_yes hfo (by simpa using h53) (.inr (Decidable.not_not.1 h70)))⟩ (by omega) 48 rfl rfl ⟨rfl,trivial⟩ rfl rfl
       ·
        try have h61p:=of_decide_eq_false h61
        refine JU rfl rfl rfl h61 (JU rfl rfl rfl h61 (JU rfl rfl rfl h61 (JU rfl rfl rfl h61 (JU rfl rfl rfl h61 (JU rfl rfl rfl h61 (JU rfl rfl rfl h61 (JX (JW rfl h61 rfl) rfl rfl rfl h53 (Jg (JW rfl h53 rfl) rfl (Jf (Ja (hK16 (Et rfl (Jo (JF (Ja (hK11 ?_))))))))))))))));refine Jb (Jg (Jc rfl) rfl (Jg (JC rfl rfl (by first | exact nw _ (by omega) | rfl)) rfl (Jg (Jd rfl) rfl (Jf (Ja ?_)))));exact hAg0 (i+1) ⟨by omega,upto hI (mpOk_yes hfo (by simpa using h53) (.inl ((degF_neg hn hd (hms.wfss.fm i) (by simpa using h53)).2 (by omega))))⟩ (by omega) 48 rfl rfl ⟨rfl,trivial⟩ rfl rfl
    ·
     have hM9:=mpsOk_good (bd:=bd) (ad:=ad) (ms:=ms) (fun j hj=>hI j (by omega));refine JH (Jl (Jl (JQ (Ja (hK7 (Je fun _ hK19 _=>(Je fun _ hK20 _=>(Jb (Jg (Jd rfl) rfl (Jf (Ja (hK20 (Jn (JE (σ:=Nat) (fun (k:Nat)=>[(10,.int .i64 (k:Int))]) (fun (k:Nat)=>H) (fun (k:Nat)=>obj g4 (.cells [.slice qbd bd.length cbd,.slice qbf bf.length cbf].toArray 35 (0,0))::obj g3 (.cells [.slice qad ad.length cad,.slice qaf af.length caf].toArray 35 (0,0))::L) (fun (k:Nat)=>k≤ms.length∧∀j,j<k→(kpS bd bf ms af j).length=0) (fun (k:Nat)=>ms.length - k) 0 ⟨by omega,fun j hj=>by omega⟩ ⟨rfl,trivial⟩ rfl rfl ?_))))))))))))));rintro k ⟨hk,hJ⟩ _ hAg1;refine Je fun _ hK21 _=>(Je fun _ hK22 _=>(Jb (Jg (Jc rfl) rfl (Jg (Jc rfl) rfl (Jg (Jm u33 rfl rfl) rfl (Jg (JR rfl rfl) rfl (Jf (Ja (hK22 (Jp rfl (fun hc74=>?_) (fun hc74=>?_)))))))))))
     ·
      have hka:k<af.length:=by omega
      have hLd:=Ld.map hAa (isAlg_deg hBb) haf.wfss hms.wfss hlen (fun j hj=>mpsOk_at hM9 hj) hka;have hls:=hLd.lead;have hll:=hLd.len;rw [toS_len] at hll;have ha4:=isForm_len4 (hAo.ok k hka);have hm5:=(Bool.and_eq_true_iff.1 (mpsOk_at hM9 (show k<ms.length by omega))).1;have hms9:=isForm_sok (hms.wfss.fm k) hm5;have hmk:=isForm_kex hd hn (hms.wfss.fm k) hm5;have hoc:=Ex.occ hmk hBo.hl;have hdl:=dS_len (ds:=bd) hBo.len hoc;have hm4:=isForm_len4 hm5;have hds:=dS_sok (ds:=bd) hms9 hBo.fok hoc;refine Jo (Ja (hK21 (Je fun _ hK23 _=>(Jn (Je fun _ hK24 _=>(Eo [[], [0], [], [], [3], [], [4,5], [6], [1,2,7], [], [], [], [10,11], [12]] (by kernel_rfl) (JA (fun gh=>Ju u35 rfl sz22 rfl) (JA (fun gh=>Jy rfl At.z rfl pl22) (JA (fun gh=>Jc rfl) (JA (fun gh=>Ju u35 rfl sz33 rfl) (JA (fun gh=>Jy rfl (.s .z) rfl pl33) (JA (fun gh=>Jc rfl) (JA (fun gh=>JP u33 sz39 rfl rfl rfl (by omega) haf.sm) ?_)))))))))))));obtain ⟨qe84,ce84,he84,le84,Fe84⟩:=haf k (by omega);refine JA (fun gh=>JO (cs:=[_]) rfl (one_cell he84) (haf.sm (i:=k) (by omega)) ag39) (HJ.callN fn148 (fun gh=>rfl) (fun w X hH=>l04Apply_c hbd hms Fe84 hLd (by omega) (by omega) (by omega) hH) (JA (fun gh=>Jx rfl At.z (by simpa [*] using ag35)) (JA (fun gh=>Jc rfl) (JA (fun gh=>Jc rfl) (JA (fun gh=>JP u33 sz39 rfl rfl rfl (by omega) hms.sm) ?_)))));obtain ⟨qe90,ce90,he90,le90,Fe90⟩:=hms k (by omega);refine JA (fun gh=>JO (cs:=[_]) rfl (one_cell he90) (hms.sm (i:=k) (by omega)) ag39) (Eb 14 2 foll0 (by kernel_rfl) rfl rfl fun gh=>(En (us':=(77,_)::(78,_)::(79,_)::(80,_)::(81,_)::(82,_)::(83,_)::(84,_)::(85,_)::(86,_)::(87,_)::(88,_)::(89,_)::(90,_)::_) (L':=_::_) rfl rfl (Jw fn107 rfl rfl fun w hH=>(l02D_c hbd hbf Fe90 hn hd hBo.fok hBo.hl hBo.kex hms9 hmk (by omega) hBo.len (by omega) hH).mono ?_)));rintro _ w ⟨qo91,co91,rfl,hH⟩;refine ⟨_,rfl,fun a hF=>JL hF hH ?_⟩;refine Jw fn130 rfl rfl fun w hH=>hH.lend (.s .z) fun Hl1 hle1 hA1 hB1 hH=>hH.lend .z fun Hl2 hle2 hA2 hB2 hH=>(l01Add_c (M:=60) ((own_terms (hls.wf (by omega)) hA1).le hle2) (own_terms (hds.wf (by omega)) hA2) (by rw [toS_ofS];exact hls.mono (by omega)) (by rw [toS_ofS];exact hds.g) (by omega) (by omega) (by rw [ofS_len,ofS_len];omega) hH).mono ?_;rintro _ w ⟨qo92,co92,rfl,hH⟩;replace hH:=hB2 _ _ hH;replace hH:=hB1 _ _ hH;refine ⟨_,rfl,fun a hF=>JL hF hH ?_⟩;refine Jf (Ec (JD (PR.fieldV u39 rfl pl37 rfl rfl) rfl (JD (Jm u37 rfl rfl) rfl (JD (EC rfl rfl) rfl (Ef (Ja (hK24 (Jp rfl (fun h95=>?_) (fun h95=>?_)))))))))
      ·
       refine Je fun _ hK25 _=>(Jb (Jg (Jd rfl) rfl (Jf (Ja (hK25 (Js (JT (Jk (Jk (JT (Jk (Jq rfl (Res.tmp rfl) fun w hH=>?_))))))))))));replace hH:=hH.tail;replace hH:=hH.tail;replace hH:=hH.tail;replace hH:=hH.tail;replace hH:=hH.tail;exact ⟨rb (by unfold isMp;rw [kps_bad (i:=k) (by omega) (by simp only [toS_ofS,ofS_len] at h95;show ¬(acc _ _).length=0;omega)];simp),hH⟩
      ·
       refine Jo (JF (Ja (hK23 (Jb (Jg (Jc rfl) rfl (Jg (JC rfl rfl (by first | exact nw _ (by omega) | rfl)) rfl (Jg (Jd rfl) rfl (Jf (Ja (JK .z (JK .z (JK .z ?_))))))))))));exact hAg1 (k+1) ⟨by omega,upto hJ (by simp only [toS_ofS,ofS_len] at h95;show (acc _ _).length=0;omega)⟩ (by omega) 27 rfl rfl ⟨rfl,trivial⟩ rfl rfl
     ·
      refine JH (Jl (Jl (JQ (Ja (hK19 (Je fun _ hK26 _=>(Jb (Jg (Jd rfl) rfl (Jf (Ja (hK26 (Js (Jq rfl (Res.tmp rfl) fun w hH=>?_)))))))))))));replace hH:=hH.tail;replace hH:=hH.tail;exact ⟨rb (by unfold isMp;rw [hAa,hBb,hM9,decide_eq_true hlen,kps_good (fun j hj=>hJ j (by omega))];rfl),hH⟩
theorem u233:Tryz.prog.underlying 233=some (TypeDesc.array 2 3):=by kernel_rfl
def k2Ok (p:Pw):Prop:=p.length=2∧Small p
theorem keyLits2 {P:Program} {t e:TypeId} {d:Nat} {p:Pw} (ht:P.underlying t=some (.array 2 e)) (he:P.underlying e=some (.int .i64)) (hc:P.cellsOf e=1) (hct:P.cellsOf t=2) (h:k2Ok p) : ∃ls,P.keyLits (d+2) t (intsC p)=some ls:=by
 unfold Program.keyLits;rw [ht];simp only [intsC_length,hct,h.1,if_true]
 have key : ∀i,i<2→∃l,P.keyLits (d+1) e (((intsC p).drop (i * P.cellsOf e)).take (P.cellsOf e))=some l:=by
  intro i hi;have hb:=h.2 i;rw [hc,Nat.mul_one,List.drop_eq_getElem_cons (by simp [h.1];omega),List.take_succ_cons,List.take_zero]
  have e1:(intsC p)[i]'(by simp [h.1];omega) = .int .i64 (p.getD i 0):=by
   have:=intsC_get (m:=p) (i:=i) (by rw [h.1];omega);rw [List.getElem?_eq_getElem (by simp [h.1];omega)] at this;exact Option.some.inj this
  rw [e1];refine ⟨[.int .i64 (p.getD i 0)],?_⟩;generalize p.getD i 0=x at hb
  have hw:(Lit.int .i64 x).wf=true:=by
   simp [Lit.wf,IntKind.min,IntKind.max,IntKind.signed,IntKind.bits]
   omega
  unfold Program.keyLits;rw [he]
  simp [hw]
 have hm : ∀(l:List Nat),(∀i∈l,i<2)→∃r,l.mapM (fun i=>P.keyLits (d+1) e (((intsC p).drop (i * P.cellsOf e)).take (P.cellsOf e)))=some r:=by
  intro l
  induction l with
  | nil=>intro _;exact ⟨[],rfl⟩
  | cons i l ih=>
   intro hl;obtain ⟨a,ha⟩:=key i (hl i (by simp));obtain ⟨r,hr⟩:=ih fun j hj=>hl j (by simp [hj]);exact ⟨a::r,by simp [List.mapM_cons,ha,hr]⟩
 obtain ⟨r,hr⟩:=hm (List.range 2) fun i hi=>List.mem_range.1 hi;rw [hr];exact ⟨_,rfl⟩
theorem k2K:KeyT Tryz.prog 233 pwE k2Ok:=KeyT.of (Go.Maps.Keyed.of_law (deep_law_laid (m:=5) (by kernel_rfl) (by decide) (of_decide_eq_true (by kernel_rfl)) (by kernel_rfl) (by kernel_rfl))) pwE_inj fun p hp=>by
 obtain ⟨ls,hl⟩:=keyLits2 (P:=Tryz.prog) (t:=233) (e:=3) (d:=Tryz.prog.types.size - 1) u233 u3 (by kernel_rfl) (by kernel_rfl) hp
 have e1:Tryz.prog.types.size - 1+2=Tryz.prog.types.size+1:=by kernel_rfl
 rw [e1] at hl
 have hc8:Tryz.prog.cellsOf 233=2:=by kernel_rfl
 have hf:(pwE p).formed Tryz.prog 233=true:=by
  simp [pwE,Value.formed,u233,hc8,hp.1]
 refine ⟨.string (keyBytes ls),?_⟩
 unfold keyOf
 rw [u233]
 simp only []
 have hkt:Tryz.prog.keyType 233=true:=by kernel_rfl
 rw [hkt,hf]
 simp only [Bool.and_self,if_true]
 have:(pwE p).cells.toList=intsC p:=by simp [pwE,Value.cells]
 rw [this,hl]
 rfl
def mvE (b:Nat):Value:=.map (some b)
abbrev okn (kb:Nat) (xs:List (Pw × Nat)):SA:=omap pwE mvE k2Ok kb xs
def kF (ds:Pw) (ss:Nat→Sm) (p:Pw):Sm:=pwS ds (ss (p.getD 0 0).toNat) (p.getD 1 0).toNat
theorem kF_at (ds:Pw) (ss:Nat→Sm) (i x:Nat):kF ds ss [(i:Int),(x:Int)]=pwS ds (ss i) x:=by simp [kF]
def sms (f:Pw→Sm) (n:Nat) (vs:Vs) (xs:List (Pw × Nat)):SA where
 fp:=fun b=>∃j,j<n∧b=(vs j).2
 holds:=fun h=>∀x∈xs,(∃j,j<n∧x.2=(vs j).2)∧(osum x.2 (f x.1)).holds h
 loc:=fun h h' hb hh x hx=>by
  obtain ⟨⟨j,hj,e⟩,h2⟩:=hh x hx
  exact ⟨⟨j,hj,e⟩,(osum x.2 (f x.1)).loc h h' (fun b hb'=>hb b ⟨j,hj,(show b=x.2 from hb').trans e⟩) h2⟩
def knw (f:Pw→Sm) (kb n:Nat) (vs:Vs):SA where
 fp:=fun b=>b=kb∨∃j,j<n∧b=(vs j).2
 holds:=fun h=>∃xs,(okn kb xs).holds h∧(sms f n vs xs).holds h∧∀j,j<n→(vs j).2≠kb
 loc:=fun h h' hb hh=>by
  obtain ⟨xs,h1,h2,h3⟩:=hh
  exact ⟨xs,(okn kb xs).loc h h' (fun b hb'=>hb b (.inl hb')) h1,(sms f n vs xs).loc h h' (fun b hb'=>hb b (.inr hb')) h2,h3⟩
def knwR (f:Pw→Sm) (kb n:Nat) (vs:Vs) (b:Nat) (s:Sm):SA where
 fp:=fun b=>b=kb∨∃j,j<n∧b=(vs j).2
 holds:=fun h=>(knw f kb n vs).holds h∧(∃j,j<n∧b=(vs j).2)∧(osum b s).holds h
 loc:=fun h h' hb hh=>by
  obtain ⟨h1,⟨j,hj,e⟩,h2⟩:=hh
  exact ⟨(knw f kb n vs).loc h h' hb h1,⟨j,hj,e⟩,(osum b s).loc h h' (fun b' hb'=>hb b' (.inr ⟨j,hj,(show b'=b from hb').trans e⟩)) h2⟩
theorem knwR_H {f:Pw→Sm} {kb n b:Nat} {vs:Vs} {s:Sm} {h:HP} (hh:(knwR f kb n vs b s).holds h):SumH h (.map (some b)) s:=omap_H hh.2.2
section
variable {P : Program} {ops : Array Oper} {Q : Exit → Act → World → Prop} {n : Nat} {B : World} {H0 H : HP} {rest : List Oper} {us : List (Nat × Value)} {L L' : List SA} {R : Act → World → Prop} {w : World}
variable {f : Pw → Sm} {kb m b : Nat} {vs : Vs} {s : Sm} {xs ys : List (Pw × Nat)} {p : Pw}
theorem Hp.knwOpen (h:Hp B H0 H (knw f kb m vs::L) w) : ∃xs,Hp B H0 H (okn kb xs::sms f m vs xs::L) w:=by
 obtain ⟨⟨xs,h1,h2,h3⟩,_⟩:=h.objs _ (List.mem_cons_self);refine ⟨xs,Hp.unstar (h.reAt (A':=G.star (okn kb xs) (sms f m vs xs)) .z ⟨h1,h2,fun b hb hb'=>?_⟩ fun b hb=>hb)⟩;obtain ⟨j,hj,e⟩:=hb';exact h3 j hj (e.symm.trans hb)
theorem Hp.knwShut (h:Hp B H0 H (okn kb xs::sms f m vs xs::L) w):Hp B H0 H (knw f kb m vs::L) w:=by
 have h1:=h.star;obtain ⟨⟨hA,hC,hd⟩,_⟩:=h1.objs (G.star (okn kb xs) (sms f m vs xs)) List.mem_cons_self;exact h1.reAt .z ⟨xs,hA,hC,fun j hj e=>hd kb rfl ⟨j,hj,e.symm⟩⟩ fun b hb=>hb
theorem Hp.knwForget (h:Hp B H0 H (knwR f kb m vs b s::L) w):Hp B H0 H (knw f kb m vs::L) w:=
 h.reAt .z (h.objs (knwR f kb m vs b s) List.mem_cons_self).1.1 fun b hb=>hb
theorem Hp.knwGet (hs:f p=s) (hx:(p,b)∈xs) (h:Hp B H0 H (okn kb xs::sms f m vs xs::L) w):Hp B H0 H (knwR f kb m vs b s::L) w:=by
 subst hs;have h1:=h.knwShut;obtain ⟨hA,_⟩:=h.objs (sms f m vs xs) (by simp);exact h1.reAt .z ⟨(h1.objs (knw f kb m vs) List.mem_cons_self).1,(hA _ hx).1,(hA _ hx).2⟩ fun b hb=>hb
theorem Hp.smsAdd (hy : ∀x∈ys,x∈xs∨(x.2=b∧f x.1=s)) (h:Hp B H0 H (osum b s::sms f m vs xs::L) w):Hp B H0 H (sms f (m+1) (updV vs m (none,b)) ys::L) w:=by
 have h1:=h.star;obtain ⟨⟨hA,hC,_⟩,_⟩:=h1.objs (G.star (osum b s) (sms f m vs xs)) List.mem_cons_self;refine h1.reAt .z (fun x hx=>?_) fun b' hb'=>?_
 ·rcases hy x hx with h2 | ⟨h2,h3⟩
  ·obtain ⟨⟨j,hj,e⟩,h4⟩:=hC x h2;exact ⟨⟨j,by omega,by rw [e];simp [updV,Nat.ne_of_lt hj]⟩,h4⟩
  ·exact ⟨⟨m,by omega,by simp [updV,h2]⟩,by rw [h2,h3];exact hA⟩
 ·obtain ⟨j,hj,e⟩:=hb'
  by_cases hjm:j=m
  ·left
   subst hjm
   show b'=b
   simpa [updV] using e
  ·right
   exact ⟨j,by omega,by simpa [updV,hjm] using e⟩
theorem Hp.knwAdd (hy : ∀x∈ys,x∈xs∨(x.2=b∧f x.1=s)) (h:Hp B H0 H (osum b s::okn kb ys::sms f m vs xs::L) w):Hp B H0 H (knwR f kb (m+1) (updV vs m (none,b)) b s::L) w:=by
 have h1:=(h.front (.s (.s .z))).front (.s .z);have h2:=((h1.smsAdd hy).front (.s .z)).knwShut;have hA:=(h.objs (osum b s) (by simp)).1;exact h2.reAt .z ⟨(h2.objs (knw f kb (m+1) (updV vs m (none,b))) List.mem_cons_self).1,⟨m,by omega,by simp [updV]⟩,hA⟩ fun b hb=>hb
theorem Hp.knwNew (hs:f p=s) (h:Hp B H0 H (osum b s::okn kb (putM xs p b)::sms f m vs xs::L) w):Hp B H0 H (knwR f kb (m+1) (updV vs m (none,b)) b s::L) w:=
 h.knwAdd fun x hx=>by
  rcases List.mem_cons.1 hx with rfl | hx
  ·exact .inr ⟨rfl,hs⟩
  ·exact .inl (List.mem_filter.1 hx).1
theorem Hp.knwOne (h:Hp B H0 H (osum b s::okn kb xs::sms f m vs xs::L) w):Hp B H0 H (knwR f kb (m+1) (updV vs m (none,b)) b s::L) w:=
 h.knwAdd fun x hx=>.inl hx
theorem Hp.knw0 (h:Hp B H0 H (okn kb []::L) w):Hp B H0 H (knw f kb 0 vs::L) w:=
 Hp.knwShut (xs:=[]) ((h.emp.reAt (A':=sms f 0 vs []) .z (fun x hx=>by simp at hx) fun b hb=>by obtain ⟨j,hj,_⟩:=hb;omega).front (.s .z))
theorem CJ.reH {c:Code} (g : ∀w,Hp B H0 H L w→Hp B H0 H L' w) (h:CJ P c Q n B H0 us H L'):CJ P c Q n B H0 us H L:=fun a w hF hH=>h a w hF (g w hH)
theorem EJ.knwOpen (k : ∀xs,EJ R n B H0 us H (okn kb xs::sms f m vs xs::L)):EJ R n B H0 us H (knwR f kb m vs b s::L):=fun a w hF hH=>by
 obtain ⟨xs,h⟩:=hH.knwForget.knwOpen
 exact k xs a w hF h
theorem EJ.knwForget (k:EJ R n B H0 us H (knw f kb m vs::L)):EJ R n B H0 us H (knwR f kb m vs b s::L):=fun a w hF hH=>k a w hF hH.knwForget
theorem look_mem {k:Pw} {b:Nat} (h:look xs k=some b):(k,b)∈xs:=by
 unfold look at h;obtain ⟨x,hx,rfl⟩:=Option.map_eq_some_iff.1 h;have h1:=List.find?_some hx;have h2:=List.mem_of_find?_eq_some hx
 have e:x.1=k:=by simpa using h1
 rw [← e];exact h2
end
def ImR (H:HP) (q:Option Addr) (n:Nat) (ss:Nat→Sm):Prop:=∀i,i<n→∃g,cellO H q i=some (.map (some g))∧SumH H (.map (some g)) (ss i)
theorem ImR.le {H H':HP} {q:Option Addr} {n:Nat} {ss:Nat→Sm} (h:ImR H q n ss) (hle:Le H H'):ImR H' q n ss:=fun i hi=>by
 obtain ⟨g,h1,h2⟩:=h i hi
 exact ⟨g,cellO_le hle h1,h2.le hle⟩
theorem ImR.sm {H:HP} {q:Option Addr} {n:Nat} {ss:Nat→Sm} (h:ImR H q n ss) {i:Nat} (hi:i<n):q.isSome=true:=by
 obtain ⟨g,h1,_⟩:=h i hi;exact cellO_some h1
theorem number_c {B:World} {H0 H:HP} {L:List SA} {w:World} (hH:Hp B H0 H L w):Calls Tryz.prog 185 [].toArray w fun e w'=>∃b,e = .returned (.map (some b))∧Hp B H0 H (osum b oneS::L) w':=by
 refine Jz Tryz.func185 rfl 4 rfl rfl [] rfl hH ?_;clear hH;refine Je fun _ hK1 _=>(Jb (Jg (Jd rfl) rfl (Jf (Ja (hK1 (Je fun _ hK2 _=>(Jb (EI pwE (Value.int .i64) pwOk rfl fun bm1=>(Jg (Ew bz160) rfl (J.putOne pwK u84 rfl rfl rfl (pwOk_of (zP_pok (M:=0) (by omega)) (by omega)) At.z (Jg (Jc rfl) rfl (Jg (Jd rfl) rfl (Jf (Ja (hK2 (Js ?_))))))))))))))));refine Jq rfl (Res.tmp rfl) fun w hH=>?_;replace hH:=hH.sublist (.cons_cons _ (List.Sublist.refl _));exact ⟨_,rfl,hH⟩
theorem u184:Tryz.prog.underlying 184=some (TypeDesc.map 233 84):=by kernel_rfl
theorem u185:Tryz.prog.underlying 185=some (TypeDesc.slice 84):=by kernel_rfl
theorem u187:Tryz.prog.underlying 187=some (TypeDesc.struct #[{name:="from",type:=22,offset:=0,embedded:=false,tag:="",pkgPath:="loop.example/g01219/impl",byteOffset:=0},{name:="to",type:=22,offset:=1,embedded:=false,tag:="",pkgPath:="loop.example/g01219/impl",byteOffset:=24},{name:="images",type:=185,offset:=2,embedded:=false,tag:="",pkgPath:="loop.example/g01219/impl",byteOffset:=48},{name:="known",type:=184,offset:=3,embedded:=false,tag:="",pkgPath:="loop.example/g01219/impl",byteOffset:=72}]):=by kernel_rfl
theorem sz184:Size Tryz.prog 184 1:=by unfold Size;kernel_rfl
theorem sz185:Size Tryz.prog 185 1:=by unfold Size;kernel_rfl
theorem sz233:Size Tryz.prog 233 2:=by unfold Size;kernel_rfl
theorem ze233:Zero Tryz.prog 233 [.int .i64 0,.int .i64 0]:=by unfold Zero;kernel_rfl
theorem zv84:ZeroV Tryz.prog 84 (.map none):=fun _=>by kernel_rfl
theorem pl184:Plain Tryz.prog 184:=⟨_,u184,rfl⟩
theorem pl185:Plain Tryz.prog 185:=⟨_,u185,rfl⟩
theorem ag233:Agg Tryz.prog 233 2:=⟨_,u233,rfl,by kernel_rfl⟩
theorem fn185:Fn Tryz.prog 185:=⟨_,Tryz.func185,by kernel_rfl,rfl⟩
theorem fn186:Fn Tryz.prog 186:=⟨_,Tryz.func186,by kernel_rfl,rfl⟩
theorem bld2 : ∀(i x:Int) w,(Instr.build 233 #[(0,.int .i64 i),(1,.int .i64 x)]).run Tryz.prog w = .ok (.agg [Value.int .i64 i,Value.int .i64 x].toArray) w:=fun _ _ _=>by kernel_rfl
theorem powX_c {B:World} {H0 H:HP} {L:List SA} {w:World} {bld kbld nld:Nat} {qldf qldt qldi:Option Addr} {cldf cldt cldi:Nat} {ldf ldt:List Int} {lds:Nat→Sm} {i:Nat} {x:Nat} {m:Nat} {vs:Vs} {xs:List (Pw × Nat)} {d:Int} (pld0:CellAt H bld 0 (.slice qldf ldf.length cldf)) (pld1:CellAt H bld 1 (.slice qldt ldt.length cldt)) (pld2:CellAt H bld 2 (.slice qldi nld cldi)) (pld3:CellAt H bld 3 (.map (some kbld))) (hldf:Ints H qldf ldf) (hldt:Ints H qldt ldt) (hldi:ImR H qldi nld lds) (hi:i<nld) (hi8:i≤8) (hx9:x≤1000000) (hd:Dg ldt) (hw:Ws ldt d (lds i)) (h0:0≤d) (hde:(x:Int) * d≤20) (hrec : ∀(x1:Nat) (y:Int),y=(x1:Int)→x=x1+1→∀(L:List SA) (w:World) (m:Nat) (vs:Vs),Hp B H0 H (knw (kF ldt lds) kbld m vs::L) w→Calls Tryz.prog 186 [.pointer (some ⟨bld,0,none⟩),.int .i64 (i:Int),.int .i64 y].toArray w fun r w'=>∃b m' vs',r = .returned (.map (some b))∧Hp B H0 H (knwR (kF ldt lds) kbld m' vs' b (pwS ldt (lds i) x1)::L) w') (hH:Hp B H0 H (okn kbld xs::sms (kF ldt lds) m vs xs::L) w):Calls Tryz.prog 186 [.pointer (some ⟨bld,0,none⟩),.int .i64 (i:Int),.int .i64 (x:Int)].toArray w fun e w'=>∃b m' vs',e = .returned (.map (some b))∧Hp B H0 H (knwR (kF ldt lds) kbld m' vs' b (pwS ldt (lds i) x)::L) w':=by
 refine Jz Tryz.func186 rfl 52 rfl rfl [(0,.pointer (some ⟨bld,0,none⟩)),(1,.int .i64 (i:Int)),(2,.int .i64 (x:Int))] rfl hH ?_;clear hH;obtain ⟨gi,hgi,hsi⟩:=hldi i hi;have hk2:k2Ok [(i:Int),(x:Int)]:=⟨rfl,fun j=>by rcases j with _ | _ | j <;> simp <;> omega⟩;refine Je fun _ hK1 _=>(Jb (Jg (Jd rfl) rfl (Jf (Ja (hK1 (Je fun _ hK2 _=>(Je fun _ hK3 _=>(Jb (Jg (Jc rfl) rfl (Jg (EG rfl rfl) rfl (Jf (Ja (hK3 (Jp rfl (fun h12=>?_) (fun h12=>?_)))))))))))))))
 ·
  refine Je fun _ hK4 _=>(Jb (Jw fn185 rfl rfl fun w hH=>(number_c hH).mono ?_));rintro _ w ⟨bo13,rfl,hH⟩;refine ⟨_,rfl,fun a hF=>JL hF hH ?_⟩;refine Jg (Jd rfl) rfl (Jf (Ja (hK4 (Js (Jk (Jq rfl (Res.tmp rfl) fun w hH=>?_))))));replace hH:=hH.sublist (.cons_cons _ (.cons_cons _ (.cons_cons _ (List.Sublist.refl _))))
  have ex:x=0:=by omega
  subst ex;exact ⟨_,_,_,rfl,hH.knwOne⟩
 ·
  refine Jo (Ja (hK2 (Je fun _ hK5 _=>(Jb (Jg (Jc rfl) rfl (Jg (Jc rfl) rfl (Jg (EX rfl rfl (fun w=>bld2 _ _ w)) rfl (JV ze233 rfl fun g7=>(JJ rfl rfl (by first | exact bytesC_one _ | exact intsC_one _ | exact Term.c_one _ | simp [Value.oneCell']) (by simpa [*] using sz233) (by simp [*]) At.z (Jf (Ja (hK5 (Je fun _ hK6 _=>(Je fun _ hK7 _=>(Eu foll0 (by kernel_rfl) (JD (Jc rfl) rfl ?_))))))))))))))));refine JD (JG rfl) rfl (JD (Ju u187 rfl sz184 rfl) rfl (JD (JB (q:=some ⟨bld,0,none⟩) (k:=3) rfl pld3 pl184) rfl (JD (Jx rfl At.z (by simpa [*] using ag233)) rfl (JD (PR.lookO2 u184 k2K zv84 rfl (.s .z) rfl hk2) rfl (JD (Jc rfl) rfl (JD (JM rfl rfl) rfl (JD (JM rfl rfl) rfl (JD (Jd rfl) rfl (JD (Jd rfl) rfl (Ef (Ja (hK7 (Je fun _ hK8 _=>(Jb (Jg (Jc rfl) rfl ?_)))))))))))))));refine Jf (Ja (hK8 (Eg rfl (fun h26=>?_) (fun h26=>?_))))
  ·
   refine Je fun _ hK9 _=>(Jb (Jg (Jc rfl) rfl (Jg (Jd rfl) rfl (Jf (Ja (hK9 (Js (Jk (Jq rfl (Res.tmp rfl) fun w hH=>?_)))))))));replace hH:=hH.sublist (.cons _ (.cons_cons _ (.cons_cons _ (List.Sublist.refl _))));obtain ⟨b,hb⟩:=Option.isSome_iff_exists.1 h26;exact ⟨b,m,vs,by rw [hb];rfl,Hp.knwGet (kF_at ldt lds i x) (look_mem hb) hH⟩
  ·
   obtain ⟨x1,hx1⟩ : ∃x1,x=x1+1:=⟨x - 1,by omega⟩
   have e1:(x:Int) * d=(x1:Int) * d+d:=by rw [hx1,Int.natCast_add,Int.add_mul];simp
   have hd1:(x1:Int) * d≤20:=by omega
   have hp1:=hw.pw hd h0 x1 hd1;refine CJ.reH (fun w hH=>Hp.knwShut ((hH.front (.s (.s .z))).front (.s (.s .z)))) (Jo (Ja (hK6 (Je fun _ hK10 _=>(Ej (Rs:=[_,_]) 18 [[], [], [], [2], [0,1,2,3], [], [5], [5,6], [5,6,7], [], [9], [9,10], [9,10,11], [], [9,10,11,12,13], [9,10,11,12,13,14], [0,1,2,3,4,5,6,7,8,9,10,11,12,13,14,15], [0,1,2,3,4,5,6,7,8,9,10,11,12,13,14,15,16]] [[], [], [], [], [], [], [], [], [], [], [], [], [], [], [], [], [4], []] [[], [], [], [], [18], [], [], [], [], [], [], [], [], [], [], [], [], []] rfl rfl (by kernel_rfl) ?_)))));apply Jj 1 rfl
   iterate 3 focus (intros;(conv=>lhs;simp only [Jh,Jt,JN,Jv,JI,eq_self,reduceEqDiff,reduceIte,reduceSub,reduceAdd,JxA,JxB]);all_goals rfl)
   ·
    intro gh X K zq zc zq2 zc2 zb zv hK;refine Jg (Jc rfl) rfl (Ji ?_);exact hK zq zc zq2 zc2 zb zv
   ·
    intro gh gh' h
    rfl
   apply Jj 2 rfl
   iterate 3 focus (intros;(conv=>lhs;simp only [Jh,Jt,JN,Jv,JI,eq_self,reduceEqDiff,reduceIte,reduceSub,reduceAdd,JxA,JxB]);all_goals rfl)
   ·
    intro gh X K zq zc zq2 zc2 zb zv hK;refine Jg (Jc rfl) rfl (Ji ?_);exact hK zq zc zq2 zc2 zb zv
   ·
    intro gh gh' h
    rfl
   apply Jj 3 rfl
   iterate 3 focus (intros;(conv=>lhs;simp only [Jh,Jt,JN,Jv,JI,eq_self,reduceEqDiff,reduceIte,reduceSub,reduceAdd,JxA,JxB]);all_goals rfl)
   ·
    intro gh X K zq zc zq2 zc2 zb zv hK;refine Jg (Jc rfl) rfl (Ji ?_);exact hK zq zc zq2 zc2 zb zv
   ·
    intro gh gh' h
    rfl
   apply Jj 4 rfl
   iterate 3 focus (intros;(conv=>lhs;simp only [Jh,Jt,JN,Jv,JI,eq_self,reduceEqDiff,reduceIte,reduceSub,reduceAdd,JxA,JxB]);all_goals rfl)
   ·
    intro gh X K zq zc zq2 zc2 zb zv hK;refine Jg (EL rfl rfl (by first | exact nw _ (by omega) | rfl)) rfl (Ji ?_);exact hK zq zc zq2 zc2 zb zv
   ·
    intro gh gh' h
    rfl
   apply Ea 5 rfl
   iterate 3 focus (intros;(conv=>lhs;simp only [Jh,Jt,JN,Jv,JI,eq_self,reduceEqDiff,reduceIte,reduceSub,reduceAdd,JxA,JxB]);all_goals rfl)
   ·
    intro gh X K zq zc zq2 zc2 zb zv hK;refine Jw fn186 rfl rfl fun w hH=>(hrec x1 _ (by omega) hx1 _ _ _ _ hH).mono ?_;rintro _ w ⟨bo32,mo32,vo32,rfl,hH⟩;refine ⟨_,rfl,fun a hF=>JL hF hH ?_⟩;refine Ji ?_;exact hK zq mo32 zq2 zc2 bo32 vo32
   ·
    intro gh gh' h;refine ⟨?_,?_⟩ <;> rfl
   apply Jj 6 rfl
   iterate 3 focus (intros;(conv=>lhs;simp only [Jh,Jt,JN,Jv,JI,eq_self,reduceEqDiff,reduceIte,reduceSub,reduceAdd,JxA,JxB]);all_goals rfl)
   ·
    intro gh X K zq zc zq2 zc2 zb zv hK;refine Jg (Jc rfl) rfl (Ji ?_);exact hK zq zc zq2 zc2 zb zv
   ·
    intro gh gh' h
    rfl
   apply Jj 7 rfl
   iterate 3 focus (intros;(conv=>lhs;simp only [Jh,Jt,JN,Jv,JI,eq_self,reduceEqDiff,reduceIte,reduceSub,reduceAdd,JxA,JxB]);all_goals rfl)
   ·
    intro gh X K zq zc zq2 zc2 zb zv hK;refine Jg (JG rfl) rfl (Ji ?_);exact hK zq zc zq2 zc2 zb zv
   ·
    intro gh gh' h
    rfl
   apply Jj 8 rfl
   iterate 3 focus (intros;(conv=>lhs;simp only [Jh,Jt,JN,Jv,JI,eq_self,reduceEqDiff,reduceIte,reduceSub,reduceAdd,JxA,JxB]);all_goals rfl)
   ·
    intro gh X K zq zc zq2 zc2 zb zv hK;refine Jg (Ju u187 rfl sz22 rfl) rfl (Ji ?_);exact hK zq zc zq2 zc2 zb zv
   ·
    intro gh gh' h
    rfl
   apply Jj 9 rfl
   iterate 3 focus (intros;(conv=>lhs;simp only [Jh,Jt,JN,Jv,JI,eq_self,reduceEqDiff,reduceIte,reduceSub,reduceAdd,JxA,JxB]);all_goals rfl)
   ·
    intro gh X K zq zc zq2 zc2 zb zv hK;refine Jg (JB (q:=some ⟨bld,0,none⟩) (k:=1) rfl pld1 pl22) rfl (Ji ?_);exact hK zq zc zq2 zc2 zb zv
   ·
    intro gh gh' h
    rfl
   apply Jj 10 rfl
   iterate 3 focus (intros;(conv=>lhs;simp only [Jh,Jt,JN,Jv,JI,eq_self,reduceEqDiff,reduceIte,reduceSub,reduceAdd,JxA,JxB]);all_goals rfl)
   ·
    intro gh X K zq zc zq2 zc2 zb zv hK;refine Jg (Jc rfl) rfl (Ji ?_);exact hK zq zc zq2 zc2 zb zv
   ·
    intro gh gh' h
    rfl
   apply Jj 11 rfl
   iterate 3 focus (intros;(conv=>lhs;simp only [Jh,Jt,JN,Jv,JI,eq_self,reduceEqDiff,reduceIte,reduceSub,reduceAdd,JxA,JxB]);all_goals rfl)
   ·
    intro gh X K zq zc zq2 zc2 zb zv hK;refine Jg (JG rfl) rfl (Ji ?_);exact hK zq zc zq2 zc2 zb zv
   ·
    intro gh gh' h
    rfl
   apply Jj 12 rfl
   iterate 3 focus (intros;(conv=>lhs;simp only [Jh,Jt,JN,Jv,JI,eq_self,reduceEqDiff,reduceIte,reduceSub,reduceAdd,JxA,JxB]);all_goals rfl)
   ·
    intro gh X K zq zc zq2 zc2 zb zv hK;refine Jg (Ju u187 rfl sz185 rfl) rfl (Ji ?_);exact hK zq zc zq2 zc2 zb zv
   ·
    intro gh gh' h
    rfl
   apply Jj 13 rfl
   iterate 3 focus (intros;(conv=>lhs;simp only [Jh,Jt,JN,Jv,JI,eq_self,reduceEqDiff,reduceIte,reduceSub,reduceAdd,JxA,JxB]);all_goals rfl)
   ·
    intro gh X K zq zc zq2 zc2 zb zv hK;refine Jg (JB (q:=some ⟨bld,0,none⟩) (k:=2) rfl pld2 pl185) rfl (Ji ?_);exact hK zq zc zq2 zc2 zb zv
   ·
    intro gh gh' h
    rfl
   apply Jj 14 rfl
   iterate 3 focus (intros;(conv=>lhs;simp only [Jh,Jt,JN,Jv,JI,eq_self,reduceEqDiff,reduceIte,reduceSub,reduceAdd,JxA,JxB]);all_goals rfl)
   ·
    intro gh X K zq zc zq2 zc2 zb zv hK;refine Jg (Jc rfl) rfl (Ji ?_);exact hK zq zc zq2 zc2 zb zv
   ·
    intro gh gh' h
    rfl
   apply Jj 15 rfl
   iterate 3 focus (intros;(conv=>lhs;simp only [Jh,Jt,JN,Jv,JI,eq_self,reduceEqDiff,reduceIte,reduceSub,reduceAdd,JxA,JxB]);all_goals rfl)
   ·
    intro gh X K zq zc zq2 zc2 zb zv hK;refine Jg (JP (i':=i) u185 sz84 rfl rfl rfl hi hldi.sm) rfl (Ji ?_);exact hK zq zc zq2 zc2 zb zv
   ·
    intro gh gh' h
    rfl
   apply Jj 16 rfl
   iterate 3 focus (intros;(conv=>lhs;simp only [Jh,Jt,JN,Jv,JI,eq_self,reduceEqDiff,reduceIte,reduceSub,reduceAdd,JxA,JxB]);all_goals rfl)
   ·
    intro gh X K zq zc zq2 zc2 zb zv hK;refine Jg (JB rfl hgi pl84) rfl (Ji ?_);exact hK zq zc zq2 zc2 zb zv
   ·
    intro gh gh' h
    rfl
   apply Ea 17 rfl
   iterate 3 focus (intros;(conv=>lhs;simp only [Jh,Jt,JN,Jv,JI,eq_self,reduceEqDiff,reduceIte,reduceSub,reduceAdd,JxA,JxB]);all_goals rfl)
   ·
    intro gh X K zq zc zq2 zc2 zb zv hK;refine Jw fn90 rfl rfl fun w hH=>hH.lend .z fun Hl1 hle1 hA1 hB1 hH=>(times_c (knwR_H hA1) hp1.sok (hldt.le hle1) (hsi.le hle1) hw.sok hd.hn hd.hd (by omega) hH).mono ?_;rintro _ w ⟨bo44,rfl,hH⟩;replace hH:=hB1 _ _ hH;refine ⟨_,rfl,fun a hF=>JL hF hH ?_⟩;refine Jr .z (Jr (.s .z) (Ji ?_));exact hK zq zc zq2 zc2 bo44 zv
   ·
    intro gh gh' h;refine ⟨?_,?_⟩ <;> (first | simp only [h 4 rfl] | rfl)
   apply Jj 18 rfl
   iterate 3 focus (intros;(conv=>lhs;simp only [Jh,Jt,JN,Jv,JI,eq_self,reduceEqDiff,reduceIte,reduceSub,reduceAdd,JxA,JxB]);all_goals rfl)
   ·
    intro gh X K zq zc zq2 zc2 zb zv hK;refine Jg (Jd rfl) rfl (Ji ?_);exact hK zq zc zq2 zc2 zb zv
   ·
    intro gh gh' h
    first | simp only [h 4 rfl,h 16 rfl] | rfl
   apply Ek [0,1,2,3,4,5,6,7,8,9,10,11,12,13,14,15,16,17] [0,1,2,3,4,5,6,7,8,9,10,11,12,13,14,15,16,17,19] foll0 rfl rfl rfl (by rfl)
   iterate 2 focus (intros;(conv=>lhs;simp only [Jh,Jt,JN,Jv,JI,eq_self,reduceEqDiff,reduceIte,reduceSub,reduceAdd,JxA,JxB]);all_goals rfl)
   intro gh;generalize (gh 4).b=bo32;generalize (gh 4).c=mo32;generalize (gh 4).vs=vo32;generalize (gh 16).b=bo44;clear gh;refine Jr .z (EJ.knwOpen fun xs2=>(Ja (hK10 (Je fun _ hK11 _=>(Eo [[], [0], [1], [2], [], []] (by kernel_rfl) (JA (fun gh=>Jc rfl) (JA (fun gh=>JG rfl) (JA (fun gh=>Ju u187 rfl sz184 rfl) (JA (fun gh=>JB (q:=some ⟨bld,0,none⟩) (k:=3) rfl pld3 pl184) (JA (fun gh=>Jx rfl (.s (.s (.s .z))) (by simpa [*] using ag233)) (JA (fun gh=>Jc rfl) (Eb 6 1 foll0 (by kernel_rfl) rfl rfl fun gh=>(En (us':=(45,_)::(46,_)::(47,_)::(48,_)::(49,_)::(50,_)::_) (L':=_) rfl rfl (J.mapUpdate (v:=bo44) u184 k2K rfl rfl rfl hk2 At.z (Jf ?_)))))))))))))));refine Ec (Ef (Ja (hK11 (Je fun _ hK12 _=>(Jb (Jg (Jc rfl) rfl (Jg (Jd rfl) rfl (Jf (Ja (hK12 (Js (Jq rfl (Res.tmp rfl) fun w hH=>?_))))))))))));replace hH:=hH.sublist (.cons_cons _ (.cons_cons _ (.cons_cons _ (.cons _ (List.Sublist.refl _)))))
   have e9:timesS ldt (pwS ldt (lds i) x1) (lds i)=pwS ldt (lds i) x:=by rw [hx1];rfl
   rw [e9] at hH;exact ⟨_,_,_,rfl,Hp.knwNew (kF_at ldt lds i x) (hH.front (.s (.s .z)))⟩
theorem pow_c {B:World} {H0 H:HP} {bld kbld nld:Nat} {qldf qldt qldi:Option Addr} {cldf cldt cldi:Nat} {ldf ldt:List Int} {lds:Nat→Sm} {i:Nat} {d:Int} (x:Nat) (pld0:CellAt H bld 0 (.slice qldf ldf.length cldf)) (pld1:CellAt H bld 1 (.slice qldt ldt.length cldt)) (pld2:CellAt H bld 2 (.slice qldi nld cldi)) (pld3:CellAt H bld 3 (.map (some kbld))) (hldf:Ints H qldf ldf) (hldt:Ints H qldt ldt) (hldi:ImR H qldi nld lds) (hi:i<nld) (hi8:i≤8) (hx9:x≤1000000) (hd:Dg ldt) (hw:Ws ldt d (lds i)) (h0:0≤d) (hde:(x:Int) * d≤20) : ∀(y:Int),y=(x:Int)→∀(L:List SA) (w:World) (m:Nat) (vs:Vs),Hp B H0 H (knw (kF ldt lds) kbld m vs::L) w→Calls Tryz.prog 186 [.pointer (some ⟨bld,0,none⟩),.int .i64 (i:Int),.int .i64 y].toArray w fun r w'=>∃b m' vs',r = .returned (.map (some b))∧Hp B H0 H (knwR (kF ldt lds) kbld m' vs' b (pwS ldt (lds i) x)::L) w':=by
 induction x with
 | zero=>
  intro y hy L w m vs hH;subst hy;obtain ⟨xs,hH⟩:=hH.knwOpen;exact powX_c pld0 pld1 pld2 pld3 hldf hldt hldi hi hi8 hx9 hd hw h0 hde (fun x1 y hy h=>by omega) hH
 | succ x ih=>
  intro y hy L w m vs hH;subst hy;obtain ⟨xs,hH⟩:=hH.knwOpen
  have e1:((x+1:Nat):Int) * d=(x:Int) * d+d:=by rw [Int.natCast_add,Int.add_mul];simp
  exact powX_c pld0 pld1 pld2 pld3 hldf hldt hldi hi hi8 hx9 hd hw h0 hde (fun x1 y hy h=>by
   obtain rfl:x1=x:=by omega
   exact ih (by omega) (by omega) y hy) hH
theorem leadL_mid {ds:Pw} {ss:Nat→Sm} {n:Nat} {l1 l2:Sm} {x:Pw × Int}:(leadL ds ss n (l1++x::l2)).Perm (scl (prS ds ss x.1 oneS n) x.2++leadL ds ss n (l1++l2)):=by
 have h:(leadL ds ss n (l1++x::l2)).Perm (leadL ds ss n (x::(l1++l2))):=(List.perm_middle).flatMap_right _;exact h
theorem leadTo_c {B:World} {H0 H:HP} {L:List SA} {w:World} {bld kbld nld:Nat} {qldf qldt qldi:Option Addr} {cldf cldt cldi:Nat} {ldf ldt:List Int} {lds:Nat→Sm} {vs:Value} {Ms:Int} {s:Sm} {km:Nat} {kv:Vs} {ws:Pw} (pld0:CellAt H bld 0 (.slice qldf ldf.length cldf)) (pld1:CellAt H bld 1 (.slice qldt ldt.length cldt)) (pld2:CellAt H bld 2 (.slice qldi nld cldi)) (pld3:CellAt H bld 3 (.map (some kbld))) (hldf:Ints H qldf ldf) (hldt:Ints H qldt ldt) (hldi:ImR H qldi nld lds) (hs:SumH H vs s) (ks:Sok Ms s) (hL:Ld ldt ws lds ldf.length Ms s) (hnn:ldf.length=nld) (hn8:nld≤8) (hMs:20≤Ms∧Ms≤255) (hH:Hp B H0 H (knw (kF ldt lds) kbld km kv::L) w):Calls Tryz.prog 150 [.pointer (some ⟨bld,0,none⟩),vs].toArray w fun e w'=>∃b m' vs',e = .returned (.map (some b))∧Hp B H0 H (osum b (leadS ldt lds ldf.length s)::knw (kF ldt lds) kbld m' vs'::L) w':=by
 refine Jz Tryz.func150 rfl 49 rfl rfl [(0,.pointer (some ⟨bld,0,none⟩)),(1,vs)] rfl hH ?_;clear hH;obtain ⟨bs,ess,cls,rfl,hbs,hes⟩:=hs;have hs:SumH H (.map (some bs)) s:=⟨bs,ess,cls,rfl,hbs,hes⟩;refine Je fun _ hK1 _=>(Jb (Jg (Jd rfl) rfl (Jf (Ja (hK1 (Je fun _ hK2 _=>(Jb (EI pwE (Value.int .i64) pwOk rfl fun bm10=>(Jg (Jd rfl) rfl (Jf (Ja (hK2 (Je fun _ hK3 _=>(Je fun _ hK4 _=>(Jb (Jg (Jc rfl) rfl ?_))))))))))))))));refine J.range u84 rfl hbs hes rfl fun r12=>(Jf (Ja (hK4 (Jn (JE (σ:=Option (Pw × Int) × Sm × Sm × Nat × Vs) (fun ⟨la,ls,dn,km1,kv1⟩=>[]) (fun ⟨la,ls,dn,km1,kv1⟩=>H) (fun ⟨la,ls,dn,km1,kv1⟩=>itr pwE (Value.int .i64) bs ess cls r12 la ls::osum bm10 (acc [] dn)::knw (kF ldt lds) kbld km1 kv1::L) (fun ⟨la,ls,dn,km1,kv1⟩=>(dn++leadL ldt lds ldf.length ls).Perm (leadL ldt lds ldf.length s)∧∀x∈ls,x∈s) (fun ⟨la,ls,dn,km1,kv1⟩=>ls.length) (none,s, [],km,kv) ⟨List.Perm.refl _,fun _ h=>h⟩ trivial rfl rfl ?_)))));rintro ⟨la,ls,dn,km1,kv1⟩ hI _ hAg0;have k0:Sok 20 (acc [] dn):=Sok.nil.acc fun x hx=>hL.key x (hI.1.mem_iff.1 (by simp [hx]));refine Je fun _ hK5 _=>(Jb (J.next rfl hbs hes (fun _ _=>At.z) rfl (fun hE13=>?_) (fun nx13 la13 lb13 hL13=>?_)))
 ·
  refine Jg (JM rfl rfl) rfl (Jf (Ja (hK5 (Je fun _ hK6 _=>(Et rfl (JH (Jl (Jl (JQ (Ja (hK3 (Je fun _ hK7 _=>(Jb (Jg (Jc rfl) rfl (Jg (Jd rfl) rfl (Jf ?_))))))))))))))));refine Ja (hK7 (Js (Jq rfl (Res.tmp rfl) fun w hH=>?_)));replace hH:=hH.sublist (.cons _ (.cons_cons _ (.cons_cons _ (List.Sublist.refl _))));have hp9:=perm_nil hI.1 (by rw [hE13];rfl);have e9:acc [] dn=leadS ldt lds ldf.length s:=acc_perm Sok.nil (fun x hx=>hL.key x (hp9.mem_iff.1 hx)) hp9;rw [e9] at hH;exact ⟨_,_,_,rfl,hH⟩
 ·
  subst hL13;have hu:=hI.2 nx13 (by simp);have hup:=ks.key nx13 hu;have hu8:=hup.len;have hv:=ks.val nx13 hu;have hu0:=hup.bd 0;have hone:Ws ldt 0 oneS:=Ws.one (c:=1) (by omega);refine Jg (JM rfl rfl) rfl (Jf (Ja (hK5 (Je fun _ hK8 _=>(Ey rfl (Jo (Ja (hK8 (Jn (Je fun _ hK9 _=>(Jb (Jg (PR.entry rfl hbs hes At.z) rfl (Jg (JM rfl rfl) rfl (Jg (JM rfl rfl) rfl (JV ze160 rfl fun g6=>(JJ rfl rfl (by first | exact bytesC_one _ | exact intsC_one _ | exact Term.c_one _ | simp [Value.oneCell']) (by simpa [*] using sz160) (by simp [*]) At.z ?_))))))))))))))));refine Jg (Jd rfl) rfl (Jf (Ja (hK9 (Je fun _ hK10 _=>(Jb (Jw fn185 rfl rfl fun w hH=>(number_c hH).mono ?_))))));rintro _ w ⟨bo18,rfl,hH⟩;refine ⟨_,rfl,fun a hF=>JL hF hH ?_⟩;refine Jg (Jd rfl) rfl (Jf (Ja (hK10 (Je fun _ hK11 _=>(Je fun _ hK12 _=>(Jb (Jg (Jc rfl) rfl (Jg (JG rfl) rfl (Jg (Ju u187 rfl sz22 rfl) rfl (Jg (JB (q:=some ⟨bld,0,none⟩) (k:=0) rfl pld0 pl22) rfl (Jg (Jm u22 rfl rfl) rfl (Jg (Jc rfl) rfl (Jf (Ja (hK12 (Jn ?_))))))))))))))));refine JE (σ:=Nat × Vs × Nat × Nat) (fun ⟨km2,kv2,bt,i⟩=>[(24,.int .i64 (i:Int)),(8,.map (some bt))]) (fun ⟨km2,kv2,bt,i⟩=>H) (fun ⟨km2,kv2,bt,i⟩=>osum bt (prS ldt lds nx13.1 oneS i)::obj g6 (.cells (intsC nx13.1).toArray 160 (0,0))::itr pwE (Value.int .i64) bs ess cls r12 (some nx13) (la13++lb13)::osum bm10 (acc [] dn)::knw (kF ldt lds) kbld km2 kv2::L) (fun ⟨km2,kv2,bt,i⟩=>i≤ldf.length) (fun ⟨km2,kv2,bt,i⟩=>ldf.length - i) (km1,kv1,bo18,0) (by show 0≤ldf.length;omega) ⟨rfl,⟨rfl,trivial⟩⟩ rfl rfl ?_;rintro ⟨km2,kv2,bt,i⟩ hi _ hAg1;have hpr:=hL.pr hu hone hi;refine Je fun _ hK13 _=>(Jb (Jg (JR rfl rfl) rfl (Jf (Ja (hK13 (Je fun _ hK14 _=>(Jp rfl (fun hc25=>?_) (fun hc25=>?_))))))))
  ·
   refine Jo (Ja (hK14 (Je fun _ hK15 _=>(Jn (Je fun _ hK16 _=>(Jb (Jg (Jc rfl) rfl (Jg (Jd rfl) rfl (Jf (Ja (hK16 (Je fun _ hK17 _=>(Jb (Jg (Jc rfl) rfl (Jg (JY u160 sz3 rfl rfl rfl (by omega)) rfl (Jg (Jy rfl (.s .z) (by first | exact bytesC_get (by simp [*];omega) | exact intsC_get (by simp [*];omega)) pl3) rfl ?_))))))))))))))));refine Jg (EC rfl rfl) rfl (Jf (Ja (hK17 (Jp rfl (fun h30=>?_) (fun h30=>?_)))))
   ·
    have hil:i<ldf.length:=by omega
    have hpos:0<nx13.1.getD i 0:=by omega
    have hpk:=hup.bd i;have hle:=hL.le hu hil;have hpw:=hL.pw hu hil;refine Ej (Rs:=[_,_,_,_,_]) 13 [[], [], [1], [1,2], [1,2,3], [], [], [], [7], [7,8], [5,6,7,8,9], [0,1,2,3,4,5,6,7,8,9,10], [0,1,2,3,4,5,6,7,8,9,10,11]] [[], [], [], [], [], [], [], [], [], [14], [], [10,13], []] [[], [], [], [], [], [], [], [], [], [], [17], [], []] rfl rfl (by kernel_rfl) ?_;apply Jj 1 rfl
    iterate 3 focus (intros;(conv=>lhs;simp only [Jh,Jt,JN,Jv,JI,eq_self,reduceEqDiff,reduceIte,reduceSub,reduceAdd,JxA,JxB]);all_goals rfl)
    ·
     intro gh X K zq zc zq2 zc2 zb zv hK;refine Jg (Jc rfl) rfl (Ji ?_);exact hK zq zc zq2 zc2 zb zv
    ·
     intro gh gh' h
     rfl
    apply Jj 2 rfl
    iterate 3 focus (intros;(conv=>lhs;simp only [Jh,Jt,JN,Jv,JI,eq_self,reduceEqDiff,reduceIte,reduceSub,reduceAdd,JxA,JxB]);all_goals rfl)
    ·
     intro gh X K zq zc zq2 zc2 zb zv hK;refine Jg (Jc rfl) rfl (Ji ?_);exact hK zq zc zq2 zc2 zb zv
    ·
     intro gh gh' h
     rfl
    apply Jj 3 rfl
    iterate 3 focus (intros;(conv=>lhs;simp only [Jh,Jt,JN,Jv,JI,eq_self,reduceEqDiff,reduceIte,reduceSub,reduceAdd,JxA,JxB]);all_goals rfl)
    ·
     intro gh X K zq zc zq2 zc2 zb zv hK;refine Jg (JG rfl) rfl (Ji ?_);exact hK zq zc zq2 zc2 zb zv
    ·
     intro gh gh' h
     rfl
    apply Jj 4 rfl
    iterate 3 focus (intros;(conv=>lhs;simp only [Jh,Jt,JN,Jv,JI,eq_self,reduceEqDiff,reduceIte,reduceSub,reduceAdd,JxA,JxB]);all_goals rfl)
    ·
     intro gh X K zq zc zq2 zc2 zb zv hK;refine Jg (Ju u187 rfl sz22 rfl) rfl (Ji ?_);exact hK zq zc zq2 zc2 zb zv
    ·
     intro gh gh' h
     rfl
    apply Jj 5 rfl
    iterate 3 focus (intros;(conv=>lhs;simp only [Jh,Jt,JN,Jv,JI,eq_self,reduceEqDiff,reduceIte,reduceSub,reduceAdd,JxA,JxB]);all_goals rfl)
    ·
     intro gh X K zq zc zq2 zc2 zb zv hK;refine Jg (JB (q:=some ⟨bld,0,none⟩) (k:=1) rfl pld1 pl22) rfl (Ji ?_);exact hK zq zc zq2 zc2 zb zv
    ·
     intro gh gh' h
     rfl
    apply Jj 6 rfl
    iterate 3 focus (intros;(conv=>lhs;simp only [Jh,Jt,JN,Jv,JI,eq_self,reduceEqDiff,reduceIte,reduceSub,reduceAdd,JxA,JxB]);all_goals rfl)
    ·
     intro gh X K zq zc zq2 zc2 zb zv hK;refine Jg (Jc rfl) rfl (Ji ?_);exact hK zq zc zq2 zc2 zb zv
    ·
     intro gh gh' h
     rfl
    apply Jj 7 rfl
    iterate 3 focus (intros;(conv=>lhs;simp only [Jh,Jt,JN,Jv,JI,eq_self,reduceEqDiff,reduceIte,reduceSub,reduceAdd,JxA,JxB]);all_goals rfl)
    ·
     intro gh X K zq zc zq2 zc2 zb zv hK;refine Jg (Jc rfl) rfl (Ji ?_);exact hK zq zc zq2 zc2 zb zv
    ·
     intro gh gh' h
     rfl
    apply Jj 8 rfl
    iterate 3 focus (intros;(conv=>lhs;simp only [Jh,Jt,JN,Jv,JI,eq_self,reduceEqDiff,reduceIte,reduceSub,reduceAdd,JxA,JxB]);all_goals rfl)
    ·
     intro gh X K zq zc zq2 zc2 zb zv hK;refine Jg (Jc rfl) rfl (Ji ?_);exact hK zq zc zq2 zc2 zb zv
    ·
     intro gh gh' h
     rfl
    apply Jj 9 rfl
    iterate 3 focus (intros;(conv=>lhs;simp only [Jh,Jt,JN,Jv,JI,eq_self,reduceEqDiff,reduceIte,reduceSub,reduceAdd,JxA,JxB]);all_goals rfl)
    ·
     intro gh X K zq zc zq2 zc2 zb zv hK;refine Jg (JY u160 sz3 rfl rfl rfl (by omega)) rfl (Ji ?_);exact hK zq zc zq2 zc2 zb zv
    ·
     intro gh gh' h
     rfl
    apply Jj 10 rfl
    iterate 3 focus (intros;(conv=>lhs;simp only [Jh,Jt,JN,Jv,JI,eq_self,reduceEqDiff,reduceIte,reduceSub,reduceAdd,JxA,JxB]);all_goals rfl)
    ·
     intro gh X K zq zc zq2 zc2 zb zv hK;refine Jg (Jy rfl At.z (by first | exact bytesC_get (by simp [*];omega) | exact intsC_get (by simp [*];omega)) pl3) rfl (Ji ?_);exact hK zq zc zq2 zc2 zb zv
    ·
     intro gh gh' h
     rfl
    apply Ea 11 rfl
    iterate 3 focus (intros;(conv=>lhs;simp only [Jh,Jt,JN,Jv,JI,eq_self,reduceEqDiff,reduceIte,reduceSub,reduceAdd,JxA,JxB]);all_goals rfl)
    ·
     intro gh X K zq zc zq2 zc2 zb zv hK;refine Jw fn186 rfl rfl fun w hH=>(pow_c (nx13.1.getD i 0).toNat pld0 pld1 pld2 pld3 hldf hldt hldi (by omega) (by omega) (by omega) hL.dg (hL.im i hil) (hL.ws0 i) (by rw [show (((nx13.1.getD i 0).toNat:Nat):Int)=nx13.1.getD i 0 by omega,Int.mul_comm];omega) _ (by omega) _ _ _ _ hH).mono ?_;rintro _ w ⟨bo41,mo41,vo41,rfl,hH⟩;refine ⟨_,rfl,fun a hF=>JL hF hH ?_⟩;refine Ji ?_;exact hK zq mo41 zq2 zc2 bo41 vo41
    ·
     intro gh gh' h;refine ⟨?_,?_⟩ <;> rfl
    apply Ea 12 rfl
    iterate 3 focus (intros;(conv=>lhs;simp only [Jh,Jt,JN,Jv,JI,eq_self,reduceEqDiff,reduceIte,reduceSub,reduceAdd,JxA,JxB]);all_goals rfl)
    ·
     intro gh X K zq zc zq2 zc2 zb zv hK;refine Jw fn90 rfl rfl fun w hH=>hH.lend (.s .z) fun Hl1 hle1 hA1 hB1 hH=>hH.lend .z fun Hl2 hle2 hA2 hB2 hH=>(times_c ((omap_H hA1).le hle2) hpr.sok ((hldt.le hle1).le hle2) (knwR_H hA2) hpw.sok hL.dg.hn hL.dg.hd (by omega) hH).mono ?_;rintro _ w ⟨bo42,rfl,hH⟩;replace hH:=hB2 _ _ hH;replace hH:=hB1 _ _ hH;refine ⟨_,rfl,fun a hF=>JL hF hH ?_⟩;refine Jr .z (Jr (.s .z) (Jr (.s (.s .z)) (Ji ?_)));exact hK zq zc zq2 zc2 bo42 zv
    ·
     intro gh gh' h;refine ⟨?_,?_⟩ <;> (first | simp only [h 10 rfl] | rfl)
    apply Jj 13 rfl
    iterate 3 focus (intros;(conv=>lhs;simp only [Jh,Jt,JN,Jv,JI,eq_self,reduceEqDiff,reduceIte,reduceSub,reduceAdd,JxA,JxB]);all_goals rfl)
    ·
     intro gh X K zq zc zq2 zc2 zb zv hK;refine Jg (Jd rfl) rfl (Ji ?_);exact hK zq zc zq2 zc2 zb zv
    ·
     intro gh gh' h
     first | simp only [h 10 rfl,h 11 rfl] | rfl
    apply Ek [0,1,2,3,4,5,6,7,8,9,10,11,12] [0,1,2,3,4,5,6,7,8,9,10,11,12,13,14,15,16] foll0 rfl rfl rfl (by rfl)
    iterate 2 focus (intros;(conv=>lhs;simp only [Jh,Jt,JN,Jv,JI,eq_self,reduceEqDiff,reduceIte,reduceSub,reduceAdd,JxA,JxB]);all_goals rfl)
    intro gh;generalize (gh 10).b=bo41;generalize (gh 10).c=mo41;generalize (gh 10).vs=vo41;generalize (gh 11).b=bo42;clear gh;refine Jr .z (EJ.knwForget (JF (Ja (hK15 (Jb (Jg (JC rfl rfl (by first | exact nw _ (by omega) | rfl)) rfl (Jg (Jc rfl) rfl (Jf (Ja (JK (.s (.s .z)) (Jr .z (Jr (.s (.s (.s (.s .z)))) (Jr (.s (.s (.s (.s .z)))) (Jr (.s (.s (.s (.s .z)))) (Jr (.s (.s (.s (.s .z)))) ?_)))))))))))))));exact hAg1 (mo41,vo41,bo42,i+1) (by show i+1≤ldf.length;omega) (by show ldf.length - (i+1)<ldf.length - i;omega) 24 rfl rfl ⟨rfl,⟨rfl,trivial⟩⟩ rfl (by dsimp only;rw [prS_yes hpos])
   ·
    refine Jo (JF (Ja (hK15 (Jb (Jg (JC rfl rfl (by first | exact nw _ (by omega) | rfl)) rfl (Jg (Jc rfl) rfl (Jf (Ja ?_))))))));exact hAg1 (km2,kv2,bt,i+1) (by show i+1≤ldf.length;omega) (by show ldf.length - (i+1)<ldf.length - i;omega) 11 rfl rfl ⟨rfl,⟨rfl,trivial⟩⟩ rfl (by dsimp only;rw [prS_no (by omega)])
  ·
   refine JH (Jl (Jl (JQ (Ja (hK11 (Jb (Jg (Jc rfl) rfl (Jg (Jc rfl) rfl (Jg (Jc rfl) rfl (Jw fn140 rfl rfl fun w hH=>hH.lend .z fun Hl1 hle1 hA1 hB1 hH=>(addAll_c k0 (omap_H hA1) hpr.sok (by omega) (by omega) (by omega) (hH.front (.s (.s .z)))).mono ?_))))))))));rintro _ w ⟨rfl,hH⟩;replace hH:=hB1 _ _ hH;refine ⟨_,rfl,fun a hF=>JL hF hH ?_⟩;refine Jf (JF (Ja (JK .z (JK (.s .z) (Jr (.s (.s .z)) (Jr (.s .z) (Jr (.s (.s .z)) ?_)))))));exact hAg0 (some nx13,la13++lb13,dn++scl (prS ldt lds nx13.1 oneS ldf.length) nx13.2,km2,kv2) ⟨by rw [List.append_assoc];exact perm_to hI.1 leadL_mid,fun x hx=>hI.2 x (by simp at hx ⊢;rcases hx with h | h <;> simp [h])⟩ (by simp) 22 rfl rfl trivial rfl (by dsimp only;rw [acc_app,show i=ldf.length by omega])
theorem by84:Bytes Tryz.prog 84 8:=by unfold Bytes;kernel_rfl
theorem ze84:Zero Tryz.prog 84 [.map none]:=by unfold Zero;kernel_rfl
section
variable {P : Program} {n : Nat} {B : World} {H0 H : HP} {us : List (Nat × Value)} {L : List SA} {t : TypeId} {x y z : Operand}
theorem PR.build3 {ty:TypeId} {i j k:Nat} {u v r:Value} {cs:List Value} (hx:opv us x=some u) (hy:opv us y=some v) (hz:opv us z=some r) (hb : ∀w,(Instr.build ty #[(i,u),(j,v),(k,r)]).run P w = .ok (.agg cs.toArray) w):PR P n B H0 us H L (.build ty #[(i,x),(j,y),(k,z)]) t (.agg cs.toArray):=
 fun _ _ _ _ a w hF _=>by simp [execOp,hF.ev hx,hF.ev hy,hF.ev hz,hb w]
end
theorem bld3 : ∀(q:Option Addr) (n c:Nat) (q':Option Addr) (n' c' kb:Nat) w,(Instr.build 187 #[(0,.slice q n c),(1,.slice q' n' c'),(3,.map (some kb))]).run Tryz.prog w = .ok (.agg [Value.slice q n c,Value.slice q' n' c',Value.slice none 0 0,Value.map (some kb)].toArray) w:=fun _ _ _ _ _ _ _ _=>by kernel_rfl
def mapsC (bs:Nat→Nat) (k:Nat):List Value:=(List.range k).map fun i=>Value.map (some (bs i))
@[simp] theorem mapsC_len (bs:Nat→Nat) (k:Nat):(mapsC bs k).length=k:=by simp [mapsC]
theorem mapsC_get {bs:Nat→Nat} {k i:Nat} (h:i<k):(mapsC bs k)[i]? = some (.map (some (bs i))):=by simp [mapsC,h]
theorem mapsC_snoc (bs:Nat→Nat) (k b:Nat):mapsC bs k++[.map (some b)]=mapsC (updN bs k b) (k+1):=by
 unfold mapsC;rw [List.range_succ,List.map_append]
 congr 1
 ·exact List.map_congr_left fun i hi=>by
   have:=List.mem_range.1 hi
   simp [updN,Nat.ne_of_lt this]
 ·simp [updN]
theorem leaderOf_c {B:World} {H0 H:HP} {L:List SA} {w:World} {qfd:Option Addr} {cfd:Nat} {fd:List Int} {qtd:Option Addr} {ctd:Nat} {td:List Int} {qms:Option Addr} {cms:Nat} {ms:List (List Term)} {Mi:Int} (hfd:Ints H qfd fd) (htd:Ints H qtd td) (hms:Forms H qms ms) (hf:Fok Mi ms) (hm:ms.length≤1048576) (hH:Hp B H0 H L w):Calls Tryz.prog 98 [.slice qfd fd.length cfd,.slice qtd td.length ctd,.slice qms ms.length cms].toArray w fun e w'=>∃g q c bs kb,e = .returned (.pointer (some ⟨g,0,none⟩))∧Hp B H0 H (obj g (.cells [.slice qfd fd.length cfd,.slice qtd td.length ctd,.slice q ms.length c,.map (some kb)].toArray 187 (0,0))::imgs bs (ssF ms) ms.length::own 84 1 q ms.length c (mapsC bs ms.length)::okn kb []::L) w':=by
 refine Jz Tryz.func98 rfl 34 rfl rfl [(0,.slice qfd fd.length cfd),(1,.slice qtd td.length ctd),(2,.slice qms ms.length cms)] rfl hH ?_;clear hH;refine Je fun _ hK1 _=>(Jb (Jg (Jd rfl) rfl (Jf (Ja (hK1 (Je fun _ hK2 _=>(Jb (Jg (Jc rfl) rfl (Jg (Jc rfl) rfl (EI pwE mvE k2Ok rfl fun kb=>(J.own0 84 1 (J.im0 (fun _=>0) (ssF ms) (Jg (PR.build3 rfl rfl rfl (fun w=>bld3 _ _ _ _ _ _ _ w)) rfl (Ee rfl rfl rfl fun g14=>(Jg (Jd rfl) rfl ?_)))))))))))))));refine Jf (Ja (hK2 (Je fun _ hK3 _=>(Je fun _ hK4 _=>(Jb (Jg (Jc rfl) rfl (Jg (Jm u33 rfl rfl) rfl (Jg (Jc rfl) rfl (Jf (Ja (hK4 (Jn (JE (σ:=Option Addr × Nat × (Nat→Nat) × Nat) (fun ⟨q,c,bs,k⟩=>[(17,.int .i64 (k:Int))]) (fun ⟨q,c,bs,k⟩=>H) (fun ⟨q,c,bs,k⟩=>obj g14 (.cells [.slice qfd fd.length cfd,.slice qtd td.length ctd,.slice q k c,.map (some kb)].toArray 187 (0,0))::imgs bs (ssF ms) k::own 84 1 q k c (mapsC bs k)::okn kb []::L) (fun ⟨q,c,bs,k⟩=>k≤ms.length) (fun ⟨q,c,bs,k⟩=>ms.length - k) (none,0,fun _=>0,0) (by show 0≤ms.length;omega) ⟨rfl,trivial⟩ rfl rfl ?_)))))))))))));rintro ⟨q,c,bs,k⟩ hk _ hAg0;refine Je fun _ hK5 _=>(Jb (Jg (JR rfl rfl) rfl (Jf (Ja (hK5 (Je fun _ hK6 _=>(Jp rfl (fun hc18=>?_) (fun hc18=>?_))))))))
 ·
  refine Jo (Ja (hK6 (Je fun _ hK7 _=>(Jn (Je fun _ hK8 _=>(Jb (Jg (JP u33 sz39 rfl rfl rfl (by omega) hms.sm) rfl ?_)))))));obtain ⟨qe20,ce20,he20,le20,Fe20⟩:=hms k (by omega);refine Jg (JO (cs:=[_]) rfl (one_cell he20) (hms.sm (i:=k) (by omega)) ag39) rfl (JV ze39 rfl fun g9=>(JJ rfl rfl (by first | exact bytesC_one _ | exact intsC_one _ | exact Term.c_one _ | simp [Value.oneCell']) (by simpa [*] using sz39) (by simp [*]) At.z (Jf (Ja (hK8 (Ej (Rs:=[_,_,_,_,_]) 12 [[], [], [1], [1,2], [1,2,3], [], [5], [5,6], [1,2,3,4,5,6,7], [0,1,2,3,4,5,6,7,8], [0,1,2,3,4,5,6,7,8,9], [0,1,2,3,4,5,6,7,8,9,10]] [[], [], [], [], [13], [12], [], [], [7], [], [], []] [[], [], [], [], [], [], [], [], [15], [], [], [13]] rfl rfl (by kernel_rfl) ?_))))));apply Jj 1 rfl
  iterate 3 focus (intros;(conv=>lhs;simp only [Jh,Jt,JN,Jv,JI,eq_self,reduceEqDiff,reduceIte,reduceSub,reduceAdd,JxA,JxB]);all_goals rfl)
  ·
   intro gh X K zq zc zq2 zc2 zb zv hK;refine Jg (Jc rfl) rfl (Ji ?_);exact hK zq zc zq2 zc2 zb zv
  ·
   intro gh gh' h
   rfl
  apply Jj 2 rfl
  iterate 3 focus (intros;(conv=>lhs;simp only [Jh,Jt,JN,Jv,JI,eq_self,reduceEqDiff,reduceIte,reduceSub,reduceAdd,JxA,JxB]);all_goals rfl)
  ·
   intro gh X K zq zc zq2 zc2 zb zv hK;refine Jg (Jc rfl) rfl (Ji ?_);exact hK zq zc zq2 zc2 zb zv
  ·
   intro gh gh' h
   rfl
  apply Jj 3 rfl
  iterate 3 focus (intros;(conv=>lhs;simp only [Jh,Jt,JN,Jv,JI,eq_self,reduceEqDiff,reduceIte,reduceSub,reduceAdd,JxA,JxB]);all_goals rfl)
  ·
   intro gh X K zq zc zq2 zc2 zb zv hK;refine Jg (JG rfl) rfl (Ji ?_);exact hK zq zc zq2 zc2 zb zv
  ·
   intro gh gh' h
   rfl
  apply Jj 4 rfl
  iterate 3 focus (intros;(conv=>lhs;simp only [Jh,Jt,JN,Jv,JI,eq_self,reduceEqDiff,reduceIte,reduceSub,reduceAdd,JxA,JxB]);all_goals rfl)
  ·
   intro gh X K zq zc zq2 zc2 zb zv hK;refine Jg (Ju u187 rfl sz185 rfl) rfl (Ji ?_);exact hK zq zc zq2 zc2 zb zv
  ·
   intro gh gh' h
   rfl
  apply Jj 5 rfl
  iterate 3 focus (intros;(conv=>lhs;simp only [Jh,Jt,JN,Jv,JI,eq_self,reduceEqDiff,reduceIte,reduceSub,reduceAdd,JxA,JxB]);all_goals rfl)
  ·
   intro gh X K zq zc zq2 zc2 zb zv hK;refine Jg (Jy rfl At.z rfl pl185) rfl (Ji ?_);exact hK zq zc zq2 zc2 zb zv
  ·
   intro gh gh' h
   rfl
  apply Jj 6 rfl
  iterate 3 focus (intros;(conv=>lhs;simp only [Jh,Jt,JN,Jv,JI,eq_self,reduceEqDiff,reduceIte,reduceSub,reduceAdd,JxA,JxB]);all_goals rfl)
  ·
   intro gh X K zq zc zq2 zc2 zb zv hK;refine Jg (Jx rfl At.z (by simpa [*] using ag39)) rfl (Ji ?_);exact hK zq zc zq2 zc2 zb zv
  ·
   intro gh gh' h
   rfl
  apply Ea 7 rfl
  iterate 3 focus (intros;(conv=>lhs;simp only [Jh,Jt,JN,Jv,JI,eq_self,reduceEqDiff,reduceIte,reduceSub,reduceAdd,JxA,JxB]);all_goals rfl)
  ·
   intro gh X K zq zc zq2 zc2 zb zv hK;refine Jw fn62 rfl rfl fun w hH=>(sumOf_c Fe20 (hf k (by omega)).1 (hf k (by omega)).2 hH).mono ?_;rintro _ w ⟨bo27,rfl,hH⟩;refine ⟨_,rfl,fun a hF=>JL hF hH ?_⟩;refine Ji ?_;exact hK zq zc zq2 zc2 bo27 zv
  ·
   intro gh gh' h;refine ⟨?_,?_⟩ <;> rfl
  apply Ea 8 rfl
  iterate 3 focus (intros;(conv=>lhs;simp only [Jh,Jt,JN,Jv,JI,eq_self,reduceEqDiff,reduceIte,reduceSub,reduceAdd,JxA,JxB]);all_goals rfl)
  ·
   intro gh X K zq zc zq2 zc2 zb zv hK;refine EK (EM u185 ze84 sz84 rfl rfl) rfl fun qo28 co28=>(Ji ?_);exact hK qo28 co28 zq2 zc2 zb zv
  ·
   intro gh gh' h;refine ⟨?_,?_⟩ <;> (first | simp only [h 6 rfl] | rfl)
  apply Ea 9 rfl
  iterate 3 focus (intros;(conv=>lhs;simp only [Jh,Jt,JN,Jv,JI,eq_self,reduceEqDiff,reduceIte,reduceSub,reduceAdd,JxA,JxB]);all_goals rfl)
  ·
   intro gh X K zq zc zq2 zc2 zb zv hK;refine EF u185 ze84 sz84 by84 rfl rfl rfl rfl (by omega) (.s .z) At.z (fun _ _=>At.z) rfl fun qo29 co29=>(Jr .z (Jr (.s .z) (Ji ?_)));exact hK qo29 co29 zq2 zc2 zb zv
  ·
   intro gh gh' h;refine ⟨?_,?_⟩ <;> (first | simp only [h 6 rfl,h 7 rfl] | rfl)
  apply Jj 10 rfl
  iterate 3 focus (intros;(conv=>lhs;simp only [Jh,Jt,JN,Jv,JI,eq_self,reduceEqDiff,reduceIte,reduceSub,reduceAdd,JxA,JxB]);all_goals rfl)
  ·
   intro gh X K zq zc zq2 zc2 zb zv hK;refine Jg (JG rfl) rfl (Ji ?_);exact hK zq zc zq2 zc2 zb zv
  ·
   intro gh gh' h
   first | simp only [h 6 rfl,h 7 rfl,h 8 rfl] | rfl
  apply Jj 11 rfl
  iterate 3 focus (intros;(conv=>lhs;simp only [Jh,Jt,JN,Jv,JI,eq_self,reduceEqDiff,reduceIte,reduceSub,reduceAdd,JxA,JxB]);all_goals rfl)
  ·
   intro gh X K zq zc zq2 zc2 zb zv hK;refine Jg (Ju u187 rfl sz185 rfl) rfl (Ji ?_);exact hK zq zc zq2 zc2 zb zv
  ·
   intro gh gh' h
   first | simp only [h 6 rfl,h 7 rfl,h 8 rfl] | rfl
  apply ET 12 rfl
  iterate 3 focus (intros;(conv=>lhs;simp only [Jh,Jt,JN,Jv,JI,eq_self,reduceEqDiff,reduceIte,reduceSub,reduceAdd,JxA,JxB]);all_goals rfl)
  ·
   intro gh X K hK;refine Ez rfl rfl rfl rfl sz185 (by simp [*]) At.z (Ji ?_);exact hK
  ·
   intro gh gh' h
   first | simp only [h 6 rfl,h 7 rfl,h 8 rfl] | rfl
  apply Ek [0,1,2,3,4,5,6,7,8,9,10,11] [0,1,2,3,4,5,6,7,8,9,10,11,12,14,16] foll0 rfl rfl rfl (by rfl)
  iterate 2 focus (intros;(conv=>lhs;simp only [Jh,Jt,JN,Jv,JI,eq_self,reduceEqDiff,reduceIte,reduceSub,reduceAdd,JxA,JxB]);all_goals rfl)
  intro gh;generalize (gh 6).b=bo27;generalize (gh 7).c=co28;generalize (gh 7).q=qo28;generalize (gh 8).c=co29;generalize (gh 8).q=qo29;clear gh;refine JF (Ja (hK7 (Jb (Jg (JC rfl rfl (by first | exact nw _ (by omega) | rfl)) rfl (Jg (Jc rfl) rfl (Jf (Ja (Jr (.s (.s (.s (.s (.s (.s .z)))))) (Jr (.s (.s (.s (.s (.s .z))))) (Jr (.s (.s (.s (.s (.s .z))))) (Jr (.s (.s (.s (.s (.s .z))))) (Jr (.s (.s (.s (.s (.s .z))))) (Jr (.s (.s (.s (.s (.s (.s .z)))))) (Jr (.s (.s (.s (.s (.s (.s .z)))))) (EJ.imSnoc rfl ?_)))))))))))))));refine JK (.s .z) (JK (.s (.s (.s .z))) (Jr (.s (.s (.s .z))) (Jr (.s (.s .z)) (Jr (.s (.s .z)) (Jr (.s (.s (.s .z))) ?_)))));exact hAg0 (qo29,co29,updN bs k bo27,k+1) (by show k+1≤ms.length;omega) (by show ms.length - (k+1)<ms.length - k;omega) 18 rfl rfl ⟨rfl,trivial⟩ rfl (by dsimp only;rw [mapsC_snoc];rfl)
 ·
  refine JH (Jl (Jl (JQ (Ja (hK3 (Je fun _ hK9 _=>(Jb (Jg (Jc rfl) rfl (Jg (Jd rfl) rfl (Jf (Ja (hK9 (Js (Jq rfl (Res.tmp rfl) fun w hH=>?_))))))))))))));replace hH:=hH.sublist (.cons_cons _ (.cons_cons _ (.cons_cons _ (.cons_cons _ (List.Sublist.refl _)))))
  obtain rfl:k=ms.length:=by omega
  exact ⟨_,_,_,_,_,rfl,hH⟩
theorem scl_1 {M:Int} {s:Sm} (h:Sok M s):scl s 1=s:=by
 unfold scl;refine (List.map_congr_left fun x hx=>?_).trans (List.map_id s);have:=h.val x hx;rw [Int.mul_one,Int.tmod_eq_emod_of_nonneg (by omega),Int.emod_eq_of_lt (by omega) (by omega)]
 rfl
theorem mpOk_both {bd ad:List Int} {ms:List (List Term)} {i:Nat} (h1:isForm bd (fm ms i)=true) (h2:degOk bd (fm ms i) (ad.getD i 0)=true):mpOk bd ms ad i=true:=by unfold mpOk;rw [h1,h2];rfl
theorem mpOk_no4 {bd ad:List Int} {ms:List (List Term)} {i:Nat} (h1:degOk bd (fm ms i) (ad.getD i 0)=false):mpOk bd ms ad i=false:=by unfold mpOk;rw [h1];simp
theorem same_c {B:World} {H0 H:HP} {L:List SA} {w:World} {vs:Value} {Ms:Int} {s:Sm} {vt:Value} {Mt:Int} {t:Sm} (hs:SumH H vs s) (ks:Sok Ms s) (ht:SumH H vt t) (kt:Sok Mt t) (hMs:Ms≤1000000) (hMt:Mt≤Ms) (hH:Hp B H0 H L w):Calls Tryz.prog 200 [vs,vt].toArray w fun e w'=>e = .returned (.bool (decide ((acc s (scl t 10006)).length=0)))∧Hp B H0 H L w':=by
 refine Jz Tryz.func200 rfl 16 rfl rfl [(0,vs),(1,vt)] rfl hH ?_;clear hH
 have e1:acc [] (scl s 1)=s:=by rw [scl_1 ks];exact acc_self ks
 have k0:Sok Ms (acc [] (scl s 1)):=by rw [e1];exact ks
 refine Je fun _ hK1 _=>(Jb (Jg (Jd rfl) rfl (Jf (Ja (hK1 (Je fun _ hK2 _=>(Jb (EI pwE (Value.int .i64) pwOk rfl fun bm6=>(Jg (Jd rfl) rfl (Jf (Ja (hK2 (Je fun _ hK3 _=>(Jb (Jg (Jc rfl) rfl (Jg (Jc rfl) rfl ?_))))))))))))))));refine Jw fn140 rfl rfl fun w hH=>(addAll_c Sok.nil hs ks (by omega) (by omega) (by omega) (hH.front .z)).mono ?_;rintro _ w ⟨rfl,hH⟩;refine ⟨_,rfl,fun a hF=>JL hF hH ?_⟩;refine Jf (Ja (hK3 (Je fun _ hK4 _=>(Jb (Jg (Jc rfl) rfl (Jg (Jc rfl) rfl (Jw fn140 rfl rfl fun w hH=>(addAll_c k0 ht kt (by omega) (by omega) (by omega) (hH.front .z)).mono ?_)))))));rintro _ w ⟨rfl,hH⟩;refine ⟨_,rfl,fun a hF=>JL hF hH ?_⟩;refine Jf (Ja (hK4 (Je fun _ hK5 _=>(Jb (Jg (Jc rfl) rfl (Jg (PR.lenO u84 rfl At.z rfl) rfl (Jg (EG rfl rfl) rfl (Jg (Jd rfl) rfl (Jf (Ja (hK5 (Js (Jq rfl (Res.tmp rfl) fun w hH=>?_)))))))))))));replace hH:=hH.tail;exact ⟨rb (by rw [e1];exact decide_eq_decide.2 (by omega)),hH⟩
theorem isAssignment_c {B:World} {H0 H:HP} {L:List SA} {w:World} {qfd:Option Addr} {cfd:Nat} {fd:List Int} {qtd:Option Addr} {ctd:Nat} {td:List Int} {qms:Option Addr} {cms:Nat} {ms:List (List Term)} (hfd:Ints H qfd fd) (htd:Ints H qtd td) (hms:Forms H qms ms) (hn:td.length≤8) (hd : ∀j,0≤td.getD j 0∧td.getD j 0≤12) (hmn:ms.length≤1048576) (hml : ∀i,i<ms.length→(fm ms i).length≤1048576) (hH:Hp B H0 H L w):Calls Tryz.prog 196 [.slice qfd fd.length cfd,.slice qtd td.length ctd,.slice qms ms.length cms].toArray w fun e w'=>e = .returned (.bool (decide (ms.length=fd.length) && mpsOk td ms fd))∧Hp B H0 H L w':=by
 refine Jz Tryz.func196 rfl 36 rfl rfl [(0,.slice qfd fd.length cfd),(1,.slice qtd td.length ctd),(2,.slice qms ms.length cms)] rfl hH ?_;clear hH;refine Je fun _ hK1 _=>(Jb (Jg (Jd rfl) rfl (Jf (Ja (hK1 (Je fun _ hK2 _=>(Je fun _ hK3 _=>(Jb (Jg (Jc rfl) rfl (Jg (Jm u33 rfl rfl) rfl (Jg (Jc rfl) rfl (Jg (Jm u22 rfl rfl) rfl (Jg (El rfl rfl) rfl (Jf (Ja (hK3 ?_))))))))))))))));refine Jp rfl (fun h13=>?_) (fun h13=>?_)
 ·
  refine Je fun _ hK4 _=>(Jb (Jg (Jd rfl) rfl (Jf (Ja (hK4 (Js (Jk (Jq rfl (Res.tmp rfl) fun w hH=>?_))))))));exact ⟨rb (by rw [decide_eq_false (show ¬ms.length=fd.length by omega)];rfl),hH⟩
 ·
  have hlen:ms.length=fd.length:=by omega
  refine Jo (Ja (hK2 (Je fun _ hK5 _=>(Je fun _ hK6 _=>(Jb (Jg (Jc rfl) rfl (Jg (Jm u33 rfl rfl) rfl (Jg (Jc rfl) rfl (Jf (Ja (hK6 (Jn (JE (σ:=Nat) (fun (k:Nat)=>[(16,.int .i64 (k:Int))]) (fun (k:Nat)=>H) (fun (k:Nat)=>L) (fun (k:Nat)=>k≤ms.length∧∀j,j<k→mpOk td ms fd j=true) (fun (k:Nat)=>ms.length - k) 0 ⟨by omega,fun j hj=>by omega⟩ ⟨rfl,trivial⟩ rfl rfl ?_)))))))))))));rintro k ⟨hk,hI⟩ _ hAg0;refine Je fun _ hK7 _=>(Jb (Jg (JR rfl rfl) rfl (Jf (Ja (hK7 (Je fun _ hK8 _=>(Jp rfl (fun h17=>?_) (fun h17=>?_))))))))
  ·
   have hl0:=hml k (by omega);refine Jo (Ja (hK8 (Je fun _ hK9 _=>(Jn (Je fun _ hK10 _=>(Jb (Jg (Jc rfl) rfl (Jg (JP u33 sz39 rfl rfl rfl (by omega) hms.sm) rfl ?_))))))));obtain ⟨qe20,ce20,he20,le20,Fe20⟩:=hms k (by omega);refine Jg (JO (cs:=[_]) rfl (one_cell he20) (hms.sm (i:=k) (by omega)) ag39) rfl (JV ze39 rfl fun g8=>(Jg (Jd rfl) rfl (JJ rfl rfl (by first | exact bytesC_one _ | exact intsC_one _ | exact Term.c_one _ | simp [Value.oneCell']) (by simpa [*] using sz39) (by simp [*]) At.z (Jf (Ja (hK10 (Je fun _ hK11 _=>(Eo [[], [], [0,1], [2], [3], [4], [4], [4], [4], [7,8,4], [9,4]] (by kernel_rfl) (JA (fun gh=>Jc rfl) (JA (fun gh=>Jx rfl At.z (by simpa [*] using ag39)) (HJ.call fn135 (fun gh=>rfl) (fun w X hH=>isForm_c htd Fe20 (by omega) (by omega) hH) (JA (fun gh=>Em rfl) (JA (fun gh=>Jc rfl) (EQ 4 rfl (fun h25=>?_) (fun h25=>?_)))))))))))))))
   ·
    try have h25p:=of_decide_eq_true h25
    refine Ed rfl (fun gh=>rfl) h25 (Ed rfl (fun gh=>rfl) h25 (Ed rfl (fun gh=>rfl) h25 (Ed rfl (fun gh=>rfl) h25 (Ed rfl (fun gh=>rfl) h25 (Ed rfl (fun gh=>rfl) h25 (Eb 11 1 foll0 (by kernel_rfl) rfl rfl fun gh=>(En (us':=(21,_)::(22,_)::(23,_)::(24,_)::(25,_)::(26,_)::(27,_)::(28,_)::(29,_)::(30,_)::(31,_)::_) (L':=_) rfl rfl (JU rfl rfl rfl h25 (Jf (Ec (JS.gn rfl rfl rfl h25 (JD (JZ rfl h25 rfl) rfl (Ef (Ja (hK11 ?_)))))))))))))));refine Ey rfl (Je fun _ hK12 _=>(Jb (Jg (Jd rfl) rfl (Jf (Ja (hK12 (Js (JT (Jk (Jk (JT (Jk (Jq rfl (Res.tmp rfl) fun w hH=>?_)))))))))))));replace hH:=hH.tail;exact ⟨rb (by rw [mpsOk_bad (i:=k) (by omega) (mpOk_no1 (by simpa using h25))];simp),hH⟩
   ·
    try have h25p:=of_decide_eq_false h25
    refine Eh (fun gh=>Jc rfl) rfl (fun gh=>rfl) h25 (Eh (fun gh=>Jx rfl At.z (by simpa [*] using ag39)) rfl (fun gh=>rfl) h25 (Eh (fun gh=>Jc rfl) rfl (fun gh=>rfl) h25 (Eh (fun gh=>Jc rfl) rfl (fun gh=>rfl) h25 (Eh (fun gh=>JP u22 sz2 rfl rfl rfl (by omega) hfd.sm) rfl (fun gh=>rfl) h25 (Eh (fun gh=>JB rfl (hfd _ (by omega)) pl2) rfl (fun gh=>rfl) h25 (Eb 11 1 foll0 (by kernel_rfl) rfl rfl fun gh=>(En (us':=(21,_)::(22,_)::(23,_)::(24,_)::(25,_)::(26,_)::(27,_)::(28,_)::(29,_)::(30,_)::(31,_)::_) (L':=_) rfl rfl (ES fn175 rfl rfl h25 rfl rfl fun w hH=>(isOfDegree_c htd Fe20 hn hd (by omega) hH).mono ?_))))))));rintro _ w ⟨rfl,hH⟩;refine ⟨_,rfl,fun a hF=>JL hF hH ?_⟩;refine Jf (Ec (JS.gy (Em rfl) rfl rfl rfl h25 (JD (JW rfl h25 rfl) rfl (Ef (Ja (hK11 (Eg rfl (fun h34=>?_) (fun h34=>?_))))))))
    ·
     refine Je fun _ hK13 _=>(Jb (Jg (Jd rfl) rfl (Jf (Ja (hK13 (Js (JT (Jk (Jk (JT (Jk (Jq rfl (Res.tmp rfl) fun w hH=>?_))))))))))));replace hH:=hH.tail;exact ⟨rb (by rw [mpsOk_bad (i:=k) (by omega) (mpOk_no4 (by simpa using h34))];simp),hH⟩
    ·
     refine Jo (JF (Ja (hK9 (Jb (Jg (JC rfl rfl (by first | exact nw _ (by omega) | rfl)) rfl (Jg (Jc rfl) rfl (Jf (Ja (JK .z ?_)))))))));exact hAg0 (k+1) ⟨by omega,upto hI (mpOk_both (by simpa using h25) (by simpa using h34))⟩ (by omega) 23 rfl rfl ⟨rfl,trivial⟩ rfl rfl
  ·
   refine JH (Jl (Jl (JQ (Ja (hK5 (Je fun _ hK14 _=>(Jb (Jg (Jd rfl) rfl (Jf (Ja (hK14 (Js (Jq rfl (Res.tmp rfl) fun w hH=>?_)))))))))))));exact ⟨rb (by rw [decide_eq_true hlen,mpsOk_good (fun j hj=>hI j (by omega))];rfl),hH⟩
theorem fn150:Fn Tryz.prog 150:=⟨_,Tryz.func150,by kernel_rfl,rfl⟩
theorem fn200:Fn Tryz.prog 200:=⟨_,Tryz.func200,by kernel_rfl,rfl⟩
theorem fn98:Fn Tryz.prog 98:=⟨_,Tryz.func98,by kernel_rfl,rfl⟩
section
variable {P : Program} {ops : Array Oper} {Q : Exit → Act → World → Prop} {n : Nat} {B : World} {H0 H : HP} {rest : List Oper} {us : List (Nat × Value)} {L L' : List SA}
theorem J.reH (g : ∀w,Hp B H0 H L w→Hp B H0 H L' w) (h:J P ops Q n B H0 rest us H L'):J P ops Q n B H0 rest us H L:=fun a w hF hH=>h a w hF (g w hH)
end
theorem keeps_c {B:World} {H0 H:HP} {L:List SA} {w:World} {ba:Nat} {qad qaf:Option Addr} {cad caf:Nat} {ad:List Int} {af:List (List Term)} {bb:Nat} {qbd qbf:Option Addr} {cbd cbf:Nat} {bd:List Int} {bf:List (List Term)} {qms:Option Addr} {cms:Nat} {ms:List (List Term)} (pad:CellAt H ba 0 (.slice qad ad.length cad)) (paf:CellAt H ba 1 (.slice qaf af.length caf)) (had:Ints H qad ad) (haf:Forms H qaf af) (pbd:CellAt H bb 0 (.slice qbd bd.length cbd)) (pbf:CellAt H bb 1 (.slice qbf bf.length cbf)) (hbd:Ints H qbd bd) (hbf:Forms H qbf bf) (hms:Forms H qms ms) (hAa:isAlg ad af=true) (hBb:isAlg bd bf=true) (hlen:ms.length=ad.length) (hM9:mpsOk bd ms ad=true) (hH:Hp B H0 H L w):Calls Tryz.prog 197 [.pointer (some ⟨ba,0,none⟩),.pointer (some ⟨bb,0,none⟩),.slice qms ms.length cms].toArray w fun e w'=>e = .returned (.bool (kps bd bf ms af))∧Hp B H0 H L w':=by
 refine Jz Tryz.func197 rfl 46 rfl rfl [(0,.pointer (some ⟨ba,0,none⟩)),(1,.pointer (some ⟨bb,0,none⟩)),(2,.slice qms ms.length cms)] rfl hH ?_;have hw0:=hH.old;have hw1:=hH.le;clear hH;have hAo:=isAlg_ok hAa haf.wfss;have hBo:=isAlg_ok hBb hbf.wfss;have hn:=hBo.hn;have hd:=hBo.hd;have hal:=hAo.hl;have han:=hAo.hn;have hmf:Fok 20 ms:=fun i hi=>⟨isForm_sok (hms.wfss.fm i) (Bool.and_eq_true_iff.1 (mpsOk_at hM9 hi)).1,by have:=isForm_len4 (Bool.and_eq_true_iff.1 (mpsOk_at hM9 hi)).1;omega⟩;refine Je fun _ hK1 _=>(Jb (Jg (Jd rfl) rfl (Jf (Ja (hK1 (Je fun _ hK2 _=>(Eo [[], [0], [1], [2], [], [4], [5], [6], []] (by kernel_rfl) (JA (fun gh=>Jc rfl) (JA (fun gh=>JG rfl) (JA (fun gh=>Ju u35 rfl sz22 rfl) (JA (fun gh=>JB (q:=some ⟨ba,0,none⟩) (k:=0) rfl pad pl22) (JA (fun gh=>Jc rfl) (JA (fun gh=>JG rfl) (JA (fun gh=>Ju u35 rfl sz22 rfl) (JA (fun gh=>JB (q:=some ⟨bb,0,none⟩) (k:=0) rfl pbd pl22) ?_)))))))))))))));refine JA (fun gh=>Jc rfl) (Eb 9 1 foll0 (by kernel_rfl) rfl rfl fun gh=>(En (us':=(10,_)::(11,_)::(12,_)::(13,_)::(14,_)::(15,_)::(16,_)::(17,_)::(18,_)::_) (L':=_) rfl rfl (Jw fn98 rfl rfl fun w hH=>(leaderOf_c had hbd hms hmf (by omega) hH).mono ?_)));rintro _ w ⟨g19,q19,c19,bs19,kb19,rfl,hH⟩;refine ⟨_,rfl,fun a hF=>JL hF hH ?_⟩;refine Jf (Ec (JD (Jd rfl) rfl (Ef (Ja (hK2 (Je fun _ hK3 _=>(Je fun _ hK4 _=>(Jb (ER .z fun H7 hle7 hc7=>(EA .z fun H8 hle8 hA8=>(EA .z fun H9 hle9 hA9=>(J.reH (fun w hH=>Hp.knw0 (f:=kF bd (ssF ms)) (vs:=nilVs) (hH.front .z)) ?_))))))))))));have hle79:=hle8.trans hle9;have pl0:CellAt H9 g19 0 (.slice qad ad.length cad):=CellAt.le (hc7 0 _ rfl) hle79;have pl1:CellAt H9 g19 1 (.slice qbd bd.length cbd):=CellAt.le (hc7 1 _ rfl) hle79;have pl2:CellAt H9 g19 2 (.slice q19 ms.length c19):=CellAt.le (hc7 2 _ rfl) hle79;have pl3:CellAt H9 g19 3 (.map (some kb19)):=CellAt.le (hc7 3 _ rfl) hle79;have hli:ImR H9 q19 (ms.length) (ssF ms):=fun i hi=>⟨bs19 i,own_reads hA9 i _ (mapsC_get hi),(imgs_H hA8 hi).le hle9⟩;replace pad:=pad.le hle7;replace paf:=paf.le hle7;replace had:=had.le hle7;replace haf:=haf.le hle7;replace pbd:=pbd.le hle7;replace pbf:=pbf.le hle7;replace hbd:=hbd.le hle7;replace hbf:=hbf.le hle7;replace hms:=hms.le hle7;replace pad:=pad.le hle8;replace paf:=paf.le hle8;replace had:=had.le hle8;replace haf:=haf.le hle8;replace pbd:=pbd.le hle8;replace pbf:=pbf.le hle8;replace hbd:=hbd.le hle8;replace hbf:=hbf.le hle8;replace hms:=hms.le hle8;replace pad:=pad.le hle9;replace paf:=paf.le hle9;replace had:=had.le hle9;replace haf:=haf.le hle9;replace pbd:=pbd.le hle9;replace pbf:=pbf.le hle9;replace hbd:=hbd.le hle9;replace hbf:=hbf.le hle9;replace hms:=hms.le hle9;refine Jg (Jc rfl) rfl (Jg (JG rfl) rfl (Jg (Ju u35 rfl sz33 rfl) rfl (Jg (JB (q:=some ⟨ba,0,none⟩) (k:=1) rfl paf pl33) rfl (Jg (Jm u33 rfl rfl) rfl (Jg (Jc rfl) rfl (Jf (Ja (hK4 (Jn (JE (σ:=Nat × Vs × Nat) (fun ⟨km,kv,i⟩=>[(25,.int .i64 (i:Int))]) (fun ⟨km,kv,i⟩=>H9) (fun ⟨km,kv,i⟩=>knw (kF bd (ssF ms)) kb19 km kv::L) (fun ⟨km,kv,i⟩=>i≤af.length∧∀j,j<i→(kpS bd bf ms af j).length=0) (fun ⟨km,kv,i⟩=>af.length - i) (0,nilVs,0) ⟨by omega,fun j hj=>by omega⟩ ⟨rfl,trivial⟩ rfl rfl ?_))))))))));rintro ⟨km,kv,i⟩ ⟨hi,hI⟩ _ hAg0;refine Je fun _ hK5 _=>(Jb (Jg (JR rfl rfl) rfl (Jf (Ja (hK5 (Je fun _ hK6 _=>(Jp rfl (fun h26=>?_) (fun h26=>?_))))))))
 ·
  have hka:i<af.length:=by omega
  have hLd:=Ld.map hAa (isAlg_deg hBb) haf.wfss hms.wfss hlen (fun j hj=>mpsOk_at hM9 hj) hka;rw [hlen] at hLd;have hls:=hLd.lead;have hls6:Sok 60 _:=hls.mono (by omega);have hka4:=isForm_sok (haf.wfss.fm i) (hAo.ok i hka);have ha4:=isForm_len4 (hAo.ok i hka);have hm5:=(Bool.and_eq_true_iff.1 (mpsOk_at hM9 (show i<ms.length by omega))).1;have hms9:=isForm_sok (hms.wfss.fm i) hm5;have hmk:=isForm_kex hd hn (hms.wfss.fm i) hm5;have hoc:=Ex.occ hmk hBo.hl;have hds:=dS_sok (ds:=bd) hms9 hBo.fok hoc;obtain ⟨gi,hgi,hsi⟩:=hli i (by omega);refine Jo (Ja (hK6 (Je fun _ hK7 _=>(Jn (Je fun _ hK8 _=>(Jb (Jg (Jc rfl) rfl (Jg (JP u33 sz39 rfl rfl rfl (by omega) haf.sm) rfl ?_))))))));obtain ⟨qe29,ce29,he29,le29,Fe29⟩:=haf i (by omega);refine Jg (JO (cs:=[_]) rfl (one_cell he29) (haf.sm (i:=i) (by omega)) ag39) rfl (JV ze39 rfl fun g9=>(Jg (Jd rfl) rfl (JJ rfl rfl (by first | exact bytesC_one _ | exact intsC_one _ | exact Term.c_one _ | simp [Value.oneCell']) (by simpa [*] using sz39) (by simp [*]) At.z (Jf (Ja (hK8 (Je fun _ hK9 _=>(Ej (Rs:=[_,_]) 15 [[], [], [1], [0,1,2], [], [], [5], [5,6], [5,6,7], [], [5,6,7,8,9], [5,6,7,8,9,10], [0,1,2,3,4,5,6,7,8,9,10,11], [0,1,2,3,4,5,6,7,8,9,10,11,12], [0,1,2,3,4,5,6,7,8,9,10,11,12,13]] [[], [15], [], [2], [], [], [], [], [], [], [], [], [], [3,12], []] [[], [], [], [16], [], [], [], [], [], [], [], [], [], [], []] rfl rfl (by kernel_rfl) ?_))))))));apply Jj 1 rfl
  iterate 3 focus (intros;(conv=>lhs;simp only [Jh,Jt,JN,Jv,JI,eq_self,reduceEqDiff,reduceIte,reduceSub,reduceAdd,JxA,JxB]);all_goals rfl)
  ·
   intro gh X K zq zc zq2 zc2 zb zv hK;refine Jg (Jc rfl) rfl (Ji ?_);exact hK zq zc zq2 zc2 zb zv
  ·
   intro gh gh' h
   rfl
  apply Jj 2 rfl
  iterate 3 focus (intros;(conv=>lhs;simp only [Jh,Jt,JN,Jv,JI,eq_self,reduceEqDiff,reduceIte,reduceSub,reduceAdd,JxA,JxB]);all_goals rfl)
  ·
   intro gh X K zq zc zq2 zc2 zb zv hK;refine Jg (Jx rfl At.z (by simpa [*] using ag39)) rfl (Ji ?_);exact hK zq zc zq2 zc2 zb zv
  ·
   intro gh gh' h
   rfl
  apply Ea 3 rfl
  iterate 3 focus (intros;(conv=>lhs;simp only [Jh,Jt,JN,Jv,JI,eq_self,reduceEqDiff,reduceIte,reduceSub,reduceAdd,JxA,JxB]);all_goals rfl)
  ·
   intro gh X K zq zc zq2 zc2 zb zv hK;refine Jw fn62 rfl rfl fun w hH=>(sumOf_c Fe29 hka4 (by omega) hH).mono ?_;rintro _ w ⟨bo32,rfl,hH⟩;refine ⟨_,rfl,fun a hF=>JL hF hH ?_⟩;refine Ji ?_;exact hK zq zc zq2 zc2 bo32 zv
  ·
   intro gh gh' h;refine ⟨?_,?_⟩ <;> rfl
  apply GJ.st2 4 rfl
  iterate 3 focus (intros;(conv=>lhs;simp only [Jh,Jt,JN,Jv,JI,eq_self,reduceEqDiff,reduceIte,reduceSub,reduceAdd,JxA,JxB]);all_goals rfl)
  ·
   intro gh X K zq zc zq2 zc2 zb zv hK;refine Jw fn150 rfl rfl fun w hH=>hH.lend (.s .z) fun Hl1 hle1 hA1 hB1 hH=>(leadTo_c (pl0.le hle1) (pl1.le hle1) (pl2.le hle1) (pl3.le hle1) (had.le hle1) (hbd.le hle1) (hli.le hle1) (omap_H hA1) hka4 hLd (by omega) (by omega) (by omega) (hH.front .z)).mono ?_;rintro _ w ⟨bo33,mo33,vo33,rfl,hH⟩;replace hH:=hB1 _ _ hH;refine ⟨_,rfl,fun a hF=>JL hF hH ?_⟩;refine Jr .z (Jr (.s (.s .z)) (Jr (.s (.s .z)) (Ji ?_)));exact hK zq mo33 zq2 zc2 bo33 vo33
  ·
   intro gh gh' h;refine ⟨?_,?_,?_⟩ <;> (first | simp only [h 2 rfl] | rfl)
  apply Jj 5 rfl
  iterate 3 focus (intros;(conv=>lhs;simp only [Jh,Jt,JN,Jv,JI,eq_self,reduceEqDiff,reduceIte,reduceSub,reduceAdd,JxA,JxB]);all_goals rfl)
  ·
   intro gh X K zq zc zq2 zc2 zb zv hK;refine Jg (Jc rfl) rfl (Ji ?_);exact hK zq zc zq2 zc2 zb zv
  ·
   intro gh gh' h
   rfl
  apply Jj 6 rfl
  iterate 3 focus (intros;(conv=>lhs;simp only [Jh,Jt,JN,Jv,JI,eq_self,reduceEqDiff,reduceIte,reduceSub,reduceAdd,JxA,JxB]);all_goals rfl)
  ·
   intro gh X K zq zc zq2 zc2 zb zv hK;refine Jg (Jc rfl) rfl (Ji ?_);exact hK zq zc zq2 zc2 zb zv
  ·
   intro gh gh' h
   rfl
  apply Jj 7 rfl
  iterate 3 focus (intros;(conv=>lhs;simp only [Jh,Jt,JN,Jv,JI,eq_self,reduceEqDiff,reduceIte,reduceSub,reduceAdd,JxA,JxB]);all_goals rfl)
  ·
   intro gh X K zq zc zq2 zc2 zb zv hK;refine Jg (JG rfl) rfl (Ji ?_);exact hK zq zc zq2 zc2 zb zv
  ·
   intro gh gh' h
   rfl
  apply Jj 8 rfl
  iterate 3 focus (intros;(conv=>lhs;simp only [Jh,Jt,JN,Jv,JI,eq_self,reduceEqDiff,reduceIte,reduceSub,reduceAdd,JxA,JxB]);all_goals rfl)
  ·
   intro gh X K zq zc zq2 zc2 zb zv hK;refine Jg (Ju u187 rfl sz185 rfl) rfl (Ji ?_);exact hK zq zc zq2 zc2 zb zv
  ·
   intro gh gh' h
   rfl
  apply Jj 9 rfl
  iterate 3 focus (intros;(conv=>lhs;simp only [Jh,Jt,JN,Jv,JI,eq_self,reduceEqDiff,reduceIte,reduceSub,reduceAdd,JxA,JxB]);all_goals rfl)
  ·
   intro gh X K zq zc zq2 zc2 zb zv hK;refine Jg (JB (q:=some ⟨g19,0,none⟩) (k:=2) rfl pl2 pl185) rfl (Ji ?_);exact hK zq zc zq2 zc2 zb zv
  ·
   intro gh gh' h
   rfl
  apply Jj 10 rfl
  iterate 3 focus (intros;(conv=>lhs;simp only [Jh,Jt,JN,Jv,JI,eq_self,reduceEqDiff,reduceIte,reduceSub,reduceAdd,JxA,JxB]);all_goals rfl)
  ·
   intro gh X K zq zc zq2 zc2 zb zv hK;refine Jg (Jc rfl) rfl (Ji ?_);exact hK zq zc zq2 zc2 zb zv
  ·
   intro gh gh' h
   rfl
  apply Jj 11 rfl
  iterate 3 focus (intros;(conv=>lhs;simp only [Jh,Jt,JN,Jv,JI,eq_self,reduceEqDiff,reduceIte,reduceSub,reduceAdd,JxA,JxB]);all_goals rfl)
  ·
   intro gh X K zq zc zq2 zc2 zb zv hK;refine Jg (JP (i':=i) u185 sz84 rfl rfl rfl (by omega) hli.sm) rfl (Ji ?_);exact hK zq zc zq2 zc2 zb zv
  ·
   intro gh gh' h
   rfl
  apply Jj 12 rfl
  iterate 3 focus (intros;(conv=>lhs;simp only [Jh,Jt,JN,Jv,JI,eq_self,reduceEqDiff,reduceIte,reduceSub,reduceAdd,JxA,JxB]);all_goals rfl)
  ·
   intro gh X K zq zc zq2 zc2 zb zv hK;refine Jg (JB rfl hgi pl84) rfl (Ji ?_);exact hK zq zc zq2 zc2 zb zv
  ·
   intro gh gh' h
   rfl
  apply Ea 13 rfl
  iterate 3 focus (intros;(conv=>lhs;simp only [Jh,Jt,JN,Jv,JI,eq_self,reduceEqDiff,reduceIte,reduceSub,reduceAdd,JxA,JxB]);all_goals rfl)
  ·
   intro gh X K zq zc zq2 zc2 zb zv hK;refine Jw fn164 rfl rfl fun w hH=>(d_c pbd pbf hbd hbf hsi hms9 hn hd hBo.fok hBo.hl hoc (by omega) hH).mono ?_;rintro _ w ⟨bo42,rfl,hH⟩;refine ⟨_,rfl,fun a hF=>JL hF hH ?_⟩;refine Ji ?_;exact hK zq zc zq2 zc2 bo42 zv
  ·
   intro gh gh' h;refine ⟨?_,?_⟩ <;> (first | simp only [h 2 rfl,h 3 rfl] | rfl)
  apply Jj 14 rfl
  iterate 3 focus (intros;(conv=>lhs;simp only [Jh,Jt,JN,Jv,JI,eq_self,reduceEqDiff,reduceIte,reduceSub,reduceAdd,JxA,JxB]);all_goals rfl)
  ·
   intro gh X K zq zc zq2 zc2 zb zv hK;refine Jw fn200 rfl rfl fun w hH=>hH.lend .z fun Hl1 hle1 hA1 hB1 hH=>hH.lend (.s .z) fun Hl2 hle2 hA2 hB2 hH=>(same_c ((omap_H hA1).le hle2) hls6 (omap_H hA2) hds (by omega) (by omega) hH).mono ?_;rintro _ w ⟨rfl,hH⟩;replace hH:=hB2 _ _ hH;replace hH:=hB1 _ _ hH;refine ⟨_,rfl,fun a hF=>JL hF hH ?_⟩;refine Jr (.s .z) (Jr (.s (.s .z)) (Jr (.s (.s .z)) (Ji ?_)));exact hK zq zc zq2 zc2 zb zv
  ·
   intro gh gh' h
   first | simp only [h 2 rfl,h 3 rfl,h 12 rfl] | rfl
  apply Jj 15 rfl
  iterate 3 focus (intros;(conv=>lhs;simp only [Jh,Jt,JN,Jv,JI,eq_self,reduceEqDiff,reduceIte,reduceSub,reduceAdd,JxA,JxB]);all_goals rfl)
  ·
   intro gh X K zq zc zq2 zc2 zb zv hK;refine Jg (Em rfl) rfl (Ji ?_);exact hK zq zc zq2 zc2 zb zv
  ·
   intro gh gh' h
   first | simp only [h 2 rfl,h 3 rfl,h 12 rfl] | rfl
  apply Ek [0,1,2,3,4,5,6,7,8,9,10,11,12,13,14] [0,1,2,3,4,5,6,7,8,9,10,11,12,13,14,15] foll0 rfl rfl rfl (by rfl)
  iterate 2 focus (intros;(conv=>lhs;simp only [Jh,Jt,JN,Jv,JI,eq_self,reduceEqDiff,reduceIte,reduceSub,reduceAdd,JxA,JxB]);all_goals rfl)
  intro gh;generalize (gh 2).b=bo32;generalize (gh 3).b=bo33;generalize (gh 3).c=mo33;generalize (gh 3).vs=vo33;generalize (gh 12).b=bo42;clear gh;refine Ja (hK9 (Eg rfl (fun h44=>?_) (fun h44=>?_)))
  ·
   refine Je fun _ hK10 _=>(Jb (Jg (Jd rfl) rfl (Jf (Ja (hK10 (Js (JT (Jk (Jk (JT (Jk (Jq rfl (Res.tmp rfl) fun w hH=>?_))))))))))));replace hH:=hH.tail;replace hH:=hH.tail;replace hH:=hH.tail;replace hH:=hH.tail;replace hH:=hH.tail;exact ⟨rb (by rw [kps_bad (i:=i) (by omega) (by show ¬(acc (leadS bd (ssF ms) ms.length _) _).length=0;rw [hlen];simpa [ssF] using h44)]),hH.weaken (hle7.trans hle79) hw0 hw1⟩
  ·
   refine Jo (JF (Ja (hK7 (Jb (Jg (JC rfl rfl (by first | exact nw _ (by omega) | rfl)) rfl (Jg (Jc rfl) rfl (Jf (Ja (JK .z (JK .z (JK (.s .z) (JK (.s .z) ?_))))))))))));exact hAg0 (mo33,vo33,i+1) ⟨by omega,upto hI (by show (acc (leadS bd (ssF ms) ms.length _) _).length=0;rw [hlen];simpa [ssF] using h44)⟩ (by show af.length - (i+1)<af.length - i;omega) 24 rfl rfl ⟨rfl,trivial⟩ rfl rfl
 ·
  refine JH (Jl (Jl (JQ (Ja (hK3 (Je fun _ hK11 _=>(Jb (Jg (Jd rfl) rfl (Jf (Ja (hK11 (Js (Jq rfl (Res.tmp rfl) fun w hH=>?_)))))))))))));replace hH:=hH.tail;exact ⟨rb (by rw [kps_good (fun j hj=>hI j (by omega))]),hH.weaken (hle7.trans hle79) hw0 hw1⟩
theorem fn184:Fn Tryz.prog 184:=⟨_,Tryz.func184,by kernel_rfl,rfl⟩
theorem fn196:Fn Tryz.prog 196:=⟨_,Tryz.func196,by kernel_rfl,rfl⟩
theorem fn197:Fn Tryz.prog 197:=⟨_,Tryz.func197,by kernel_rfl,rfl⟩
theorem isMap_c {B:World} {H0 H:HP} {L:List SA} {w:World} {ba:Nat} {qad qaf:Option Addr} {cad caf:Nat} {ad:List Int} {af:List (List Term)} {bb:Nat} {qbd qbf:Option Addr} {cbd cbf:Nat} {bd:List Int} {bf:List (List Term)} {qms:Option Addr} {cms:Nat} {ms:List (List Term)} (pad:CellAt H ba 0 (.slice qad ad.length cad)) (paf:CellAt H ba 1 (.slice qaf af.length caf)) (had:Ints H qad ad) (haf:Forms H qaf af) (pbd:CellAt H bb 0 (.slice qbd bd.length cbd)) (pbf:CellAt H bb 1 (.slice qbf bf.length cbf)) (hbd:Ints H qbd bd) (hbf:Forms H qbf bf) (hms:Forms H qms ms) (hAa:isAlg ad af=true) (hBb:isAlg bd bf=true) (hmn:ms.length≤1048576) (hml : ∀i,i<ms.length→(fm ms i).length≤1048576) (hH:Hp B H0 H L w):Calls Tryz.prog 184 [.pointer (some ⟨ba,0,none⟩),.pointer (some ⟨bb,0,none⟩),.slice qms ms.length cms].toArray w fun e w'=>e = .returned (.bool (decide (ms.length=ad.length) && mpsOk bd ms ad && kps bd bf ms af))∧Hp B H0 H L w':=by
 refine Jz Tryz.func184 rfl 23 rfl rfl [(0,.pointer (some ⟨ba,0,none⟩)),(1,.pointer (some ⟨bb,0,none⟩)),(2,.slice qms ms.length cms)] rfl hH ?_;clear hH;have hBo:=isAlg_ok hBb hbf.wfss;refine Je fun _ hK1 _=>(Jb (Jg (Jd rfl) rfl (Jf (Ja (hK1 (Je fun _ hK2 _=>(Eo [[], [0], [1], [2], [], [4], [5], [6], [], [3,7,8], [9], [10], [10], [10]] (by kernel_rfl) (JA (fun gh=>Jc rfl) (JA (fun gh=>JG rfl) (JA (fun gh=>Ju u35 rfl sz22 rfl) (JA (fun gh=>JB (q:=some ⟨ba,0,none⟩) (k:=0) rfl pad pl22) (JA (fun gh=>Jc rfl) (JA (fun gh=>JG rfl) (JA (fun gh=>Ju u35 rfl sz22 rfl) (JA (fun gh=>JB (q:=some ⟨bb,0,none⟩) (k:=0) rfl pbd pl22) ?_)))))))))))))));refine JA (fun gh=>Jc rfl) (HJ.call fn196 (fun gh=>rfl) (fun w X hH=>isAssignment_c had hbd hms hBo.hn hBo.hd hmn hml hH) (JA (fun gh=>Jc rfl) (EQ 10 rfl (fun h17=>?_) (fun h17=>?_))))
 ·
  try have h17p:=of_decide_eq_true h17
  refine Eh (fun gh=>Jc rfl) rfl (fun gh=>rfl) h17 (Eh (fun gh=>Jc rfl) rfl (fun gh=>rfl) h17 (Eh (fun gh=>Jc rfl) rfl (fun gh=>rfl) h17 (Eb 14 1 foll0 (by kernel_rfl) rfl rfl fun gh=>(En (us':=(7,_)::(8,_)::(9,_)::(10,_)::(11,_)::(12,_)::(13,_)::(14,_)::(15,_)::(16,_)::(17,_)::(18,_)::(19,_)::(20,_)::_) (L':=_) rfl rfl (ES fn197 rfl rfl h17 rfl rfl fun w hH=>(keeps_c pad paf had haf pbd pbf hbd hbf hms hAa hBb (of_decide_eq_true (Bool.and_eq_true_iff.1 h17).1) (Bool.and_eq_true_iff.1 h17).2 hH).mono ?_)))));rintro _ w ⟨rfl,hH⟩;refine ⟨_,rfl,fun a hF=>JL hF hH ?_⟩;refine Jf (Ec (JD (JZ rfl h17 rfl) rfl (JD (Jd rfl) rfl (Ef (Ja (hK2 (Js (Jq rfl (Res.tmp rfl) fun w hH=>?_))))))));exact ⟨rb (by rw [h17];rfl),hH⟩
 ·
  try have h17p:=of_decide_eq_false h17
  refine Ed rfl (fun gh=>rfl) h17 (Ed rfl (fun gh=>rfl) h17 (Ed rfl (fun gh=>rfl) h17 (Eb 14 1 foll0 (by kernel_rfl) rfl rfl fun gh=>(En (us':=(7,_)::(8,_)::(9,_)::(10,_)::(11,_)::(12,_)::(13,_)::(14,_)::(15,_)::(16,_)::(17,_)::(18,_)::(19,_)::(20,_)::_) (L':=_) rfl rfl (JU rfl rfl rfl h17 (Jf (Ec (JD (JW rfl h17 rfl) rfl (JD (Jd rfl) rfl (Ef (Ja (hK2 (Js (Jq rfl (Res.tmp rfl) fun w hH=>?_))))))))))))));exact ⟨rb (by rw [h17];rfl),hH⟩
theorem IsMap_c {B:World} {H0 H:HP} {L:List SA} {w:World} {qad qaf:Option Addr} {cad caf:Nat} {ad:List Int} {af:List (List Term)} {qbd qbf:Option Addr} {cbd cbf:Nat} {bd:List Int} {bf:List (List Term)} {qms:Option Addr} {cms:Nat} {ms:List (List Term)} (had:Ints H qad ad) (haf:Forms H qaf af) (hbd:Ints H qbd bd) (hbf:Forms H qbf bf) (hms:Forms H qms ms) (hn8:ad.length≤1048576) (hn9:af.length≤1048576) (hl9 : ∀i,i<af.length→(fm af i).length≤1048576) (hbn8:bd.length≤1048576) (hbn9:bf.length≤1048576) (hbl9 : ∀i,i<bf.length→(fm bf i).length≤1048576) (hmn9:ms.length≤1048576) (hml9 : ∀i,i<ms.length→(fm ms i).length≤1048576) (hH:Hp B H0 H L w):Calls Tryz.prog 149 [.agg [.slice qad ad.length cad,.slice qaf af.length caf].toArray,.agg [.slice qbd bd.length cbd,.slice qbf bf.length cbf].toArray,.slice qms ms.length cms].toArray w fun e w'=>e = .returned (.bool (isMp ad af bd bf ms))∧Hp B H0 H L w':=by
 refine Jz Tryz.func149 rfl 17 rfl rfl [(0,.agg [.slice qad ad.length cad,.slice qaf af.length caf].toArray),(1,.agg [.slice qbd bd.length cbd,.slice qbf bf.length cbf].toArray),(2,.slice qms ms.length cms)] rfl hH ?_;have hw0:=hH.old;have hw1:=hH.le;clear hH;refine Je fun _ hK1 _=>(Jb (Ee rfl rfl rfl fun g3=>(Ee rfl rfl rfl fun g4=>(Jg (Jd rfl) rfl (Jf (Ja (hK1 (Je fun _ hK2 _=>(Jb (ER (.s .z) fun H7 hle7 hc7=>?_))))))))));replace had:=had.le hle7;replace haf:=haf.le hle7;replace hbd:=hbd.le hle7;replace hbf:=hbf.le hle7;replace hms:=hms.le hle7;refine ER .z fun H8 hle8 hc8=>?_;replace had:=had.le hle8;replace haf:=haf.le hle8;replace hbd:=hbd.le hle8;replace hbf:=hbf.le hle8;replace hms:=hms.le hle8;have hle78:=hle7.trans hle8;have pad:CellAt H8 g3 0 (.slice qad ad.length cad):=CellAt.le (hc7 0 _ rfl) hle8;have paf:CellAt H8 g3 1 (.slice qaf af.length caf):=CellAt.le (hc7 1 _ rfl) hle8;have pbd:CellAt H8 g4 0 (.slice qbd bd.length cbd):=hc8 0 _ rfl;have pbf:CellAt H8 g4 1 (.slice qbf bf.length cbf):=hc8 1 _ rfl;refine Jg (PR.loadHb rfl pad paf ag35) rfl (Jw fn132 rfl rfl fun w hH=>(IsAlgebra_c had haf (by omega) (by omega) hl9 hH).mono ?_);rintro _ w ⟨rfl,hH⟩;refine ⟨_,rfl,fun a hF=>JL hF hH ?_⟩;refine Jg (Jc rfl) rfl (Ei (jd:=9) rfl (fun h9=>?_) (fun h9=>?_))
 ·
  try have h9p:=of_decide_eq_true h9
  refine JX (PR.loadHb rfl pbd pbf ag35) rfl rfl rfl h9 (ES fn132 rfl rfl h9 rfl rfl fun w hH=>(IsAlgebra_c hbd hbf (by omega) (by omega) hbl9 hH).mono ?_);rintro _ w ⟨rfl,hH⟩;refine ⟨_,rfl,fun a hF=>JL hF hH ?_⟩;refine Jg (JZ rfl h9 rfl) rfl (Jg (Jc rfl) rfl (Ei (jd:=13) rfl (fun h13=>?_) (fun h13=>?_)))
  ·
   try have h13p:=of_decide_eq_true h13
   refine JX (Jc rfl) rfl rfl rfl h13 (ES fn184 rfl rfl h13 rfl rfl fun w hH=>(isMap_c pad paf had haf pbd pbf hbd hbf hms (by simpa using h9) (by simpa using h13) (by omega) hml9 hH).mono ?_);rintro _ w ⟨rfl,hH⟩;refine ⟨_,rfl,fun a hF=>JL hF hH ?_⟩;refine Jg (JZ rfl h13 rfl) rfl (Jg (Jd rfl) rfl (Jf (Ja (hK2 (Js (Jq rfl (Res.tmp rfl) fun w hH=>?_))))));exact ⟨rb (by unfold isMp;rw [h9,h13];rfl),hH.weaken hle78 hw0 hw1⟩
  ·
   try have h13p:=of_decide_eq_false h13
   refine JU rfl rfl rfl h13 (JU rfl rfl rfl h13 (Jg (JW rfl h13 rfl) rfl (Jg (Jd rfl) rfl (Jf (Ja (hK2 (Js (Jq rfl (Res.tmp rfl) fun w hH=>?_))))))));exact ⟨rb (by unfold isMp;rw [h9,h13];rfl),hH.weaken hle78 hw0 hw1⟩
 ·
  try have h9p:=of_decide_eq_false h9
  refine JU rfl rfl rfl h9 (JU rfl rfl rfl h9 (Jg (JW rfl h9 rfl) rfl (Jg (Jc rfl) rfl (JU rfl rfl rfl rfl (JU rfl rfl rfl rfl (Jg (JW rfl rfl rfl) rfl (Jg (Jd rfl) rfl (Jf (Ja (hK2 (Js (Jq rfl (Res.tmp rfl) fun w hH=>?_))))))))))));exact ⟨rb (by unfold isMp;rw [h9];rfl),hH.weaken hle78 hw0 hw1⟩
theorem fn149:Fn Tryz.prog 149:=⟨_,Tryz.func149,by kernel_rfl,rfl⟩
def mpC (ad:List Int) (af:List (List Term)) (bd:List Int) (bf ms:List (List Term)):Int:=if isMp ad af bd bf ms then 0 else 1
theorem mapCode_c {B:World} {H0 H:HP} {L:List SA} {w:World} {ba:Nat} {qad qaf:Option Addr} {cad caf:Nat} {ad:List Int} {af:List (List Term)} {bb:Nat} {qbd qbf:Option Addr} {cbd cbf:Nat} {bd:List Int} {bf:List (List Term)} {qms:Option Addr} {cms:Nat} {ms:List (List Term)} (pad:CellAt H ba 0 (.slice qad ad.length cad)) (paf:CellAt H ba 1 (.slice qaf af.length caf)) (had:Ints H qad ad) (haf:Forms H qaf af) (pbd:CellAt H bb 0 (.slice qbd bd.length cbd)) (pbf:CellAt H bb 1 (.slice qbf bf.length cbf)) (hbd:Ints H qbd bd) (hbf:Forms H qbf bf) (hms:Forms H qms ms) (hn8:ad.length≤1048576) (hn9:af.length≤1048576) (hl9 : ∀i,i<af.length→(fm af i).length≤1048576) (hbn8:bd.length≤1048576) (hbn9:bf.length≤1048576) (hbl9 : ∀i,i<bf.length→(fm bf i).length≤1048576) (hmn9:ms.length≤1048576) (hml9 : ∀i,i<ms.length→(fm ms i).length≤1048576) (hH:Hp B H0 H L w):Calls Tryz.prog 97 [.pointer (some ⟨ba,0,none⟩),.pointer (some ⟨bb,0,none⟩),.slice qms ms.length cms].toArray w fun e w'=>e = .returned (.int .i64 (mpC ad af bd bf ms))∧Hp B H0 H L w':=by
 refine Jz Tryz.func97 rfl 17 rfl rfl [(0,.pointer (some ⟨ba,0,none⟩)),(1,.pointer (some ⟨bb,0,none⟩)),(2,.slice qms ms.length cms)] rfl hH ?_;clear hH;refine Je fun _ hK1 _=>(Jb (Jg (Jd rfl) rfl (Jf (Ja (hK1 (Je fun _ hK2 _=>(Eo [[], [0], [1], [], [3], [4], []] (by kernel_rfl) (JA (fun gh=>Jc rfl) (JA (fun gh=>JG rfl) (JA (fun gh=>PR.loadHb rfl pad paf ag35) (JA (fun gh=>Jc rfl) (JA (fun gh=>JG rfl) (JA (fun gh=>PR.loadHb rfl pbd pbf ag35) (JA (fun gh=>Jc rfl) (Eb 7 3 foll0 (by kernel_rfl) rfl rfl fun gh=>?_)))))))))))))));refine En (us':=(7,_)::(8,_)::(9,_)::(10,_)::(11,_)::(12,_)::(13,_)::_) (L':=_) rfl rfl (Jw fn149 rfl rfl fun w hH=>(IsMap_c had haf hbd hbf hms hn8 hn9 hl9 hbn8 hbn9 hbl9 hmn9 hml9 hH).mono ?_);rintro _ w ⟨rfl,hH⟩;refine ⟨_,rfl,fun a hF=>JL hF hH ?_⟩;refine Jg (Em rfl) rfl (Jw fn81 rfl rfl fun w hH=>(when_c hH).mono ?_);rintro _ w ⟨rfl,hH⟩;refine ⟨_,rfl,fun a hF=>JL hF hH ?_⟩;refine Jf (Ec (JD (Jd rfl) rfl (Ef (Ja (hK2 (Js (Jq rfl (Res.tmp rfl) fun w hH=>?_)))))));exact ⟨ri (by unfold mpC;cases isMp ad af bd bf ms <;> rfl),hH⟩
def ldR (r:List Int):Nat:=r.findIdx fun x=>decide (x≠0)
theorem ldR_lt {r:List Int} {k:Nat} (h:k<ldR r):r.getD k 0=0:=by
 rcases Nat.lt_or_ge k r.length with hk | hk
 ·have h1:=List.not_of_lt_findIdx h;rw [List.getD_eq_getElem?_getD,List.getElem?_eq_getElem hk]
  simpa using h1
 ·rw [List.getD_eq_getElem?_getD,List.getElem?_eq_none hk]
  rfl
theorem ldR_ne {r:List Int} (h:ldR r<r.length):r.getD (ldR r) 0≠0:=by
 have h1:=List.findIdx_getElem (p:=fun x:Int=>decide (x≠0)) (w:=h);rw [List.getD_eq_getElem?_getD,List.getElem?_eq_getElem h];have h2:r[r.findIdx fun x=>decide (x≠0)]≠0:=of_decide_eq_true h1;exact h2
theorem ldR_of {r:List Int} {k:Nat} (h0 : ∀j,j<k→r.getD j 0=0) (h:r.getD k 0≠0):ldR r=k:=by
 have hk:k<r.length:=by
  rcases Nat.lt_or_ge k r.length with hk | hk
  ·exact hk
  ·rw [List.getD_eq_getElem?_getD,List.getElem?_eq_none hk] at h;exact absurd rfl h
 rcases Nat.lt_trichotomy (ldR r) k with h1 | h1 | h1
 ·exact absurd (h0 _ h1) (ldR_ne (by omega))
 ·exact h1
 ·exact absurd (ldR_lt h1) h
theorem ldR_end {r:List Int} (h : ¬ldR r<r.length) : ∀k,r.getD k 0=0:=fun k=>by
 rcases Nat.lt_or_ge k r.length with hk | hk
 ·exact ldR_lt (by omega)
 ·rw [List.getD_eq_getElem?_getD,List.getElem?_eq_none hk]
  rfl
abbrev Vc:=Nat→Int
abbrev vR (r:List Int):Vc:=fun k=>r.getD k 0
inductive Spn (rs:List (List Int)):Vc→Prop
 | zero {v:Vc}:(∀k,Mo (v k) 0)→Spn rs v
 | add {u v:Vc} {r:List Int} {c:Int}:r∈rs→Spn rs u→(∀k,Mo (v k) (c * r.getD k 0+u k))→Spn rs v
theorem Spn.congr {rs:List (List Int)} {u v:Vc} (h:Spn rs u) (e : ∀k,Mo (v k) (u k)):Spn rs v:=by
 cases h with
 | zero h=>exact .zero fun k=>(e k).trans (h k)
 | add hr hu h=>exact .add hr hu fun k=>(e k).trans (h k)
theorem Spn.row {rs:List (List Int)} {r:List Int} (hr:r∈rs):Spn rs (vR r):=
 .add (u:=fun _=>0) (c:=1) hr (.zero fun _=>Mo.refl _) fun k=>by simp [Mo]
theorem Spn.plus {rs:List (List Int)} {u v:Vc} (hu:Spn rs u) (hv:Spn rs v):Spn rs (fun k=>u k+v k):=by
 induction hu with
 | zero h=>exact hv.congr fun k=>by have:=(h k).add (Mo.refl (v k));simpa using this
 | add hr _ h ih=>
  exact .add hr ih fun k=>by
   have:=(h k).add (Mo.refl (v k));rw [Int.add_assoc] at this;exact this
theorem Spn.mul {rs:List (List Int)} {u:Vc} (hu:Spn rs u) (c:Int):Spn rs (fun k=>c * u k):=by
 induction hu with
 | zero h=>exact .zero fun k=>by have:=(h k).mull c;simpa using this
 | @add u v r d hr _ h ih=>
  exact .add (c:=c * d) hr ih fun k=>by
   have:=(h k).mull c;rw [Int.mul_add,← Int.mul_assoc] at this;exact this
theorem Spn.sub {rs ss:List (List Int)} {v:Vc} (h:Spn rs v) (hs : ∀r∈rs,Spn ss (vR r)):Spn ss v:=by
 induction h with
 | zero h=>exact .zero h
 | @add u v r c hr _ h ih=>exact (((hs r hr).mul c).plus ih).congr h
theorem Spn.vanish {rs:List (List Int)} {v:Vc} {k:Nat} (h:Spn rs v) (hk : ∀r∈rs,Mo (r.getD k 0) 0):Mo (v k) 0:=by
 induction h with
 | zero h=>exact h k
 | @add u v r c hr _ h ih=>
  have:=(h k).trans (((hk r hr).mull c).add ih)
  simpa using this
structure RowOk (W:Nat) (r:List Int):Prop where
 len:r.length=W
 val : ∀k,0≤r.getD k 0∧r.getD k 0≤10006
structure Red (W:Nat) (R:List (List Int)):Prop where
 row : ∀r∈R,RowOk W r
 srt:R.Pairwise fun r s=>ldR r<ldR s
 one : ∀r∈R,ldR r<W∧r.getD (ldR r) 0=1
 zer : ∀r∈R,∀s∈R,ldR r≠ldR s→s.getD (ldR r) 0=0
theorem sum_mo {α:Type} {f g:α→Int} : ∀{l:List α},(∀x∈l,Mo (f x) (g x))→Mo (l.map f).sum (l.map g).sum
 | [],_=>Mo.refl _
 | a::l,h=>by
  simp only [List.map_cons,List.sum_cons]
  exact (h a (by simp)).add (sum_mo fun x hx=>h x (by simp [hx]))
theorem sum_zero {α:Type} {g:α→Int} : ∀{l:List α},(∀x∈l,g x=0)→(l.map g).sum=0
 | [],_=>rfl
 | a::l,h=>by
  simp only [List.map_cons,List.sum_cons]
  rw [h a (by simp),sum_zero fun x hx=>h x (by simp [hx])]
  rfl
theorem sum_plus {α:Type} {f g:α→Int} (c:Int) : ∀{l:List α},(l.map fun x=>c * f x+g x).sum=c * (l.map f).sum+(l.map g).sum
 | []=>by simp
 | a::l=>by
  simp only [List.map_cons,List.sum_cons]
  rw [sum_plus c,Int.mul_add]
  omega
theorem sum_single {α:Type} {f:α→Nat} {g:α→Int} : ∀{l:List α},l.Pairwise (fun a b=>f a<f b)→∀{r:α},r∈l→(∀s∈l,f s≠f r→g s=0)→(l.map g).sum=g r
 | [],_,_,hr,_=>by simp at hr
 | a::l,hp,r,hr,h=>by
  rw [List.pairwise_cons] at hp
  simp only [List.map_cons,List.sum_cons]
  rcases List.mem_cons.1 hr with rfl | hr
  ·rw [sum_zero fun s hs=>h s (by simp [hs]) (by have:=hp.1 s hs;omega)]
   omega
  ·rw [sum_single hp.2 hr fun s hs=>h s (by simp [hs]),h a (by simp) (by have:=hp.1 r hr;omega)]
   omega
theorem Red.at {W:Nat} {R:List (List Int)} (h:Red W R) {v:Vc} (hv:Spn R v) : ∀k,Mo (v k) (R.map fun s=>v (ldR s) * s.getD k 0).sum:=by
 induction hv with
 | zero hz=>
  intro k;refine (hz k).trans ?_
  have h1:=sum_mo (l:=R) (f:=fun s=>(0:Int)) (g:=fun s=>_ * s.getD k 0) fun s _=>by
   have:=(hz (ldR s)).mul (s.getD k 0);rw [Int.zero_mul] at this;exact this.symm
  rw [sum_zero fun x _=>rfl] at h1;exact h1
 | @add u v r c hr _ e ih=>
  intro k;refine (e k).trans ?_
  have h1:=sum_mo (l:=R) (f:=fun s=>v (ldR s) * s.getD k 0) (g:=fun s=>c * (r.getD (ldR s) 0 * s.getD k 0)+u (ldR s) * s.getD k 0) fun s _=>by
   have:=(e (ldR s)).mul (s.getD k 0);rw [Int.add_mul,Int.mul_assoc] at this;exact this
  have h2:=sum_single (l:=R) (f:=ldR) (g:=fun s=>r.getD (ldR s) 0 * s.getD k 0) h.srt hr fun s hs hne=>by rw [h.zer s hs r hr hne,Int.zero_mul]
  rw [(h.one r hr).2,Int.one_mul] at h2;rw [sum_plus,h2] at h1;exact (((Mo.refl (c * r.getD k 0))).add (ih k)).trans h1.symm
theorem Red.lead {W:Nat} {R:List (List Int)} (h:Red W R) {v:Vc} (hv:Spn R v) {k:Nat} (h0 : ∀j,j<k→Mo (v j) 0) (h1 : ¬Mo (v k) 0) : ∃r∈R,ldR r=k:=by
 refine Classical.byContradiction fun hc=>h1 ((h.at hv k).trans ?_)
 have h2:=sum_mo (l:=R) (f:=fun s=>v (ldR s) * s.getD k 0) (g:=fun s=>(0:Int)) fun s hs=>by
  rcases Nat.lt_trichotomy (ldR s) k with h3 | h3 | h3
  ·have:=(h0 _ h3).mul (s.getD k 0)
   rwa [Int.zero_mul] at this
  ·exact absurd ⟨s,hs,h3⟩ hc
  ·rw [ldR_lt h3,Int.mul_zero];exact Mo.refl _
 rwa [sum_zero (l:=R) fun x _=>rfl] at h2
theorem Mo.val {a b:Int} (h:Mo a b) (ha:0≤a∧a≤10006) (hb:0≤b∧b≤10006):a=b:=by unfold Mo at h;omega
theorem Red.mem {W:Nat} {R S:List (List Int)} (hR:Red W R) (hS:Red W S) (h : ∀v,Spn R v↔Spn S v) {r:List Int} (hr:r∈R):r∈S:=by
 have hv:=(h _).1 (Spn.row hr);have h1:=hR.one r hr;obtain ⟨s,hs,e⟩:=hS.lead hv (k:=ldR r) (fun j hj=>by show Mo (r.getD j 0) 0;rw [ldR_lt hj];exact Mo.refl _) (by show ¬Mo (r.getD (ldR r) 0) 0;rw [h1.2];unfold Mo;omega);have hrs:=hR.row r hr;have hss:=hS.row s hs
 have:r=s:=by
  refine List.ext_getElem (by rw [hrs.len,hss.len]) fun k hk1 hk2=>?_;have h2:=hS.at hv k
  rw [sum_single hS.srt hs fun t ht hne=>by
   obtain ⟨r',hr',e'⟩:=hR.lead ((h _).2 (Spn.row ht)) (k:=ldR t) (fun j hj=>by show Mo (t.getD j 0) 0;rw [ldR_lt hj];exact Mo.refl _) (by show ¬Mo (t.getD (ldR t) 0) 0;rw [(hS.one t ht).2];unfold Mo;omega)
   show r.getD (ldR t) 0 * _=0
   rw [← e',hR.zer r' hr' r hr (by omega),Int.zero_mul],e] at h2
  have h3:Mo (r.getD k 0) (s.getD k 0):=by
   have h4:vR r (ldR r)=1:=h1.2;rw [h4,Int.one_mul] at h2;exact h2
  have h5:=h3.val (hrs.val k) (hss.val k);rw [List.getD_eq_getElem?_getD,List.getD_eq_getElem?_getD,List.getElem?_eq_getElem hk1,List.getElem?_eq_getElem hk2] at h5;exact h5
 rw [this];exact hs
theorem srt_ext {α:Type} {f:α→Nat} : ∀{R S:List α},R.Pairwise (fun a b=>f a<f b)→S.Pairwise (fun a b=>f a<f b)→(∀x,x∈R↔x∈S)→R=S
 | [], [],_,_,_=>rfl
 | [],s::S,_,_,h=>by have:=(h s).2 (by simp);simp at this
 | r::R, [],_,_,h=>by have:=(h r).1 (by simp);simp at this
 | r::R,s::S,hR,hS,h=>by
  rw [List.pairwise_cons] at hR hS
  have e:r=s:=by
   rcases List.mem_cons.1 ((h r).1 (by simp)) with h1 | h1
   ·exact h1
   ·rcases List.mem_cons.1 ((h s).2 (by simp)) with h2 | h2
    ·exact h2.symm
    ·have:=hS.1 r h1
     have:=hR.1 s h2
     omega
  subst e
  rw [srt_ext hR.2 hS.2 fun x=>⟨fun hx=>by
   rcases List.mem_cons.1 ((h x).1 (by simp [hx])) with h1 | h1
   ·have:=hR.1 x hx;rw [h1] at this;omega
   ·exact h1,fun hx=>by
   rcases List.mem_cons.1 ((h x).2 (by simp [hx])) with h1 | h1
   ·have:=hS.1 x hx;rw [h1] at this;omega
   ·exact h1⟩]
theorem Red.unique {W:Nat} {R S:List (List Int)} (hR:Red W R) (hS:Red W S) (h : ∀v,Spn R v↔Spn S v):R=S:=
 srt_ext hR.srt hS.srt fun _=>⟨fun hx=>hR.mem hS h hx,fun hx=>hS.mem hR (fun v=>(h v).symm) hx⟩
def invN:Nat→Nat→Nat→Nat→Nat
 | 0,_,o,_=>o
 | f+1,k,o,s=>if k=0 then o else invN f (k / 2) (if k % 2=1 then o * s % 10007 else o) (s * s % 10007)
def chkI (x:Nat):Bool:=Nat.beq (x * invN 14 10005 1 x % 10007) 1
def chkR:Nat→Nat→Bool
 | 0,lo=>chkI lo
 | d+1,lo=>chkR d lo && chkR d (lo+2 ^ d)
theorem chkR_at : ∀{d lo:Nat},chkR d lo=true→∀x,lo≤x→x<lo+2 ^ d→chkI x=true
 | 0,lo,h,x,h1,h2=>by
  have:x=lo:=by simp at h2;omega
  rw [this]
  exact h
 | d+1,lo,h,x,h1,h2=>by
  simp only [chkR,Bool.and_eq_true] at h
  rw [Nat.pow_succ] at h2
  by_cases hx:x<lo+2 ^ d
  ·exact chkR_at h.1 x h1 hx
  ·exact chkR_at h.2 x (by omega) (by omega)
theorem inv_a:chkR 13 1=true:=by kernel_rfl
theorem inv_b:chkR 13 1815=true:=by kernel_rfl
theorem inv_n {x:Nat} (h:1≤x∧x≤10006):x * invN 14 10005 1 x % 10007=1:=by
 have h1:chkI x=true:=by
  by_cases hx:x<1815
  ·exact chkR_at inv_a x h.1 (by have h13:2 ^ 13=8192:=(by decide);omega)
  ·exact chkR_at inv_b x (by omega) (by have h13:2 ^ 13=8192:=(by decide);omega)
 exact Nat.eq_of_beq_eq_true h1
def invL:Nat→Int→Int→Int→Int
 | 0,_,o,_=>o
 | f+1,k,o,s=>if k=0 then o else invL f (k / 2) (if k % 2=1 then o * s % 10007 else o) (s * s % 10007)
theorem invL_N : ∀(f k o s:Nat),invL f (k:Int) (o:Int) (s:Int)=(invN f k o s:Nat)
 | 0,_,_,_=>rfl
 | f+1,k,o,s=>by
  simp only [invL,invN]
  by_cases h:k=0
  ·rw [if_pos h,if_pos (by omega)]
  ·rw [if_neg h,if_neg (by omega)]
   have e1:((k / 2:Nat):Int)=(k:Int) / 2:=by omega
   have e2 : ∀a b:Nat,((a * b % 10007:Nat):Int)=(a:Int) * b % 10007:=fun a b=>by rw [Int.natCast_emod,Int.natCast_mul];rfl
   by_cases h2:k % 2=1
   ·rw [if_pos h2,if_pos (by omega),← invL_N,e1,e2,e2]
   ·rw [if_neg h2,if_neg (by omega),← invL_N,e1,e2]
def ivZ (x:Int):Int:=invL 14 10005 1 x
theorem ivZ_N (x:Nat):ivZ (x:Int)=(invN 14 10005 1 x:Nat):=invL_N 14 10005 1 x
theorem ivZ_mul {x:Int} (h:1≤x∧x≤10006):x * ivZ x % 10007=1:=by
 obtain ⟨n,rfl⟩ : ∃n:Nat,x=n:=⟨x.toNat,by omega⟩;rw [ivZ_N];have h1:=congrArg (fun m:Nat=>(m:Int)) (inv_n (x:=n) (by omega));simp only [Int.natCast_emod,Int.natCast_mul] at h1;exact h1
theorem invN_bd : ∀(f k o s:Nat),o≤10006→invN f k o s≤10006
 | 0,_,_,_,h=>h
 | f+1,k,o,s,h=>by
  simp only [invN]
  split
  ·exact h
  ·refine invN_bd f _ _ _ ?_
   split
   ·have:=Nat.mod_lt (o * s) (show 0<10007 by omega);omega
   ·exact h
theorem ivZ_bd {x:Int} (h:0≤x):0≤ivZ x∧ivZ x≤10006:=by
 obtain ⟨n,rfl⟩ : ∃n:Nat,x=n:=⟨x.toNat,by omega⟩;rw [ivZ_N];have:=invN_bd 14 10005 1 n (by omega)
 omega
def lessS (row other:List Int) (k:Int):List Int:=(List.range row.length).map fun i=>fld (row.getD i 0 - k * other.getD i 0)
@[simp] theorem lessS_len (row other:List Int) (k:Int):(lessS row other k).length=row.length:=by simp [lessS]
theorem getD_out {r:List Int} {k:Nat} (h : ¬k<r.length):r.getD k 0=0:=by
 rw [List.getD_eq_getElem?_getD,List.getElem?_eq_none (by omega)]
 rfl
theorem lessS_get {row other:List Int} {k:Int} {i:Nat} (h:i<row.length):(lessS row other k).getD i 0=fld (row.getD i 0 - k * other.getD i 0):=by simp [lessS,List.getD_eq_getElem?_getD,h]
theorem lessS_all {row other:List Int} {k:Int} (h:other.length=row.length) (i:Nat):(lessS row other k).getD i 0=fld (row.getD i 0 - k * other.getD i 0):=by
 by_cases hi:i<row.length
 ·exact lessS_get hi
 ·rw [getD_out (by simpa using hi),getD_out hi,getD_out (by omega),Int.mul_zero]
  rfl
theorem lessS_mo {row other:List Int} {k:Int} (h:other.length=row.length) (i:Nat):Mo ((lessS row other k).getD i 0) (row.getD i 0 - k * other.getD i 0):=by
 rw [lessS_all h];exact Mo.fld _
theorem RowOk.less {W:Nat} {row other:List Int} {k:Int} (h:RowOk W row) (ho:other.length=row.length):RowOk W (lessS row other k):=⟨by rw [lessS_len];exact h.len,fun i=>by rw [lessS_all ho];exact fld_bd _⟩
theorem RowOk.ext {W:Nat} {r s:List Int} (hr:RowOk W r) (hs:RowOk W s) (h : ∀k,r.getD k 0=s.getD k 0):r=s:=by
 refine List.ext_getElem (by rw [hr.len,hs.len]) fun k hk1 hk2=>?_;have h5:=h k;rw [List.getD_eq_getElem?_getD,List.getD_eq_getElem?_getD,List.getElem?_eq_getElem hk1,List.getElem?_eq_getElem hk2] at h5;exact h5
theorem lessS_0 {W:Nat} {row other:List Int} (h:RowOk W row) (ho:other.length=row.length):lessS row other 0=row:=(h.less ho).ext h fun k=>by
 rw [lessS_all ho,Int.zero_mul,Int.sub_zero]
 have:=h.val k
 exact fld_id (by omega)
section
variable {W : Nat} {R rows : List (List Int)} {row r s : List Int} {v : Vc}
def oneBy (row r:List Int):List Int:=lessS row r (row.getD (ldR r) 0)
def byS (row:List Int) (rows:List (List Int)):List Int:=rows.foldl oneBy row
theorem RowOk.one (h:RowOk W row) (hr:RowOk W r):RowOk W (oneBy row r):=h.less (by rw [hr.len,h.len])
theorem oneBy_get (h:RowOk W row) (hr:RowOk W r) (k:Nat):(oneBy row r).getD k 0=fld (row.getD k 0 - row.getD (ldR r) 0 * r.getD k 0):=lessS_all (by rw [hr.len,h.len]) k
theorem fld_0:fld 0=0:=by rw [fld_eq];rfl
theorem byS_ok : ∀{B:List (List Int)} {row:List Int},RowOk W row→(∀r∈B,RowOk W r)→RowOk W (byS row B)
 | [],_,h,_=>h
 | r::B,row,h,hB=>byS_ok (B:=B) (h.one (hB r (by simp))) fun s hs=>hB s (by simp [hs])
theorem byS_keep {ℓ:Nat} : ∀{B:List (List Int)} {row:List Int},RowOk W row→(∀r∈B,RowOk W r)→row.getD ℓ 0=0→(∀s∈B,s.getD ℓ 0=0)→(byS row B).getD ℓ 0=0
 | [],_,_,_,h0,_=>h0
 | r::B,row,h,hB,h0,hz=>byS_keep (B:=B) (h.one (hB r (by simp))) (fun s hs=>hB s (by simp [hs])) (by rw [oneBy_get h (hB r (by simp)),h0,hz r (by simp),Int.mul_zero,Int.sub_zero,fld_0]) fun s hs=>hz s (by simp [hs])
theorem byS_zero (hR:Red W R) : ∀{A B:List (List Int)} {row:List Int},A++B=R→RowOk W row→∀r∈B,(byS row B).getD (ldR r) 0=0
 | _, [],_,_,_,r,hr=>by simp at hr
 | A,b::B,row,e,h,r,hr=>by
  have hmem : ∀s∈b::B,s∈R:=fun s hs=>by rw [← e];simp only [List.mem_append];exact .inr hs
  have hb:=hR.row b (hmem b (by simp))
  rcases List.mem_cons.1 hr with rfl | hr
  ·refine byS_keep (B:=B) (h.one hb) (fun s hs=>hR.row s (hmem s (by simp [hs]))) ?_ fun s hs=>?_
   ·rw [oneBy_get h hb,(hR.one r (hmem r (by simp))).2,Int.mul_one,Int.sub_self,fld_0]
   ·have hs2:=hR.srt
    rw [← e,List.pairwise_append] at hs2
    have:=(List.pairwise_cons.1 hs2.2.1).1 s hs
    exact hR.zer r (hmem r (by simp)) s (hmem s (by simp [hs])) (by omega)
  ·exact byS_zero hR (A:=A++[b]) (B:=B) (by rw [← e];simp) (h.one hb) r hr
theorem oneBy_spn {ss:List (List Int)} (h:RowOk W row) (hr:RowOk W r) (h1:Spn ss (vR row)) (h2:Spn ss (vR r)):Spn ss (vR (oneBy row r)):=
 (h1.plus (h2.mul (- row.getD (ldR r) 0))).congr fun k=>by
  have:=lessS_mo (row:=row) (other:=r) (k:=row.getD (ldR r) 0) (by rw [hr.len,h.len]) k
  rw [Int.sub_eq_add_neg,← Int.neg_mul] at this
  exact this
theorem oneBy_back {ss:List (List Int)} (h:RowOk W row) (hr:RowOk W r) (h1:Spn ss (vR (oneBy row r))) (h2:Spn ss (vR r)):Spn ss (vR row):=
 (h1.plus (h2.mul (row.getD (ldR r) 0))).congr fun k=>by
  have h3:=lessS_mo (row:=row) (other:=r) (k:=row.getD (ldR r) 0) (by rw [hr.len,h.len]) k
  have h4:=h3.add (Mo.refl (row.getD (ldR r) 0 * r.getD k 0))
  rw [Int.sub_add_cancel] at h4
  exact h4.symm
theorem byS_spn {ss:List (List Int)} : ∀{B:List (List Int)} {row:List Int},RowOk W row→(∀r∈B,RowOk W r)→(∀r∈B,Spn ss (vR r))→(Spn ss (vR (byS row B))↔Spn ss (vR row))
 | [],_,_,_,_=>Iff.rfl
 | r::B,row,h,hB,hs=>(byS_spn (B:=B) (h.one (hB r (by simp))) (fun s hs=>hB s (by simp [hs])) fun s h=>hs s (by simp [h])).trans
  ⟨fun h1=>oneBy_back h (hB r (by simp)) h1 (hs r (by simp)),fun h1=>oneBy_spn h (hB r (by simp)) h1 (hs r (by simp))⟩
def unitS (row:List Int):List Int:=lessS (List.replicate row.length 0) row (fld (-(ivZ (row.getD (ldR row) 0))))
theorem rep_get (n k:Nat):(List.replicate n (0:Int)).getD k 0=0:=by
 rw [List.getD_eq_getElem?_getD,List.getElem?_replicate]
 split <;> rfl
theorem unitS_mo (row:List Int) (k:Nat):Mo ((unitS row).getD k 0) (ivZ (row.getD (ldR row) 0) * row.getD k 0):=by
 unfold unitS;refine (lessS_mo (by simp) k).trans ?_;rw [rep_get,Int.zero_sub,← Int.neg_mul]
 have h1:Mo (-(fld (-(ivZ (row.getD (ldR row) 0))))) (ivZ (row.getD (ldR row) 0)):=by
  rw [fld_eq];unfold Mo
  omega
 exact h1.mul _
theorem RowOk.unit (h:RowOk W row):RowOk W (unitS row):=by
 unfold unitS;refine RowOk.less ⟨by rw [List.length_replicate];exact h.len,fun k=>by rw [rep_get];omega⟩ (by simp)
theorem unitS_lt (h:RowOk W row) {k:Nat} (hk:row.getD k 0=0):(unitS row).getD k 0=0:=by
 have h1:=unitS_mo row k;rw [hk,Int.mul_zero] at h1;exact h1.val (h.unit.val k) (by omega)
theorem unitS_at (h:RowOk W row) (hl:ldR row<row.length):(unitS row).getD (ldR row) 0=1:=by
 have h1:=unitS_mo row (ldR row);have h2:=h.val (ldR row);have h3:=ldR_ne hl;have h4:=ivZ_mul (x:=row.getD (ldR row) 0) (by omega);rw [Int.mul_comm] at h1;refine (Mo.val (h1.trans (show Mo _ 1 from ?_)) (h.unit.val _) (by omega));unfold Mo
 omega
theorem unitS_ld (h:RowOk W row) (hl:ldR row<row.length):ldR (unitS row)=ldR row:=
 ldR_of (fun j hj=>unitS_lt h (ldR_lt hj)) (by rw [unitS_at h hl];omega)
theorem unitS_spn {ss:List (List Int)} (h:RowOk W row) (hl:ldR row<row.length):Spn ss (vR (unitS row))↔Spn ss (vR row):=by
 refine ⟨fun h1=>(h1.mul (row.getD (ldR row) 0)).congr fun k=>?_,fun h1=>(h1.mul _).congr fun k=>unitS_mo row k⟩;have h2:=h.val (ldR row);have h3:=ldR_ne hl;have h4:=ivZ_mul (x:=row.getD (ldR row) 0) (by omega);have h5:=(unitS_mo row k).mull (row.getD (ldR row) 0);rw [← Int.mul_assoc] at h5
 have h6:Mo (row.getD (ldR row) 0 * ivZ (row.getD (ldR row) 0)) 1:=by unfold Mo;omega
 have h7:=h5.trans (h6.mul (row.getD k 0));rw [Int.one_mul] at h7;exact h7.symm
def insS (u:List Int):List (List Int)→List (List Int)
 | []=>[u]
 | r::rs=>if ldR u<ldR r then u::(r::rs).map (fun x=>lessS x u (x.getD (ldR u) 0)) else lessS r u (r.getD (ldR u) 0)::insS u rs
def putS (rows:List (List Int)) (row:List Int):List (List Int):=
 if ldR (byS row rows)<(byS row rows).length then insS (unitS (byS row rows)) rows else rows
def redS (rows:List (List Int)):List (List Int):=rows.foldl putS []
theorem insS_mem (u:List Int) : ∀(R:List (List Int)) (x:List Int),x∈insS u R↔x=u∨∃r∈R,x=oneBy r u
 | [],x=>by simp [insS]
 | r::R,x=>by
  simp only [insS]
  split
  ·simp only [List.mem_cons,List.mem_map]
   constructor
   ·rintro (h | ⟨y,h,e⟩)
    ·exact .inl h
    ·exact .inr ⟨y,h,e.symm⟩
   ·rintro (h | ⟨y,h,e⟩)
    ·exact .inl h
    ·exact .inr ⟨y,h,e.symm⟩
  ·simp only [List.mem_cons,insS_mem u R x]
   constructor
   ·rintro (h | h | ⟨y,h,e⟩)
    ·exact .inr ⟨r,.inl rfl,h⟩
    ·exact .inl h
    ·exact .inr ⟨y,.inr h,e⟩
   ·rintro (h | ⟨y,h | h,e⟩)
    ·exact .inr (.inl h)
    ·subst h;exact .inl e
    ·exact .inr (.inr ⟨y,h,e⟩)
theorem insS_srt {u:List Int} : ∀{R:List (List Int)},R.Pairwise (fun r s=>ldR r<ldR s)→(∀r∈R,ldR r≠ldR u)→(∀r∈R,ldR (oneBy r u)=ldR r)→(insS u R).Pairwise fun r s=>ldR r<ldR s
 | [],_,_,_=>by simp [insS]
 | r::R,hp,hne,he=>by
  have hp':=List.pairwise_cons.1 hp
  simp only [insS]
  split
  ·rename_i hlt
   refine List.pairwise_cons.2 ⟨fun x hx=>?_,?_⟩
   ·obtain ⟨y,hy,rfl⟩:=List.mem_map.1 hx
    have:=he y hy
    unfold oneBy at this
    rw [this]
    rcases List.mem_cons.1 hy with rfl | hy
    ·exact hlt
    ·have:=hp'.1 y hy;omega
   ·rw [List.pairwise_map]
    refine hp.imp_of_mem fun {a b} ha hb hab=>?_
    have h1:=he a ha
    have h2:=he b hb
    unfold oneBy at h1 h2
    rw [h1,h2]
    exact hab
  ·rename_i hlt
   refine List.pairwise_cons.2 ⟨fun x hx=>?_,insS_srt hp'.2 (fun s hs=>hne s (by simp [hs])) fun s hs=>he s (by simp [hs])⟩
   have h1:=he r (by simp)
   unfold oneBy at h1
   rw [h1]
   rcases (insS_mem u R x).1 hx with rfl | ⟨y,hy,rfl⟩
   ·have:=hne r (by simp);omega
   ·rw [he y (by simp [hy])]
    exact hp'.1 y hy
theorem putS_ok (hR:Red W R) (h:RowOk W row):Red W (putS R row)∧∀v,Spn (putS R row) v↔Spn (row::R) v:=by
 have hb:=byS_ok h hR.row;have hz:=byS_zero hR (A:=[]) (B:=R) rfl h;have hsp : ∀ss:List (List Int),(∀r∈R,Spn ss (vR r))→(Spn ss (vR (byS row R))↔Spn ss (vR row)):=fun ss hs=>byS_spn h hR.row hs;unfold putS
 split
 ·rename_i hl
  have hlW:ldR (byS row R)<W:=by rw [← hb.len];exact hl
  have hu:=hb.unit;have hul:=unitS_ld hb hl;have hua:=unitS_at hb hl
  have hne : ∀r∈R,ldR r≠ldR (unitS (byS row R)):=fun r hr e=>by
   have h1:=hz r hr;rw [e,hul] at h1;exact ldR_ne hl h1
  have huz : ∀r∈R,(unitS (byS row R)).getD (ldR r) 0=0:=fun r hr=>unitS_lt hb (hz r hr)
  have hkeep : ∀r∈R,∀s∈R,(oneBy s (unitS (byS row R))).getD (ldR r) 0=s.getD (ldR r) 0:=fun r hr s hs=>by
   rw [oneBy_get (hR.row s hs) hu,huz r hr,Int.mul_zero,Int.sub_zero];have:=(hR.row s hs).val (ldR r);exact fld_id (by omega)
  have hld : ∀r∈R,ldR (oneBy r (unitS (byS row R)))=ldR r:=fun r hr=>by
   refine ldR_of (fun j hj=>?_) (by rw [hkeep r hr r hr,(hR.one r hr).2];omega);rw [oneBy_get (hR.row r hr) hu,ldR_lt hj]
   rcases Nat.lt_or_ge j (ldR (unitS (byS row R))) with h1 | h1
   ·rw [ldR_lt h1,Int.mul_zero,Int.sub_zero,fld_0]
   ·rw [ldR_lt (r:=r) (k:=ldR (unitS (byS row R))) (by omega),Int.zero_mul,Int.sub_zero,fld_0]
  refine ⟨⟨fun x hx=>?_,insS_srt hR.srt hne hld,fun x hx=>?_,fun x hx y hy hxy=>?_⟩,fun v=>⟨fun hv=>hv.sub fun x hx=>?_,fun hv=>hv.sub fun x hx=>?_⟩⟩
  ·rcases (insS_mem _ R x).1 hx with rfl | ⟨r,hr,rfl⟩
   ·exact hu
   ·exact (hR.row r hr).one hu
  ·rcases (insS_mem _ R x).1 hx with rfl | ⟨r,hr,rfl⟩
   ·rw [hul,hua];exact ⟨hlW,rfl⟩
   ·rw [hld r hr,hkeep r hr r hr];exact hR.one r hr
  ·rcases (insS_mem _ R x).1 hx with rfl | ⟨r,hr,rfl⟩ <;> rcases (insS_mem _ R y).1 hy with rfl | ⟨s,hs,rfl⟩
   ·exact absurd rfl hxy
   ·rw [oneBy_get (hR.row s hs) hu,hul,hua,Int.mul_one,Int.sub_self,fld_0]
   ·rw [hld r hr];exact huz r hr
   ·rw [hld r hr,hld s hs] at hxy;rw [hld r hr,hkeep r hr s hs];exact hR.zer r hr s hs hxy
  ·have hu2:Spn (row::R) (vR (unitS (byS row R))):=(unitS_spn hb hl).2 ((hsp _ fun r hr=>.row (by simp [hr])).2 (.row (by simp)))
   rcases (insS_mem _ R x).1 hx with rfl | ⟨r,hr,rfl⟩
   ·exact hu2
   ·exact oneBy_spn (hR.row r hr) hu (.row (by simp [hr])) hu2
  ·have hu2:Spn (insS (unitS (byS row R)) R) (vR (unitS (byS row R))):=.row ((insS_mem _ R _).2 (.inl rfl));have hR2 : ∀r∈R,Spn (insS (unitS (byS row R)) R) (vR r):=fun r hr=>oneBy_back (hR.row r hr) hu (.row ((insS_mem _ R _).2 (.inr ⟨r,hr,rfl⟩))) hu2
   rcases List.mem_cons.1 hx with rfl | hx
   ·exact (hsp _ hR2).1 ((unitS_spn hb hl).1 hu2)
   ·exact hR2 x hx
 ·rename_i hl
  refine ⟨hR,fun v=>⟨fun hv=>hv.sub fun x hx=>.row (by simp [hx]),fun hv=>hv.sub fun x hx=>?_⟩⟩
  rcases List.mem_cons.1 hx with rfl | hx
  ·exact (hsp R fun r hr=>.row hr).1 (.zero fun k=>by show Mo ((byS x R).getD k 0) 0;rw [ldR_end hl];exact Mo.refl _)
  ·exact .row hx
theorem Red.nil:Red W []:=⟨fun _ h=>by simp at h,List.Pairwise.nil,fun _ h=>by simp at h,fun _ h=>by simp at h⟩
theorem foldl_put : ∀{rows R:List (List Int)},Red W R→(∀r∈rows,RowOk W r)→Red W (rows.foldl putS R)∧∀v,Spn (rows.foldl putS R) v↔Spn (rows++R) v
 | [],R,hR,_=>⟨hR,fun v=>Iff.rfl⟩
 | r::rows,R,hR,h=>by
  have h1:=putS_ok hR (h r (by simp))
  have h2:=foldl_put (rows:=rows) h1.1 fun s hs=>h s (List.mem_cons_of_mem _ hs)
  refine ⟨h2.1,fun v=>(h2.2 v).trans ⟨fun hv=>hv.sub fun x hx=>?_,fun hv=>hv.sub fun x hx=>?_⟩⟩
  ·rcases List.mem_append.1 hx with hx | hx
   ·exact .row (by simp [hx])
   ·exact ((h1.2 _).1 (.row hx)).sub fun y hy=>.row (by rcases List.mem_cons.1 hy with rfl | hy <;> simp [*])
  ·rcases List.mem_append.1 hx with hx | hx
   ·rcases List.mem_cons.1 hx with rfl | hx
    ·exact ((h1.2 _).2 (.row (by simp))).sub fun y hy=>.row (by simp [hy])
    ·exact .row (by simp [hx])
   ·exact ((h1.2 _).2 (.row (by simp [hx]))).sub fun y hy=>.row (by simp [hy])
theorem redS_ok (h : ∀r∈rows,RowOk W r):Red W (redS rows)∧∀v,Spn (redS rows) v↔Spn rows v:=by
 have:=foldl_put (W:=W) (R:=[]) Red.nil h
 rwa [List.append_nil] at this
theorem redS_eq (h : ∀r∈rows,RowOk W r) (hR:Red W R) (hs : ∀v,Spn R v↔Spn rows v):R=redS rows:=
 hR.unique (redS_ok h).1 fun v=>(hs v).trans ((redS_ok h).2 v).symm
end
theorem mem_rw {rs:List (List Int)} {r:List Int}:r∈rs↔∃i,i<rs.length∧rw_ rs i=r:=by
 constructor
 ·intro h;obtain ⟨i,hi,rfl⟩:=List.mem_iff_getElem.1 h;exact ⟨i,hi,by simp [rw_,List.getD_eq_getElem?_getD,hi]⟩
 ·rintro ⟨i,hi,rfl⟩
  simp [rw_,List.getD_eq_getElem?_getD,hi]
structure GaJ (W:Nat) (rows work:List (List Int)) (d c:Nat):Prop where
 row : ∀i,i<work.length→RowOk W (rw_ work i)
 hd:d≤work.length
 hc:c≤W
 one : ∀i,i<d→ldR (rw_ work i)<c∧(rw_ work i).getD (ldR (rw_ work i)) 0=1
 zer : ∀i,i<d→∀j,j<work.length→j≠i→(rw_ work j).getD (ldR (rw_ work i)) 0=0
 srt : ∀i j,i<j→j<d→ldR (rw_ work i)<ldR (rw_ work j)
 low : ∀i,d≤i→i<work.length→∀k,k<c→(rw_ work i).getD k 0=0
 spn : ∀v,Spn work v↔Spn rows v
theorem GaJ.start {W:Nat} {rows:List (List Int)} (h : ∀r∈rows,RowOk W r):GaJ W rows rows 0 0:=
 ⟨fun i hi=>h _ (mem_rw.2 ⟨i,hi,rfl⟩),by omega,by omega,fun i hi=>by omega,fun i hi=>by omega,fun i j _ hj=>by omega,fun i _ _ k hk=>by omega,fun v=>Iff.rfl⟩
theorem GaJ.skip {W:Nat} {rows work:List (List Int)} {d c:Nat} (h:GaJ W rows work d c) (hc:c<W) (hz : ∀i,d≤i→i<work.length→(rw_ work i).getD c 0=0):GaJ W rows work d (c+1):=
 ⟨h.row,h.hd,by omega,fun i hi=>⟨by have:=(h.one i hi).1;omega,(h.one i hi).2⟩,h.zer,h.srt,fun i h1 h2 k hk=>by
  by_cases e:k=c
  ·rw [e];exact hz i h1 h2
  ·exact h.low i h1 h2 k (by omega),h.spn⟩
def swp (d j i:Nat):Nat:=if i=d then j else if i=j then d else i
theorem GaJ.ld_q {W:Nat} {rows work:List (List Int)} {d c j:Nat} (h:GaJ W rows work d c) (hj:d≤j) (hjn:j<work.length) (hq:(rw_ work j).getD c 0≠0):ldR (rw_ work j)=c:=ldR_of (fun k hk=>h.low j hj hjn k hk) hq
theorem GaJ.step {W:Nat} {rows work work':List (List Int)} {d c j:Nat} (h:GaJ W rows work d c) (hj:d≤j) (hjn:j<work.length) (hq:(rw_ work j).getD c 0≠0) (hl:work'.length=work.length) (hu:rw_ work' d=unitS (rw_ work j)) (ho : ∀i,i<work.length→i≠d→rw_ work' i=oneBy (rw_ work (swp d j i)) (unitS (rw_ work j))):GaJ W rows work' (d+1) (c+1):=by
 have hqr:=h.row j hjn;have hld:=h.ld_q hj hjn hq
 have hcW:c<W:=by
  rcases Nat.lt_or_ge c W with h1 | h1
  ·exact h1
  ·exact absurd (getD_out (by rw [hqr.len];omega)) hq
 have hll:ldR (rw_ work j)<(rw_ work j).length:=by rw [hld,hqr.len];exact hcW
 have hur:=hqr.unit;have hul:=unitS_ld hqr hll;have hua:=unitS_at hqr hll;rw [hld] at hul hua;have huz : ∀k,k<c→(unitS (rw_ work j)).getD k 0=0:=fun k hk=>ldR_lt (by omega)
 have hsw : ∀i,i<work.length→swp d j i<work.length:=fun i hi=>by unfold swp;split <;> (try split) <;> omega
 have hget : ∀i,i<work.length→i≠d→∀k,k<c→(rw_ work' i).getD k 0=(rw_ work (swp d j i)).getD k 0:=fun i hi hne k hk=>by
  rw [ho i hi hne,oneBy_get (h.row _ (hsw i hi)) hur,huz k hk,Int.mul_zero,Int.sub_zero];have:=(h.row _ (hsw i hi)).val k;exact fld_id (by omega)
 have hgc : ∀i,i<work.length→i≠d→(rw_ work' i).getD c 0=0:=fun i hi hne=>by
  rw [ho i hi hne,oneBy_get (h.row _ (hsw i hi)) hur,hul,hua,Int.mul_one,Int.sub_self,fld_0]
 have hld' : ∀i,i<d→ldR (rw_ work' i)=ldR (rw_ work i):=fun i hi=>by
  have h1:=h.one i hi
  have hs:swp d j i=i:=by unfold swp;rw [if_neg (by omega),if_neg (by omega)]
  refine ldR_of (fun k hk=>?_) ?_
  ·rw [hget i (by have:=h.hd;omega) (by omega) k (by omega),hs];exact ldR_lt hk
  ·rw [hget i (by have:=h.hd;omega) (by omega) _ h1.1,hs,h1.2]
   omega
 have hrow : ∀i,i<work'.length→RowOk W (rw_ work' i):=fun i hi=>by
  by_cases e:i=d
  ·rw [e,hu];exact hur
  ·rw [ho i (by omega) e];exact (h.row _ (hsw i (by omega))).one hur
 refine ⟨hrow,by omega,by omega,fun i hi=>?_,fun i hi m hm hne=>?_,fun i m him hm=>?_,fun i hi hin k hk=>?_,fun v=>?_⟩
 ·by_cases e:i=d
  ·rw [e,hu,hul,hua];exact ⟨by omega,rfl⟩
  ·have h1:=h.one i (by omega)
   have hs:swp d j i=i:=by unfold swp;rw [if_neg e,if_neg (by omega)]
   rw [hld' i (by omega),hget i (by have:=h.hd;omega) e _ h1.1,hs];exact ⟨by omega,h1.2⟩
 ·by_cases e:i=d
  ·subst e;rw [hu,hul];exact hgc m (by omega) hne
  ·have h1:=h.one i (by omega);rw [hld' i (by omega)]
   by_cases em:m=d
   ·subst em;rw [hu];exact huz _ h1.1
   ·rw [hget m (by omega) em _ h1.1];refine h.zer i (by omega) _ (hsw m (by omega)) ?_;unfold swp
    split <;> (try split) <;> omega
 ·by_cases em:m=d
  ·subst em;rw [hu,hul,hld' i him];exact (h.one i him).1
  ·rw [hld' i (by omega),hld' m (by omega)];exact h.srt i m him (by omega)
 ·by_cases ek:k=c
  ·rw [ek];exact hgc i (by omega) (by omega)
  ·rw [hget i (by omega) (by omega) k (by omega)];refine h.low _ ?_ (hsw i (by omega)) k (by omega);unfold swp
   split <;> (try split) <;> omega
 ·refine Iff.trans ⟨fun hv=>hv.sub fun x hx=>?_,fun hv=>hv.sub fun x hx=>?_⟩ (h.spn v)
  ·obtain ⟨i,hi,rfl⟩:=mem_rw.1 hx;have hus:Spn work (vR (unitS (rw_ work j))):=(unitS_spn hqr hll).2 (.row (mem_rw.2 ⟨j,hjn,rfl⟩))
   by_cases e:i=d
   ·rw [e,hu];exact hus
   ·rw [ho i (by omega) e];exact oneBy_spn (h.row _ (hsw i (by omega))) hur (.row (mem_rw.2 ⟨_,hsw i (by omega),rfl⟩)) hus
  ·obtain ⟨i,hi,rfl⟩:=mem_rw.1 hx
   have hdn:d<work'.length:=by omega
   have hus:Spn work' (vR (unitS (rw_ work j))):=by rw [← hu];exact .row (mem_rw.2 ⟨d,hdn,rfl⟩)
   by_cases e:i=j
   ·rw [e];exact (unitS_spn hqr hll).1 hus
   ·have hne:swp d j i≠d:=by unfold swp;split <;> (try split) <;> omega
    have hss:swp d j (swp d j i)=i:=by unfold swp;split <;> (try split) <;> (try split) <;> (try split) <;> (try split) <;> omega
    refine oneBy_back (h.row i hi) hur ?_ hus;have:=ho (swp d j i) (hsw i hi) hne;rw [hss] at this;rw [← this];exact .row (mem_rw.2 ⟨_,by rw [hl];exact hsw i hi,rfl⟩)
theorem GaJ.done {W:Nat} {rows work:List (List Int)} {d c:Nat} (h:GaJ W rows work d c) (hrows : ∀r∈rows,RowOk W r) (he:d=work.length∨c=W):work.take d=redS rows:=by
 have hgt : ∀i,i<d→rw_ (work.take d) i=rw_ work i:=fun i hi=>by simp [rw_,List.getD_eq_getElem?_getD,List.getElem?_take,hi]
 have htl:(work.take d).length=d:=List.length_take_of_le h.hd;refine redS_eq hrows ⟨fun r hr=>?_,?_,fun r hr=>?_,fun r hr s hs hne=>?_⟩ fun v=>Iff.trans ⟨fun hv=>hv.sub fun x hx=>.row (List.mem_of_mem_take hx),fun hv=>hv.sub fun x hx=>?_⟩ (h.spn v)
 ·obtain ⟨i,hi,rfl⟩:=mem_rw.1 hr;rw [hgt i (by omega)];exact h.row i (by have:=h.hd;omega)
 ·rw [List.pairwise_iff_getElem];intro i j hi hj hij;have h1:=h.srt i j hij (by omega);rw [← hgt i (by omega),← hgt j (by omega)] at h1;rw [rw_eq hi,rw_eq hj];exact h1
 ·obtain ⟨i,hi,rfl⟩:=mem_rw.1 hr;rw [hgt i (by omega)];have:=h.one i (by omega);exact ⟨by have:=h.hc;omega,this.2⟩
 ·obtain ⟨i,hi,rfl⟩:=mem_rw.1 hr;obtain ⟨j,hj,rfl⟩:=mem_rw.1 hs;rw [hgt i (by omega)] at hne ⊢;rw [hgt j (by omega)] at hne ⊢;exact h.zer i (by omega) j (by have:=h.hd;omega) fun e=>hne (by rw [e])
 ·obtain ⟨i,hi,rfl⟩:=mem_rw.1 hx
  by_cases hid:i<d
  ·rw [← hgt i hid];exact .row (mem_rw.2 ⟨i,by omega,rfl⟩)
  ·refine .zero fun k=>?_
   show Mo ((rw_ work i).getD k 0) 0
   have:(rw_ work i).getD k 0=0:=by
    rcases he with he | he
    ·omega
    ·rcases Nat.lt_or_ge k W with hk | hk
     ·exact h.low i (by omega) hi k (by omega)
     ·exact getD_out (by rw [(h.row i hi).len];omega)
   rw [this];exact Mo.refl _
end Go.Proofs.YthenedanhcnccaaGreat.G
