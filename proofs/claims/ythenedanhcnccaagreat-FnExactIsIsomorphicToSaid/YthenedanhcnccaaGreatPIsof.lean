/- A part of the walk of one law: what the functions compute. No condition. -/
import Derived.Test.YthenedanhcnccaaGreatRows
import Derived.Test.YthenedanhcnccaaGreatProg
import Derived.WalkKit
import Derived.KernelRfl
import Derived.JoinedOf
import Derived.Maps.AppendAt
import Derived.Still
import Derived.ProofKit
import Derived.OpenShut
import Derived.StillTail
import Derived.Deep.Upon
import Derived.WalkSpells
import Derived.Maps.Range
import Derived.DeepKeys4
import Derived.Maps.Keyed
import Derived.ChangeOld
import Derived.Below
import Derived.SizedLaws
import Derived.Test.YthenedanhcnccaaGreatPIsoe
set_option linter.unusedVariables false
set_option linter.unusedSimpArgs false
set_option maxRecDepth 10000
set_option maxHeartbeats 8000000
open Nat (reduceEqDiff reduceSub reduceAdd)
namespace Go.Proofs.YthenedanhcnccaaGreat.G
open Go Go.RowKit
def dnL (t:Int):List Int:=((List.range (t+1).toNat).map fun k:Nat=>(k:Int)).reverse
theorem dnL_neg {t:Int} (h:t<0):dnL t=[]:=by
 unfold dnL;rw [show (t+1).toNat=0 by omega]
 rfl
theorem dnL_succ {t:Int} (h:0≤t):dnL t=t::dnL (t - 1):=by
 obtain ⟨n,rfl⟩ : ∃n:Nat,t=n:=⟨t.toNat,by omega⟩;unfold dnL;rw [show ((n:Int)+1).toNat=n+1 by omega,show ((n:Int) - 1+1).toNat=n by omega,List.range_succ,List.map_append,List.reverse_append]
 rfl
theorem dnL_mem {k t:Int}:k∈dnL t↔0≤k∧k≤t:=by
 unfold dnL;simp only [List.mem_reverse,List.mem_map,List.mem_range]
 constructor
 ·rintro ⟨a,h1,rfl⟩
  omega
 ·intro h;exact ⟨k.toNat,by omega,by omega⟩
theorem dnL_srt (t:Int):(dnL t).Pairwise fun a b=>b<a:=by
 unfold dnL;rw [List.pairwise_reverse,List.pairwise_map]
 exact List.pairwise_lt_range.imp fun h=>by omega
def topM (d n:Int):Int:=if d.tmod 2=1 then min (min (n.tdiv d) 20) 1 else min (n.tdiv d) 20
theorem topM_le {d n k:Int} (hd:1≤d) (hn:k * d≤n) (hk:0≤k∧k≤20) (ho:d.tmod 2=1→k≤1):k≤topM d n:=by
 have h0:0≤k * d:=Int.mul_nonneg hk.1 (by omega)
 have h1:k≤n.tdiv d:=by
  rw [Int.tdiv_eq_ediv_of_nonneg (by omega)];exact (Int.le_ediv_iff_mul_le (by omega)).2 hn
 unfold topM
 split
 ·rename_i h
  have:=ho h
  omega
 ·omega
theorem topM_bd {d n k:Int} (h:k≤topM d n):k≤20∧(d.tmod 2=1→k≤1):=by
 unfold topM at h
 split at h
 ·omega
 ·exact ⟨by omega,fun e=>absurd e (by assumption)⟩
def enumF:List Int→Nat→List Int→Int→List (List Int)
 | [],_,m,n=>if n=0 then [m] else []
 | d::ds,i,m,n=>(dnL (topM d n)).flatMap fun k=>enumF ds (i+1) (m.set i k) (n - k * d)
def wsF:List Int→List Int→Nat→Int
 | [],_,_=>0
 | d::ds,p,i=>d * p.getD i 0+wsF ds p (i+1)
theorem enumF_mem : ∀{ds:List Int} {i:Nat} {m p:List Int} {n:Int},i+ds.length≤8→m.length=8→p∈enumF ds i m n→p.length=8∧(∀j,j<i∨i+ds.length≤j→p.getD j 0=m.getD j 0)∧(∀t,t<ds.length→0≤p.getD (i+t) 0∧p.getD (i+t) 0≤20∧((ds.getD t 0).tmod 2=1→p.getD (i+t) 0≤1))∧wsF ds p i=n
 | [],i,m,p,n,_,hm,h=>by
  simp only [enumF] at h
  split at h
  ·rw [List.mem_singleton.1 h]
   exact ⟨hm,fun j _=>rfl,fun t ht=>by simp at ht,by simp [wsF, *]⟩
  ·simp at h
 | d::ds,i,m,p,n,hi,hm,h=>by
  simp only [enumF,List.mem_flatMap] at h
  obtain ⟨k,hk,h⟩:=h
  simp only [List.length_cons] at hi
  obtain ⟨h1,h2,h3,h4⟩:=enumF_mem (ds:=ds) (by omega) (by simpa using hm) h
  have hpi:p.getD i 0=k:=by
   rw [h2 i (.inl (by omega)),getD_set8,if_pos ⟨rfl,by omega⟩]
  have hk2:=dnL_mem.1 hk
  have hk3:=topM_bd hk2.2
  refine ⟨h1,fun j hj=>?_,fun t ht=>?_,?_⟩
  ·simp only [List.length_cons] at hj
   rw [h2 j (by omega),getD_set8,if_neg (by omega)]
  ·cases t with
   | zero=>rw [Nat.add_zero,hpi];exact ⟨hk2.1,hk3.1,hk3.2⟩
   | succ t=>
    have:=h3 t (by simpa using ht)
    rw [show i+1+t=i+(t+1) by omega] at this
    exact this
  ·simp only [wsF]
   rw [h4,hpi,Int.mul_comm]
   omega
theorem wsF_nn {p:List Int} (hp : ∀j,0≤p.getD j 0) : ∀{ds:List Int} {i:Nat},(∀t,t<ds.length→1≤ds.getD t 0)→0≤wsF ds p i
 | [],_,_=>by simp [wsF]
 | d::ds,i,h=>by
  have h1:=wsF_nn hp (ds:=ds) (i:=i+1) fun t ht=>by have:=h (t+1) (by simpa using ht);simpa using this
  have h2:=h 0 (by simp)
  simp only [List.getD_cons_zero] at h2
  have h3:0≤d * p.getD i 0:=Int.mul_nonneg (by omega) (hp i)
  simp only [wsF]
  omega
theorem enumF_in : ∀{ds:List Int} {i:Nat} {m p:List Int} {n:Int},i+ds.length≤8→m.length=8→p.length=8→(∀t,t<ds.length→1≤ds.getD t 0)→(∀j,j<i∨i+ds.length≤j→p.getD j 0=m.getD j 0)→(∀j,0≤p.getD j 0)→
 (∀t,t<ds.length→p.getD (i+t) 0≤20∧((ds.getD t 0).tmod 2=1→p.getD (i+t) 0≤1))→wsF ds p i=n→p∈enumF ds i m n
 | [],i,m,p,n,_,hm,hp,_,ha,_,_,hw=>by
  have e:n=0:=by rw [← hw];rfl
  simp only [enumF]
  rw [if_pos e,List.mem_singleton]
  exact list_eq_of (by omega) fun j _=>ha j (by simp;omega)
 | d::ds,i,m,p,n,hi,hm,hp,hd,ha,h0,hb,hw=>by
  simp only [List.length_cons] at hi
  simp only [wsF] at hw
  simp only [enumF,List.mem_flatMap]
  have hd0:=hd 0 (by simp)
  simp only [List.getD_cons_zero] at hd0
  have hb0:=hb 0 (by simp)
  simp only [Nat.add_zero,List.getD_cons_zero] at hb0
  have hds : ∀t,t<ds.length→1≤ds.getD t 0:=fun t ht=>by have:=hd (t+1) (by simpa using ht);simpa using this
  have hnn:=wsF_nn h0 (i:=i+1) hds
  have hc:p.getD i 0 * d=d * p.getD i 0:=Int.mul_comm _ _
  refine ⟨p.getD i 0,dnL_mem.2 ⟨h0 i,topM_le hd0 (by omega) ⟨h0 i,hb0.1⟩ hb0.2⟩,enumF_in (by omega) (by simpa using hm) hp hds (fun j hj=>?_) h0 (fun t ht=>?_) (by omega)⟩
  ·rw [getD_set8]
   split
   ·rename_i e;rw [e.1]
   ·rename_i e
    exact ha j (by simp only [List.length_cons];omega)
  ·have:=hb (t+1) (by simpa using ht)
   rw [show i+(t+1)=i+1+t by omega] at this
   simpa using this
theorem enumF_srt : ∀{ds:List Int} {i:Nat} {m:List Int} {n:Int},i+ds.length≤8→m.length=8→(enumF ds i m n).Pairwise fun p q=>before p q=true
 | [],i,m,n,_,_=>by
  simp only [enumF]
  split <;> simp
 | d::ds,i,m,n,hi,hm=>by
  simp only [List.length_cons] at hi
  simp only [enumF]
  rw [List.pairwise_flatMap]
  refine ⟨fun k _=>enumF_srt (by omega) (by simpa using hm),(dnL_srt _).imp fun {a b} hab p hp q hq=>?_⟩
  obtain ⟨_,p2,_,_⟩:=enumF_mem (by omega) (by simpa using hm) hp
  obtain ⟨_,q2,_,_⟩:=enumF_mem (by omega) (by simpa using hm) hq
  refine before_iff.2 ⟨i,by omega,fun j hj=>?_,?_⟩
  ·rw [p2 j (.inl (by omega)),q2 j (.inl (by omega)),getD_set8,getD_set8,if_neg (by omega),if_neg (by omega)]
  ·rw [p2 i (.inl (by omega)),q2 i (.inl (by omega)),getD_set8,getD_set8,if_pos ⟨rfl,by omega⟩,if_pos ⟨rfl,by omega⟩]
   exact hab
def monS (ds:List Int) (n:Int):List Pw:=enumF ds 0 zP n
theorem fn125:Fn Tryz.prog 125:=⟨_,Tryz.func125,by kernel_rfl,rfl⟩
theorem fn169:Fn Tryz.prog 169:=⟨_,Tryz.func169,by kernel_rfl,rfl⟩
theorem invL_0 : ∀(f:Nat) (o s:Int),invL f 0 o s=o
 | 0,_,_=>rfl
 | f+1,_,_=>by simp [invL]
theorem invL_odd {f:Nat} {k o s:Int} (hk:0<k) (h:k.tmod 2=1):invL f (k.tdiv 2) ((o * s).tmod 10007) ((s * s).tmod 10007)=invL (f+1) k o s∨¬(0≤o∧0≤s):=by
 by_cases hb:0≤o∧0≤s
 ·left
  have e1:k.tmod 2=k % 2:=Int.tmod_eq_emod_of_nonneg (by omega);simp only [invL];rw [if_neg (by omega),if_pos (by omega),Int.tdiv_eq_ediv_of_nonneg (by omega),Int.tmod_eq_emod_of_nonneg (Int.mul_nonneg hb.1 hb.2),Int.tmod_eq_emod_of_nonneg (Int.mul_nonneg hb.2 hb.2)]
 ·exact .inr hb
theorem invL_even {f:Nat} {k o s:Int} (hk:0<k) (h : ¬k.tmod 2=1):invL f (k.tdiv 2) o ((s * s).tmod 10007)=invL (f+1) k o s∨¬0≤s:=by
 by_cases hb:0≤s
 ·left
  have e1:k.tmod 2=k % 2:=Int.tmod_eq_emod_of_nonneg (by omega);simp only [invL];rw [if_neg (by omega),if_neg (by omega),Int.tdiv_eq_ediv_of_nonneg (by omega),Int.tmod_eq_emod_of_nonneg (Int.mul_nonneg hb hb)]
 ·exact .inr hb
structure InvI (x:Int) (f:Nat) (k o s:Int):Prop where
 kb:0≤k∧k<2 ^ f
 kl:k≤10005
 ob:0≤o∧o≤10006
 sb:0≤s∧s≤10006
 eq:invL f k o s=ivZ x
theorem InvI.start {x:Int} (h:0≤x∧x≤10006):InvI x 14 10005 1 x:=⟨⟨by omega,by decide⟩,by omega,by omega,h,rfl⟩
theorem InvI.pos {x k o s:Int} {f:Nat} (h:InvI x f k o s) (hk:k>0) : ∃f',f=f'+1:=by
 cases f with
 | zero=>have:=h.kb;simp at this;omega
 | succ f=>exact ⟨f,rfl⟩
theorem InvI.prod {x k o s:Int} {f:Nat} (h:InvI x f k o s):0≤o * s∧o * s≤100120036∧0≤s * s∧s * s≤100120036:=by
 have ho:=h.ob;have hs:=h.sb;refine ⟨Int.mul_nonneg ho.1 hs.1,?_,Int.mul_nonneg hs.1 hs.1,?_⟩
 ·exact (Int.mul_le_mul ho.2 hs.2 hs.1 (by omega):o * s≤10006 * 10006)
 ·exact (Int.mul_le_mul hs.2 hs.2 hs.1 (by omega):s * s≤10006 * 10006)
theorem InvI.odd {x k o s:Int} {f:Nat} (h:InvI x (f+1) k o s) (hk:k>0) (h1:k.tmod 2=1):InvI x f (k.tdiv 2) ((o * s).tmod 10007) ((s * s).tmod 10007):=by
 have hp:=h.prod;have hk2:=h.kb;have hkl:=h.kl;rw [Int.pow_succ] at hk2;refine ⟨by rw [Int.tdiv_eq_ediv_of_nonneg (by omega)];omega,by rw [Int.tdiv_eq_ediv_of_nonneg (by omega)];omega,by rw [Int.tmod_eq_emod_of_nonneg (by omega)];omega,by rw [Int.tmod_eq_emod_of_nonneg (by omega)];omega,?_⟩;rw [← h.eq];exact (invL_odd hk h1).resolve_right fun hn=>hn ⟨h.ob.1,h.sb.1⟩
theorem InvI.even {x k o s:Int} {f:Nat} (h:InvI x (f+1) k o s) (hk:k>0) (h1 : ¬k.tmod 2=1):InvI x f (k.tdiv 2) o ((s * s).tmod 10007):=by
 have hp:=h.prod;have hk2:=h.kb;have hkl:=h.kl;rw [Int.pow_succ] at hk2;refine ⟨by rw [Int.tdiv_eq_ediv_of_nonneg (by omega)];omega,by rw [Int.tdiv_eq_ediv_of_nonneg (by omega)];omega,h.ob,by rw [Int.tmod_eq_emod_of_nonneg (by omega)];omega,?_⟩;rw [← h.eq];exact (invL_even hk h1).resolve_right fun hn=>hn h.sb.1
theorem InvI.end {x k o s:Int} {f:Nat} (h:InvI x f k o s) (hk : ¬k>0):o=ivZ x:=by
 have:k=0:=by have:=h.kb;omega
 subst this;rw [← h.eq,invL_0]
def lsK (row other:List Int) (f:Int) (k:Nat):List Int:=(List.range row.length).map fun i=>if i<k then fld (row.getD i 0 - f * other.getD i 0) else row.getD i 0
@[simp] theorem lsK_len (row other:List Int) (f:Int) (k:Nat):(lsK row other f k).length=row.length:=by simp [lsK]
theorem lsK_get {row other:List Int} {f:Int} {k i:Nat} (h:i<row.length):(lsK row other f k).getD i 0=if i<k then fld (row.getD i 0 - f * other.getD i 0) else row.getD i 0:=by simp [lsK,List.getD_eq_getElem?_getD,h]
theorem lsK_zero (row other:List Int) (f:Int):lsK row other f 0=row:=list_eq_of (by simp) fun j hj=>by rw [lsK_get (by simpa using hj),if_neg (by omega)]
theorem lsK_set {row other:List Int} {f:Int} {k:Nat} (hk:k<row.length):(lsK row other f k).set k (fld (row.getD k 0 - f * other.getD k 0))=lsK row other f (k+1):=list_eq_of (by simp) fun j hj=>by
 have hj':j<row.length:=by simpa using hj
 rw [getD_set8,lsK_get hj',lsK_get hj']
 by_cases e:k=j
 ·subst e
  rw [if_pos ⟨rfl,by simpa using hk⟩,if_pos (by omega)]
 ·rw [if_neg fun h=>e h.1]
  by_cases h:j<k
  ·rw [if_pos h,if_pos (by omega)]
  ·rw [if_neg h,if_neg (by omega)]
theorem lsK_end (row other:List Int) (f:Int):lsK row other f row.length=lessS row other f:=list_eq_of (by simp) fun j hj=>by
 have hj':j<row.length:=by simpa using hj
 rw [lsK_get hj',if_pos hj',lessS_get hj']
theorem fld_subt (a b:Int):fld (a - b.tmod 10007)=fld (a - b):=by
 obtain ⟨r,hr⟩:=tmod_p b;rw [fld_eq,fld_eq]
 omega
def nzI (x:Int):Bool:=decide (x≠0)
theorem idxOf_ld {r:List Int} (h:ldR r<r.length):idxOf r nzI=ldR r:=by
 have h1:=idxOf_hit (p:=nzI) h (fun j hj=>by unfold nzI;rw [ldR_lt hj];rfl) (by unfold nzI;exact decide_eq_true (ldR_ne h));exact h1
theorem idxOf_nl {r:List Int} (h : ¬ldR r<r.length):idxOf r nzI = -1:=idxOf_miss fun j _=>by unfold nzI;rw [ldR_end h j];rfl
def zR (r:List Int):Bool:=decide (¬ldR r<r.length)
theorem zR_eq (r:List Int):decide (idxOf r nzI<0)=zR r:=by
 unfold zR
 by_cases h:ldR r<r.length
 ·rw [idxOf_ld h];exact decide_eq_decide.2 (by omega)
 ·rw [idxOf_nl h];exact decide_eq_decide.2 (by omega)
theorem mulb {a b:Int} (ha:0≤a∧a≤10006) (hb:0≤b∧b≤10006):0≤a * b∧a * b≤100120036:=
 ⟨Int.mul_nonneg ha.1 hb.1,(Int.mul_le_mul ha.2 hb.2 hb.1 (by omega):a * b≤10006 * 10006)⟩
theorem byS_app (row:List Int) (a:List (List Int)) (r:List Int):byS row (a++[r])=oneBy (byS row a) r:=by unfold byS;rw [List.foldl_append];rfl
theorem rw_take {rs:List (List Int)} {k:Nat} (hk:k<rs.length):rs.take (k+1)=rs.take k++[rw_ rs k]:=by
 rw [List.take_succ_eq_append_getElem hk]
 simp [rw_,List.getD_eq_getElem?_getD,List.getElem?_eq_getElem hk]
theorem rw_mem {rs:List (List Int)} {k:Nat} (hk:k<rs.length):rw_ rs k∈rs:=mem_rw.2 ⟨k,hk,rfl⟩
theorem byS_take {row:List Int} {rs:List (List Int)} {k:Nat} (hk:k<rs.length):byS row (rs.take (k+1))=oneBy (byS row (rs.take k)) (rw_ rs k):=by rw [rw_take hk,byS_app]
theorem inverse_c {B:World} {H0 H:HP} {L:List SA} {w:World} {x:Int} (hx:0≤x∧x≤10006) (hH:Hp B H0 H L w):Calls Tryz.prog 144 [.int .i64 x].toArray w fun e w'=>e = .returned (.int .i64 (ivZ x))∧Hp B H0 H L w':=by
 refine Jz Tryz.func144 rfl 21 rfl rfl [(0,.int .i64 x)] rfl hH ?_;clear hH;refine Je fun _ hK1 _=>(Jb (Jg (Jd rfl) rfl (Jf (Ja (hK1 (Je fun _ hK2 _=>(Jb (Jg (Jd rfl) rfl (Jf (Ja (hK2 (Je fun _ hK3 _=>(Je fun _ hK4 _=>(Jb (Jg (Jd rfl) rfl (Jf ?_))))))))))))))));refine Ja (hK4 (Jn (JE (σ:=Nat × Int × Int × Int) (fun ⟨f,k,o,s⟩=>[(4,.int .i64 k),(3,.int .i64 o),(0,.int .i64 s)]) (fun ⟨f,k,o,s⟩=>H) (fun ⟨f,k,o,s⟩=>L) (fun ⟨f,k,o,s⟩=>InvI x f k o s) (fun ⟨f,k,o,s⟩=>f) (14,10005,1,x) (InvI.start hx) ⟨rfl,⟨rfl,⟨rfl,trivial⟩⟩⟩ rfl rfl ?_)));rintro ⟨f,k,o,s⟩ hI _ hAg0;have hpr:=hI.prod;have hkk:=hI.kb;have hkl:=hI.kl;have ho9:=hI.ob;have hs9:=hI.sb;refine Je fun _ hK5 _=>(Je fun _ hK6 _=>(Jb (Jg (Jc rfl) rfl (Jg (EC rfl rfl) rfl (Jf (Ja (hK6 (Jp rfl (fun h6=>?_) (fun h6=>?_)))))))))
 ·
  obtain ⟨f,rfl⟩:=hI.pos h6;refine Jo (Ja (hK5 (Je fun _ hK7 _=>(Jn (Je fun _ hK8 _=>(Je fun _ hK9 _=>(Jb (Jg (Jc rfl) rfl (Jg (ED rfl rfl (by decide) rfl) rfl (Jg (EG rfl rfl) rfl (Jf (Ja (hK9 (Jp rfl (fun h11=>?_) (fun h11=>?_)))))))))))))))
  ·
   refine Jb (Jg (Jc rfl) rfl (Jg (Jc rfl) rfl (Jg (EH rfl rfl (by first | exact nw _ (by omega) | rfl)) rfl (Jg (ED rfl rfl (by decide) rfl) rfl (Jg (Jd rfl) rfl (Jf (Ja (hK8 (Jb (Jg (Jc rfl) rfl (Jg (Jc rfl) rfl (Jg (EH rfl rfl (by first | exact nw _ (by omega) | rfl)) rfl (Jg (ED rfl rfl (by decide) rfl) rfl (Jg (Jd rfl) rfl (Jf ?_)))))))))))))));refine JF (Ja (hK7 (Jb (Jg (Jc rfl) rfl (Jg (PR.quo rfl rfl (by decide) (nw _ (by rw [Int.tdiv_eq_ediv_of_nonneg (by omega)];omega))) rfl (Jg (Jd rfl) rfl (Jf (Ja ?_))))))));exact hAg0 (f,k.tdiv 2,(o * s).tmod 10007,(s * s).tmod 10007) (hI.odd h6 h11) (by show f<f+1;omega) 21 rfl rfl ⟨rfl,⟨rfl,⟨rfl,trivial⟩⟩⟩ rfl rfl
  ·
   refine Jo (Ja (hK8 (Jb (Jg (Jc rfl) rfl (Jg (Jc rfl) rfl (Jg (EH rfl rfl (by first | exact nw _ (by omega) | rfl)) rfl (Jg (ED rfl rfl (by decide) rfl) rfl (Jg (Jd rfl) rfl (Jf (JF (Ja (hK7 (Jb (Jg (Jc rfl) rfl (Jg (PR.quo rfl rfl (by decide) (nw _ (by rw [Int.tdiv_eq_ediv_of_nonneg (by omega)];omega))) rfl (Jg (Jd rfl) rfl ?_))))))))))))))));refine Jf (Ja ?_);exact hAg0 (f,k.tdiv 2,o,(s * s).tmod 10007) (hI.even h6 h11) (by show f<f+1;omega) 16 rfl rfl ⟨rfl,⟨rfl,⟨rfl,trivial⟩⟩⟩ rfl rfl
 ·
  refine JH (Jl (Jl (JQ (Ja (hK3 (Je fun _ hK10 _=>(Jb (Jg (Jc rfl) rfl (Jg (Jd rfl) rfl (Jf (Ja (hK10 (Js (Jq rfl (Res.tmp rfl) fun w hH=>?_))))))))))))));exact ⟨ri (hI.end h6),hH⟩
theorem l01Inverse_c {B:World} {H0 H:HP} {L:List SA} {w:World} {x:Int} (hx:0≤x∧x≤10006) (hH:Hp B H0 H L w):Calls Tryz.prog 171 [.int .i64 x].toArray w fun e w'=>e = .returned (.int .i64 (ivZ x))∧Hp B H0 H L w':=by
 refine Jz Tryz.func171 rfl 23 rfl rfl [(0,.int .i64 x)] rfl hH ?_;clear hH;refine Je fun _ hK1 _=>(Jb (Jg (Jd rfl) rfl (Jf (Ja (hK1 (Je fun _ hK2 _=>(Jb (Jg (Jc rfl) rfl (Jg (Jd rfl) rfl (Jg (Jd rfl) rfl (Jf (Ja (hK2 (Je fun _ hK3 _=>(Je fun _ hK4 _=>(Jb ?_))))))))))))))));refine Jg (Jd rfl) rfl (Jf (Ja (hK4 (Jn (JE (σ:=Nat × Int × Int × Int) (fun ⟨f,k,o,s⟩=>[(5,.int .i64 k),(3,.int .i64 o),(4,.int .i64 s)]) (fun ⟨f,k,o,s⟩=>H) (fun ⟨f,k,o,s⟩=>L) (fun ⟨f,k,o,s⟩=>InvI x f k o s) (fun ⟨f,k,o,s⟩=>f) (14,10005,1,x) (InvI.start hx) ⟨rfl,⟨rfl,⟨rfl,trivial⟩⟩⟩ rfl rfl ?_)))));rintro ⟨f,k,o,s⟩ hI _ hAg0;have hpr:=hI.prod;have hkk:=hI.kb;have hkl:=hI.kl;have ho9:=hI.ob;have hs9:=hI.sb;refine Je fun _ hK5 _=>(Je fun _ hK6 _=>(Jb (Jg (Jc rfl) rfl (Jg (EC rfl rfl) rfl (Jf (Ja (hK6 (Jp rfl (fun h8=>?_) (fun h8=>?_)))))))))
 ·
  obtain ⟨f,rfl⟩:=hI.pos h8;refine Jo (Ja (hK5 (Je fun _ hK7 _=>(Jn (Je fun _ hK8 _=>(Je fun _ hK9 _=>(Jb (Jg (Jc rfl) rfl (Jg (ED rfl rfl (by decide) rfl) rfl (Jg (EG rfl rfl) rfl (Jf (Ja (hK9 (Jp rfl (fun h13=>?_) (fun h13=>?_)))))))))))))))
  ·
   refine Jb (Jg (Jc rfl) rfl (Jg (Jc rfl) rfl (Jg (EH rfl rfl (by first | exact nw _ (by omega) | rfl)) rfl (Jg (ED rfl rfl (by decide) rfl) rfl (Jg (Jd rfl) rfl (Jf (Ja (hK8 (Jb (Jg (Jc rfl) rfl (Jg (Jc rfl) rfl (Jg (EH rfl rfl (by first | exact nw _ (by omega) | rfl)) rfl (Jg (ED rfl rfl (by decide) rfl) rfl (Jg (Jd rfl) rfl (Jf ?_)))))))))))))));refine JF (Ja (hK7 (Jb (Jg (Jc rfl) rfl (Jg (PR.quo rfl rfl (by decide) (nw _ (by rw [Int.tdiv_eq_ediv_of_nonneg (by omega)];omega))) rfl (Jg (Jd rfl) rfl (Jf (Ja ?_))))))));exact hAg0 (f,k.tdiv 2,(o * s).tmod 10007,(s * s).tmod 10007) (hI.odd h8 h13) (by show f<f+1;omega) 21 rfl rfl ⟨rfl,⟨rfl,⟨rfl,trivial⟩⟩⟩ rfl rfl
  ·
   refine Jo (Ja (hK8 (Jb (Jg (Jc rfl) rfl (Jg (Jc rfl) rfl (Jg (EH rfl rfl (by first | exact nw _ (by omega) | rfl)) rfl (Jg (ED rfl rfl (by decide) rfl) rfl (Jg (Jd rfl) rfl (Jf (JF (Ja (hK7 (Jb (Jg (Jc rfl) rfl (Jg (PR.quo rfl rfl (by decide) (nw _ (by rw [Int.tdiv_eq_ediv_of_nonneg (by omega)];omega))) rfl (Jg (Jd rfl) rfl ?_))))))))))))))));refine Jf (Ja ?_);exact hAg0 (f,k.tdiv 2,o,(s * s).tmod 10007) (hI.even h8 h13) (by show f<f+1;omega) 16 rfl rfl ⟨rfl,⟨rfl,⟨rfl,trivial⟩⟩⟩ rfl rfl
 ·
  refine JH (Jl (Jl (JQ (Ja (hK3 (Je fun _ hK10 _=>(Jb (Jg (Jc rfl) rfl (Jg (Jd rfl) rfl (Jf (Ja (hK10 (Js (Jq rfl (Res.tmp rfl) fun w hH=>?_))))))))))))));exact ⟨ri (hI.end h8),hH⟩
theorem takeAway_c {B:World} {H0 H:HP} {L:List SA} {w:World} {qrow:Option Addr} {crow mrow:Nat} {row:List Int} {qr:Option Addr} {cr:Nat} {r:List Int} {f:Int} (erow:row.length=mrow) (hr:Ints H qr r) (hl:r.length=row.length) (hrb : ∀k,0≤r.getD k 0∧r.getD k 0≤10006) (hwb : ∀k,0≤row.getD k 0∧row.getD k 0≤10006) (hf:0≤f∧f≤10006) (hn:row.length≤1048576) (hH:Hp B H0 H (own 2 1 qrow mrow crow (intsC row)::L) w):Calls Tryz.prog 145 [.slice qrow mrow crow,.slice qr r.length cr,.int .i64 f].toArray w fun e w'=>e = .returned (.tuple #[])∧Hp B H0 H (own 2 1 qrow mrow crow (intsC (lessS row r f))::L) w':=by
 refine Jz Tryz.func145 rfl 29 rfl rfl [(0,.slice qrow mrow crow),(1,.slice qr r.length cr),(2,.int .i64 f)] rfl hH ?_;clear hH;subst erow;refine Je fun _ hK1 _=>(Jb (Jg (Jc rfl) rfl (Jg (Jm u22 rfl rfl) rfl (Jg (Jc rfl) rfl (Jf (Ja (hK1 (Jn (JE (σ:=Nat) (fun (k:Nat)=>[(10,.int .i64 (k:Int))]) (fun (k:Nat)=>H) (fun (k:Nat)=>own 2 1 qrow row.length crow (intsC (lsK row r f k))::L) (fun (k:Nat)=>k≤r.length) (fun (k:Nat)=>r.length - k) 0 (by omega) ⟨rfl,trivial⟩ rfl (by rw [lsK_zero]) ?_)))))))));rintro k hk _ hAg0;refine Je fun _ hK2 _=>(Jb (Jg (JR rfl rfl) rfl (Jf (Ja (hK2 (Je fun _ hK3 _=>(Jp rfl (fun h11=>?_) (fun h11=>?_))))))))
 ·
  have hkl:k<row.length:=by omega
  have hg9:(lsK row r f k).getD k 0=row.getD k 0:=by rw [lsK_get hkl,if_neg (by omega)]
  have hrk:=hrb k;have hwk:=hwb k;have hmk:=mulb hf hrk;have htk:=tmod_bd (f * r.getD k 0);refine Jo (Ja (hK3 (Je fun _ hK4 _=>(Jn (Je fun _ hK5 _=>(Jb (Jg (Jc rfl) rfl (Jg (JP u22 sz2 rfl rfl rfl (by omega) hr.sm) rfl (Jg (JB rfl (hr _ (by omega)) pl2) rfl (Jg (Jd rfl) rfl (Jg (Jd rfl) rfl (Jf (Ja (hK5 (Jb (Jg (Jc rfl) rfl ?_))))))))))))))));refine Jg (Jc rfl) rfl (Jg (Jc rfl) rfl (Jg (Jc rfl) rfl (Jg (Es u22 sz2 rfl rfl rfl (by omega) At.z) rfl (Jg (EE rfl At.z ((intsC_get (by simp;omega)).trans (congrArg (fun x=>some (Value.int .i64 x)) hg9)) pl2) rfl (Jg (Jc rfl) rfl (Jg (Jc rfl) rfl (Jg (EH rfl rfl (nw _ (by omega))) rfl (Jg (ED rfl rfl (by decide) rfl) rfl (Jg (EL rfl rfl (nw _ (by omega))) rfl (Jw fn181 rfl rfl fun w hH=>(field_c (by omega) hH).mono ?_))))))))));rintro _ w ⟨rfl,hH⟩;refine ⟨_,rfl,fun a hF=>JL hF hH ?_⟩;refine Jg (Es u22 sz2 rfl rfl rfl (by omega) At.z) rfl (J.storeWI rfl rfl sz2 (by omega) At.z (Jf (JF (Ja (hK4 (Jb (Jg (JC rfl rfl (by first | exact nw _ (by omega) | rfl)) rfl (Jg (Jc rfl) rfl (Jf (Ja ?_))))))))));exact hAg0 (k+1) (by omega) (by omega) 22 rfl rfl ⟨rfl,trivial⟩ rfl (by rw [fld_subt,lsK_set (by omega)])
 ·
  refine JH (Jl (Jl (JQ (EJ.ret0 rfl fun w hH=>?_))));replace hH:=hH.sublist (.cons_cons _ (List.Sublist.refl _))
  obtain rfl:k=row.length:=by omega
  rw [lsK_end] at hH;exact ⟨rfl,hH⟩
theorem lead1_c {B:World} {H0 H:HP} {L:List SA} {w:World} {x:Int} (hH:Hp B H0 H L w):Calls Tryz.prog 169 [.int .i64 x].toArray w fun e w'=>e = .returned (.bool (nzI x))∧Hp B H0 H L w':=by
 refine Jz Tryz.func169 rfl 5 rfl rfl [(0,.int .i64 x)] rfl hH ?_;clear hH;refine Je fun _ hK1 _=>(Jb (Jg (Jd rfl) rfl (Jf (Ja (hK1 (Je fun _ hK2 _=>(Jb (Jg (Jc rfl) rfl (Jg (El rfl rfl) rfl (Jg (Jd rfl) rfl (Jf (Ja (hK2 (Js (Jq rfl (Res.tmp rfl) fun w hH=>?_)))))))))))))));exact ⟨rfl,hH⟩
theorem lead_c {B:World} {H0 H:HP} {L:List SA} {w:World} {qr:Option Addr} {cr:Nat} {r:List Int} (hr:Ints H qr r) (hn:r.length≤1048576) (hH:Hp B H0 H L w):Calls Tryz.prog 125 [.slice qr r.length cr].toArray w fun e w'=>e = .returned (.int .i64 (idxOf r nzI))∧Hp B H0 H L w':=by
 refine Jz Tryz.func125 rfl 5 rfl rfl [(0,.slice qr r.length cr)] rfl hH ?_;clear hH;refine Je fun _ hK1 _=>(Jb (Jg (Jd rfl) rfl (Jf (Ja (hK1 (Je fun _ hK2 _=>(Jb (Jg (Jc rfl) rfl (Jw fn168 rfl rfl fun w hH=>(IndexFuncI_c hr fn169 (fun x w hH=>by simpa only [Array.append_empty,Array.empty_append] using lead1_c hH) (by omega) hH).mono ?_)))))))));rintro _ w ⟨rfl,hH⟩;refine ⟨_,rfl,fun a hF=>JL hF hH ?_⟩;refine Jg (Jd rfl) rfl (Jf (Ja (hK2 (Js (Jq rfl (Res.tmp rfl) fun w hH=>?_)))));exact ⟨rfl,hH⟩
theorem isZero_c {B:World} {H0 H:HP} {L:List SA} {w:World} {qr:Option Addr} {cr:Nat} {r:List Int} (hr:Ints H qr r) (hn:r.length≤1048576) (hH:Hp B H0 H L w):Calls Tryz.prog 115 [.slice qr r.length cr].toArray w fun e w'=>e = .returned (.bool (zR r))∧Hp B H0 H L w':=by
 refine Jz Tryz.func115 rfl 6 rfl rfl [(0,.slice qr r.length cr)] rfl hH ?_;clear hH;refine Je fun _ hK1 _=>(Jb (Jg (Jd rfl) rfl (Jf (Ja (hK1 (Je fun _ hK2 _=>(Jb (Jg (Jc rfl) rfl (Jw fn125 rfl rfl fun w hH=>(lead_c hr hn hH).mono ?_)))))))));rintro _ w ⟨rfl,hH⟩;refine ⟨_,rfl,fun a hF=>JL hF hH ?_⟩;refine Jg (JR rfl rfl) rfl (Jg (Jd rfl) rfl (Jf (Ja (hK2 (Js (Jq rfl (Res.tmp rfl) fun w hH=>?_))))));exact ⟨rb (zR_eq r),hH⟩
theorem rows_ext {a b:List (List Int)} (hl:a.length=b.length) (h : ∀i,i<b.length→rw_ a i=rw_ b i):a=b:=by
 refine List.ext_getElem hl fun i h1 h2=>?_;have:=h i h2;unfold rw_ at this;rw [List.getD_eq_getElem?_getD,List.getD_eq_getElem?_getD,List.getElem?_eq_getElem h1,List.getElem?_eq_getElem h2] at this;exact this
theorem rw_map {n:Nat} {f:Nat→List Int} {i:Nat} (hi:i<n):rw_ ((List.range n).map f) i=f i:=by simp [rw_,List.getD_eq_getElem?_getD,hi]
def swR (rs:List (List Int)) (d j:Nat):List (List Int):=(List.range rs.length).map fun i=>rw_ rs (swp d j i)
@[simp] theorem swR_len (rs:List (List Int)) (d j:Nat):(swR rs d j).length=rs.length:=by simp [swR]
theorem swR_get {rs:List (List Int)} {d j i:Nat} (hi:i<rs.length):rw_ (swR rs d j) i=rw_ rs (swp d j i):=rw_map hi
theorem swp_d (d j:Nat):swp d j d=j:=by unfold swp;rw [if_pos rfl]
theorem swp_if (d j i:Nat):(if i=j then d else if i=d then j else i)=swp d j i:=by unfold swp;split <;> split <;> omega
theorem swp_lt {d j i n:Nat} (hd:d<n) (hj:j<n) (hi:i<n):swp d j i<n:=by unfold swp;split <;> (try split) <;> omega
theorem swp_inj {d j i k:Nat} (h:i≠k):swp d j i≠swp d j k:=by unfold swp;split <;> (try split) <;> (try split) <;> (try split) <;> omega
def scK (r:List Int) (b:Int) (k:Nat):List Int:=(List.range r.length).map fun i=>if i<k then (r.getD i 0 * b).tmod 10007 else r.getD i 0
@[simp] theorem scK_len (r:List Int) (b:Int) (k:Nat):(scK r b k).length=r.length:=by simp [scK]
theorem scK_get {r:List Int} {b:Int} {k i:Nat} (h:i<r.length):(scK r b k).getD i 0=if i<k then (r.getD i 0 * b).tmod 10007 else r.getD i 0:=by simp [scK,List.getD_eq_getElem?_getD,h]
theorem scK_zero (r:List Int) (b:Int):scK r b 0=r:=list_eq_of (by simp) fun j hj=>by rw [scK_get (by simpa using hj),if_neg (by omega)]
theorem scK_set {r:List Int} {b:Int} {k:Nat} (hk:k<r.length):(scK r b k).set k ((r.getD k 0 * b).tmod 10007)=scK r b (k+1):=list_eq_of (by simp) fun j hj=>by
 have hj':j<r.length:=by simpa using hj
 rw [getD_set8,scK_get hj',scK_get hj']
 by_cases e:k=j
 ·subst e
  rw [if_pos ⟨rfl,by simpa using hk⟩,if_pos (by omega)]
 ·rw [if_neg fun h=>e h.1]
  by_cases h:j<k
  ·rw [if_pos h,if_pos (by omega)]
  ·rw [if_neg h,if_neg (by omega)]
theorem scK_end {W c:Nat} {r:List Int} (h:RowOk W r) (hl:ldR r=c) (hc:c<W):scK r (ivZ (r.getD c 0)) r.length=unitS r:=by
 subst hl;have hu:=h.unit;refine list_eq_of (by rw [scK_len,h.len,hu.len]) fun j hj=>?_
 have hj':j<r.length:=by simpa using hj
 rw [scK_get hj',if_pos hj'];have h1:=h.val j;have h2:=h.val (ldR r);have h3:=ivZ_bd h2.1;have h4:=mulb h1 h3;rw [Int.tmod_eq_emod_of_nonneg h4.1];refine Mo.val ?_ (by omega) (hu.val j);refine (show Mo (r.getD j 0 * ivZ (r.getD (ldR r) 0) % 10007) (r.getD j 0 * ivZ (r.getD (ldR r) 0)) by unfold Mo;omega).trans ?_;rw [Int.mul_comm];exact (unitS_mo r j).symm
def tkK (wk:List (List Int)) (u:List Int) (d i:Nat):List (List Int):=(List.range wk.length).map fun t=>if t=d then u else if t<i then oneBy (rw_ wk t) u else rw_ wk t
@[simp] theorem tkK_len (wk:List (List Int)) (u:List Int) (d i:Nat):(tkK wk u d i).length=wk.length:=by simp [tkK]
theorem tkK_get {wk:List (List Int)} {u:List Int} {d i t:Nat} (h:t<wk.length):rw_ (tkK wk u d i) t=if t=d then u else if t<i then oneBy (rw_ wk t) u else rw_ wk t:=rw_map h
theorem tkK_d {wk:List (List Int)} {u:List Int} {d i:Nat} (h:d<wk.length):rw_ (tkK wk u d i) d=u:=by rw [tkK_get h,if_pos rfl]
theorem tkK_i {wk:List (List Int)} {u:List Int} {d i:Nat} (h:i<wk.length) (hd:i≠d):rw_ (tkK wk u d i) i=rw_ wk i:=by rw [tkK_get h,if_neg hd,if_neg (by omega)]
theorem tkK_zero {wk:List (List Int)} {u:List Int} {d:Nat}:tkK wk u d 0=wk.set d u:=rows_ext (by simp) fun i hi=>by
 have hi':i<wk.length:=by simpa using hi
 rw [tkK_get hi',rw_set]
 by_cases e:i=d
 ·rw [if_pos e,if_pos ⟨e.symm,by omega⟩]
 ·rw [if_neg e,if_neg (by omega),if_neg fun h=>e h.1.symm]
theorem tkK_set {wk:List (List Int)} {u:List Int} {d i:Nat} (hi:i<wk.length) (hd:i≠d):(tkK wk u d i).set i (oneBy (rw_ wk i) u)=tkK wk u d (i+1):=rows_ext (by simp) fun t ht=>by
 have ht':t<wk.length:=by simpa using ht
 rw [rw_set,tkK_get ht',tkK_get ht']
 by_cases e:i=t
 ·subst e
  rw [if_pos ⟨rfl,by simpa using hi⟩,if_neg hd,if_pos (by omega)]
 ·rw [if_neg fun h=>e h.1]
  by_cases e2:t=d
  ·rw [if_pos e2,if_pos e2]
  ·rw [if_neg e2,if_neg e2]
   by_cases h:t<i
   ·rw [if_pos h,if_pos (by omega)]
   ·rw [if_neg h,if_neg (by omega)]
theorem tkK_same {wk:List (List Int)} {u:List Int} {d i:Nat} (h:i<wk.length→i≠d→oneBy (rw_ wk i) u=rw_ wk i):tkK wk u d i=tkK wk u d (i+1):=rows_ext (by simp) fun t ht=>by
 have ht':t<wk.length:=by simpa using ht
 rw [tkK_get ht',tkK_get ht']
 by_cases e2:t=d
 ·rw [if_pos e2,if_pos e2]
 ·rw [if_neg e2,if_neg e2]
  by_cases h1:t<i
  ·rw [if_pos h1,if_pos (by omega)]
  ·rw [if_neg h1]
   by_cases h2:t=i
   ·subst h2
    rw [if_pos (by omega),h ht' e2]
   ·rw [if_neg (by omega)]
theorem idxR_neg {xs:List (List Int)} {p:List Int→Bool} (h:idxR xs p<0) : ∀i,i<xs.length→p (rw_ xs i)=false:=fun i hi=>by
 cases hp:p (rw_ xs i) with
 | false=>rfl
 | true=>
  exfalso
  unfold idxR at h
  rw [if_pos (List.any_eq_true.2 ⟨xs[i],List.getElem_mem hi,by rw [rw_eq];exact hp⟩)] at h
  omega
theorem idxR_pos {xs:List (List Int)} {p:List Int→Bool} (h : ¬idxR xs p<0) : ∃k,k<xs.length∧idxR xs p=(k:Nat)∧p (rw_ xs k)=true:=by
 unfold idxR at h ⊢
 by_cases ha:xs.any p=true
 ·rw [if_pos ha] at h ⊢;have hlt:xs.findIdx p<xs.length:=List.findIdx_lt_length.2 (List.any_eq_true.1 ha);refine ⟨_,hlt,rfl,?_⟩;rw [← rw_eq hlt];exact List.findIdx_getElem
 ·rw [if_neg ha] at h
  omega
theorem rw_drop {xs:List (List Int)} {d i:Nat}:rw_ (xs.drop d) i=rw_ xs (d+i):=by simp [rw_,List.getD_eq_getElem?_getD,List.getElem?_drop]
theorem GaJ.round {W:Nat} {rs work:List (List Int)} {d c j:Nat} (h:GaJ W rs work d c) (hj:d≤j) (hjn:j<work.length) (hq:(rw_ work j).getD c 0≠0):GaJ W rs (tkK (swR work d j) (unitS (rw_ work j)) d work.length) (d+1) (c+1):=
 h.step hj hjn hq (by simp) (tkK_d (by simpa using (by omega:d<work.length))) fun i hi hne=>by
  rw [tkK_get (by simpa using hi),if_neg hne,if_pos hi,swR_get hi]
theorem oneBy_zero {W:Nat} {r u:List Int} (hr:RowOk W r) (hu:RowOk W u) (h:r.getD (ldR u) 0=0):oneBy r u=r:=by
 unfold oneBy;rw [h];exact lessS_0 hr (by rw [hr.len,hu.len])
section
variable {B : World} {H0 H : HP} {L : List SA} {w : World} {T : TypeId} {vs : Vs} {wk : List (List Int)} {u : List Int} {d i : Nat}
theorem Hp.tk0 (h:Hp B H0 H (own T 1 (vs d).1 (rw_ wk d).length (vs d).2 (intsC u)::ownIx T vs wk (less1 (fun _=>true) d)::L) w) (hd:d<wk.length) (hu:u.length=(rw_ wk d).length):Hp B H0 H (rowA T vs (tkK wk u d 0) d::ownIx T vs (tkK wk u d 0) (less1 (fun _=>true) d)::L) w:=by
 rw [← hu] at h;have h1:=h.putRow hd rfl;rw [← tkK_zero] at h1;exact h1.pick (by simpa using hd) rfl
theorem Hp.tkPut (h:Hp B H0 H (rowA T vs wk d::ownIx T vs wk (less1 (fun _=>true) d)::L) w) (hd:d<wk.length):Hp B H0 H (ownIx T vs wk (fun _=>true)::L) w:=by
 have h1:=h.putRow hd rfl
 rw [show wk.set d (rw_ wk d)=wk from rows_ext (by simp) fun i hi=>by
  rw [rw_set]
  split
  ·rename_i e;rw [e.1]
  ·rfl] at h1
 exact h1
theorem Hp.tkStep {r:List Int} (h:Hp B H0 H (rowA T vs (tkK wk u d i) d::own T 1 (vs i).1 (rw_ (tkK wk u d i) i).length (vs i).2 (intsC r)::ownIx T vs (tkK wk u d i) (less1 (less1 (fun _=>true) d) i)::L) w) (hd:d<wk.length) (hi:i<wk.length) (hne:i≠d) (hr:r=oneBy (rw_ wk i) u) (hl:r.length=(rw_ (tkK wk u d i) i).length):Hp B H0 H (rowA T vs (tkK wk u d (i+1)) d::ownIx T vs (tkK wk u d (i+1)) (less1 (fun _=>true) d)::L) w:=by
 rw [← hl] at h;have h1:=(h.front (.s .z)).front (.s (.s .z));have h2:=(h1.front (.s .z)).putRow (by simpa using hi) (less1_iff.2 ⟨rfl,hne⟩);rw [hr,tkK_set hi hne] at h2;have h3:=h2.front (.s .z)
 have e:rowA T vs (tkK wk u d i) d=rowA T vs (tkK wk u d (i+1)) d:=by
  show own _ _ _ _ _ _=own _ _ _ _ _ _
  rw [tkK_d hd,tkK_d hd]
 rw [e] at h3;exact h3
end
theorem reduce1_c {B:World} {H0 H:HP} {L:List SA} {w:World} {qr:Option Addr} {cr:Nat} {r:List Int} {bc:Nat} {c:Int} (hr:Ints H qr r) (kc:cellO H (some ⟨bc,0,none⟩) 0=some (.int .i64 c)) (hc:0≤c∧c.toNat<r.length) (hH:Hp B H0 H L w):Calls Tryz.prog 143 [.slice qr r.length cr,.pointer (some ⟨bc,0,none⟩)].toArray w fun e w'=>e = .returned (.bool (decide (r.getD c.toNat 0≠0)))∧Hp B H0 H L w':=by
 refine Jz Tryz.func143 rfl 9 rfl rfl [(0,.slice qr r.length cr),(1,.pointer (some ⟨bc,0,none⟩))] rfl hH ?_;clear hH;refine Je fun _ hK1 _=>(Jb (Jg (Jd rfl) rfl (Jf (Ja (hK1 (Je fun _ hK2 _=>(Jb (Jg (Jc rfl) rfl (Jg (JB (q:=some ⟨bc,0,none⟩) (k:=0) rfl kc pl3) rfl (Jg (JP (i':=c.toNat) u22 sz2 rfl rfl (by omega) (by omega) hr.sm) rfl (Jg (JB rfl (hr _ (by omega)) pl2) rfl (Jg (El rfl rfl) rfl (Jg (Jd rfl) rfl (Jf (Ja (hK2 ?_))))))))))))))));refine Js (Jq rfl (Res.tmp rfl) fun w hH=>?_);exact ⟨rfl,hH⟩
theorem by22:Bytes Tryz.prog 22 24:=by unfold Bytes;kernel_rfl
theorem ze22:Zero Tryz.prog 22 [.slice none 0 0]:=by unfold Zero;kernel_rfl
theorem ze3:Zero Tryz.prog 3 [.int .i64 0]:=by unfold Zero;kernel_rfl
theorem fn141:Fn Tryz.prog 141:=⟨_,Tryz.func141,by kernel_rfl,rfl⟩
theorem fn142:Fn Tryz.prog 142:=⟨_,Tryz.func142,by kernel_rfl,rfl⟩
theorem fn143:Fn Tryz.prog 143:=⟨_,Tryz.func143,by kernel_rfl,rfl⟩
theorem fn144:Fn Tryz.prog 144:=⟨_,Tryz.func144,by kernel_rfl,rfl⟩
theorem fn145:Fn Tryz.prog 145:=⟨_,Tryz.func145,by kernel_rfl,rfl⟩
theorem reduce_c {B:World} {H0 H:HP} {L:List SA} {w:World} {qrs:Option Addr} {crs:Nat} {rs:List (List Int)} {W:Nat} (hrs:RowsR H qrs rs) (hW : ∀r∈rs,RowOk W r) (hn:rs.length≤1048576) (hWn:W≤1048576) (hH:Hp B H0 H L w):Calls Tryz.prog 93 [.slice qrs rs.length crs].toArray w fun e w'=>∃q c vs,e = .returned (.slice q (redS rs).length c)∧Hp B H0 H (ownRs 22 2 q c vs (redS rs)::L) w':=by
 refine Jz Tryz.func93 rfl 132 rfl rfl [(0,.slice qrs rs.length crs)] rfl hH ?_;clear hH;refine Je fun _ hK1 _=>(Jb (Jg (Jd rfl) rfl (Jf (Ja (hK1 (Je fun _ hK2 _=>(Jb (EK (EP u57 sz22) rfl fun qo13 co13=>(J.is0 2 (Jg (Jd rfl) rfl (Jf (Ja (hK2 (Je fun _ hK3 _=>(Je fun _ hK4 _=>(Jb ?_))))))))))))))));refine Jg (Jc rfl) rfl (Jg (Jm u57 rfl rfl) rfl (Jg (Jc rfl) rfl (Jf (Ja (hK4 (Jn (JE (σ:=Option Addr × Nat × Vs × Nat) (fun ⟨q0,c0,vsa,k⟩=>[(16,.int .i64 (k:Int)),(3,.slice q0 k c0)]) (fun ⟨q0,c0,vsa,k⟩=>H) (fun ⟨q0,c0,vsa,k⟩=>ownIs 2 vsa (rs.take k)::own 22 1 q0 k c0 (slicesI vsa (rs.take k))::L) (fun ⟨q0,c0,vsa,k⟩=>k≤rs.length) (fun ⟨q0,c0,vsa,k⟩=>rs.length - k) (qo13,co13,nilVs,0) (by show 0≤rs.length;omega) ⟨rfl,⟨rfl,trivial⟩⟩ rfl rfl ?_)))))));rintro ⟨q0,c0,vsa,k⟩ hI _ hAg0;have hk:=hI;have htk:(rs.take k).length=k:=List.length_take_of_le hk;refine Je fun _ hK5 _=>(Jb (Jg (JR rfl rfl) rfl (Jf (Ja (hK5 (Je fun _ hK6 _=>(Jp rfl (fun hc17=>?_) (fun hc17=>?_))))))))
 ·
  refine Jo (Ja (hK6 (Je fun _ hK7 _=>(Jn (Je fun _ hK8 _=>(Jb (Jg (JP u57 sz22 rfl rfl rfl (by omega) hrs.sm) rfl ?_)))))));obtain ⟨qe19,ce19,he19,le19,Fe19⟩:=hrs k (by omega);refine Jg (JB rfl he19 pl22) rfl (Jg (Jd rfl) rfl (Jf (Ja (hK8 (Jb (Jg (Jc rfl) rfl (Jg (Jc rfl) rfl (Jw fn141 rfl rfl fun w hH=>(CloneI_c Fe19 (by have:=(hW _ (rw_mem (show k<rs.length by omega))).len;omega) hH).mono ?_))))))));rintro _ w ⟨qo22,co22,rfl,hH⟩;refine ⟨_,rfl,fun a hF=>JL hF hH ?_⟩;refine EK (EM u57 ze22 sz22 rfl rfl) rfl fun qo23 co23=>(EF u57 ze22 sz22 by22 rfl rfl rfl rfl (by omega) .z (.s (.s .z)) (fun _ _=>(.s (.s .z))) rfl fun qo24 co24=>(Jg (Jd rfl) rfl (Jf (JF (Ja (hK7 (Jb (Jg (JC rfl rfl (by first | exact nw _ (by omega) | rfl)) rfl (Jg (Jc rfl) rfl (Jf (Ja (Jr (.s (.s (.s .z))) (Jr (.s .z) (Jr (.s (.s (.s .z))) (Jr (.s (.s (.s .z))) ?_)))))))))))))));refine EJ.isSnoc (rs:=rs.take k) htk rfl (JK (.s .z) ?_);exact hAg0 (qo24,co24,setV vsa k (qo22,co22),k+1) (by show k+1≤rs.length;omega) (by show rs.length - (k+1)<rs.length - k;omega) 14 rfl rfl ⟨rfl,⟨rfl,trivial⟩⟩ rfl (by dsimp only;rw [rw_take (by omega),slicesI_set htk])
 ·
  refine JH (Jl (Jl (JQ (Ja (hK3 (Je fun _ hK9 _=>(Jb (Jg (Jd rfl) rfl (Jf (Ja (hK9 (Je fun _ hK10 _=>(Je fun _ hK11 _=>(Jb (JV ze3 rfl fun g7=>(Ez rfl rfl rfl rfl sz3 (by simp [*]) At.z ?_))))))))))))))))
  obtain rfl:k=rs.length:=by omega
  refine J.reL (L':=ownIx 2 vsa rs (fun _=>true)::obj g7 (.cells [.int .i64 (0:Int)].toArray 3 (0,0))::own 22 1 q0 rs.length c0 (slicesI vsa rs)::L) (fun w hH=>by dsimp only at hH;rw [List.take_length] at hH;exact (hH.front (.s .z)).toIx) (Jf (Ja (hK11 (Jn (JE (σ:=Vs × List (List Int) × Nat × Nat × Nat) (fun ⟨vs,wk,d,c,g⟩=>[(6,.int .i64 (d:Int)),(7,.pointer (some ⟨g,0,none⟩))]) (fun ⟨vs,wk,d,c,g⟩=>H) (fun ⟨vs,wk,d,c,g⟩=>ownIx 2 vs wk (fun _=>true)::obj g (.cells [.int .i64 (c:Int)].toArray 3 (0,0))::own 22 1 q0 rs.length c0 (slicesI vs wk)::L) (fun ⟨vs,wk,d,c,g⟩=>GaJ W rs wk d c∧wk.length=rs.length) (fun ⟨vs,wk,d,c,g⟩=>W - c) (vsa,rs,0,0,g7) ⟨GaJ.start hW,rfl⟩ ⟨rfl,⟨rfl,trivial⟩⟩ rfl rfl ?_)))));rintro ⟨vs,wk,d,c,g⟩ ⟨hG,hwl⟩ _ hAg1;have hGd:=hG.hd;have hGc:=hG.hc;refine Je fun _ hK12 _=>(Je fun _ hK13 _=>(Eu foll0 (by kernel_rfl) (JD (Jc rfl) rfl (JD (Jc rfl) rfl (JD (Jm u57 rfl rfl) rfl (JD (JR rfl rfl) rfl (JD (Jc rfl) rfl (JS.splitB (jd:=30) rfl (fun hg30=>?_) (fun hg30=>?_)))))))))
  ·
   try have hg30p:=of_decide_eq_true hg30
   refine JS.gy (Jy rfl (.s .z) rfl pl3) rfl rfl rfl hg30 (JS.gy (Jc rfl) rfl rfl rfl hg30 (JS.gy (Es (i':=0) u57 sz22 rfl rfl rfl (by omega) (.s (.s .z))) rfl rfl rfl hg30 (JS.gy (EE rfl (.s (.s .z)) (slicesI_get (i:=0) (by omega)) pl22) rfl rfl rfl hg30 (JS.gy (Jm u22 rfl rfl) rfl rfl rfl hg30 (JS.gy (JR rfl rfl) rfl rfl rfl hg30 (JD (JZ rfl hg30 rfl) rfl (Ef (Ja (hK13 (Jp rfl (fun h37=>?_) (fun h37=>?_)))))))))))
   ·
    have hdl:d<wk.length:=by omega
    have hcW:c<W:=by have:=(hG.row 0 (by omega)).len;omega
    refine Jo (Ja (hK12 (Je fun _ hK14 _=>(Jn (Je fun _ hK15 _=>(Jb (Jg (Jc rfl) rfl (Jg (Jc rfl) rfl (Jg (EN (v':=.slice (q0.map fun a=>a.add d) (wk.drop d).length (c0 - d)) (by rw [List.length_drop,hwl]) (PR.sliceW (i':=d) u57 sz22 rfl rfl rfl (by omega) (.s (.s .z)))) rfl (Jg (PR.makeFunc (ys:=[]) (zs:=[_]) rfl rfl) rfl (Jw fn142 rfl rfl fun w hH=>hH.lend (.s .z) fun Hl1 hl1 hA1 hB1 hH=>hH.lend (.s .z) fun Hl2 hl2 hA2 hB2 hH=>hH.lend .z fun Hl3 hl3 hA3 hB3 hH=>(IndexFuncR_c (xs:=wk.drop d) (Sp:=fun x=>x.length=W) (p:=fun r=>decide (r.getD (c:Int).toNat 0≠0)) ((ownIx_rows hA2 hl3 hA3).drop d) fn143 (fun H' L w q c' x hle hS hx hH=>by rw [Array.empty_append];exact reduce1_c (c:=(c:Int)) hx (cellO_le ((hl2.trans hl3).trans hle) (obj_cell hA1 rfl)) ⟨by omega,by rw [Int.toNat_natCast,hS];omega⟩ hH) (by rw [List.length_drop];omega) (fun i hi=>by rw [rw_drop];exact (hG.row _ (by rw [List.length_drop] at hi;omega)).len) hH).mono ?_)))))))))));rintro _ w ⟨rfl,hH⟩;replace hH:=hB1 _ _ (hB2 _ _ (hB3 _ _ hH));refine ⟨_,rfl,fun a hF=>JL hF hH ?_⟩;refine Jg (Jd rfl) rfl (Jf (Ja (hK15 (Je fun _ hK16 _=>(Je fun _ hK17 _=>(Jb (Jg (Jc rfl) rfl (Jg (JR rfl rfl) rfl (Jf (Ja (hK17 (Jp rfl (fun h46=>?_) (fun h46=>?_)))))))))))))
    ·
     have hz : ∀i,d≤i→i<wk.length→(rw_ wk i).getD c 0=0:=fun i h1 h2=>by have h3:=idxR_neg h46 (i - d) (by rw [List.length_drop];omega);rw [rw_drop,show d+(i - d)=i by omega] at h3;simpa using h3
     refine JH (Jl (JQ (Ja (hK14 (Je fun _ hK18 _=>(Je fun _ hK19 _=>(Jb (Jg (Jy rfl At.z rfl pl3) rfl (Jf (Ja (hK19 (Jb (JV ze3 rfl fun g7=>(Ez rfl rfl rfl rfl sz3 (by simp [*]) At.z (Jf (Ja (hK18 ?_)))))))))))))))));refine Jb (Jg (Jy rfl At.z rfl pl3) rfl (Jg (JC rfl rfl (by first | exact nw _ (by omega) | rfl)) rfl (Ez rfl rfl rfl rfl sz3 (by simp [*]) At.z (Jf (Ja (JK (.s .z) (Jr (.s .z) (Jr (.s .z) (Jr (.s (.s .z)) ?_)))))))));exact hAg1 (vs,wk,d,c+1,g7) ⟨hG.skip hcW (fun i h1 h2=>hz i h1 h2),hwl⟩ (by show W - (c+1)<W - c;omega) 26 rfl rfl ⟨rfl,⟨rfl,trivial⟩⟩ rfl rfl
    ·
     obtain ⟨j,hj,hjl,ej,hq⟩ : ∃j,d≤j∧j<wk.length∧idxR (wk.drop d) (fun r=>decide (r.getD (c:Int).toNat 0≠0))=((j - d:Nat):Int)∧(rw_ wk j).getD c 0≠0:=by
      obtain ⟨k2,hk2,e2,hp2⟩:=idxR_pos h46;rw [List.length_drop] at hk2;refine ⟨d+k2,by omega,by omega,by rw [e2];congr 1;omega,?_⟩;rw [rw_drop] at hp2
      simpa using hp2
     rw [ej];refine Jo (Ja (hK16 (Je fun _ hK20 _=>(Ej (Rs:=[_,_,_]) 20 [[], [], [], [], [], [3,4], [], [], [], [7,8], [6,7,8,9], [6,7,8,9,10], [], [], [12,13], [12,13,14], [0,1,6,7,8,9,10,11,12,13,14,15], [0,1,6,7,8,9,10,11,12,13,14,15,16], [0,1,2,3,4,5,6,7,8,9,10,11,12,13,14,15,16,17], [0,1,2,3,4,5,6,7,8,9,10,11,12,13,14,15,16,17,18]] [[], [], [], [], [], [], [], [], [], [], [21], [21], [], [], [21], [21], [21], [], [17], []] [[], [], [], [], [], [], [], [], [], [], [], [], [], [], [], [], [], [21], [], [17]] rfl rfl (by kernel_rfl) ?_))));apply Jj 1 rfl
     iterate 3 focus (intros;(conv=>lhs;simp only [Jh,Jt,JN,Jv,JI,eq_self,reduceEqDiff,reduceIte,reduceSub,reduceAdd,JxA,JxB]);all_goals rfl)
     ·
      intro gh X K zq zc zq2 zc2 zb zv hK;refine Jg (Jc rfl) rfl (Ji ?_);exact hK zq zc zq2 zc2 zb zv
     ·
      intro gh gh' h
      rfl
     apply Jj 2 rfl
     iterate 3 focus (intros;(conv=>lhs;simp only [Jh,Jt,JN,Jv,JI,eq_self,reduceEqDiff,reduceIte,reduceSub,reduceAdd,JxA,JxB]);all_goals rfl)
     ·
      intro gh X K zq zc zq2 zc2 zb zv hK;refine Jg (Jc rfl) rfl (Ji ?_);exact hK zq zc zq2 zc2 zb zv
     ·
      intro gh gh' h
      rfl
     apply Jj 3 rfl
     iterate 3 focus (intros;(conv=>lhs;simp only [Jh,Jt,JN,Jv,JI,eq_self,reduceEqDiff,reduceIte,reduceSub,reduceAdd,JxA,JxB]);all_goals rfl)
     ·
      intro gh X K zq zc zq2 zc2 zb zv hK;refine Jg (Jc rfl) rfl (Ji ?_);exact hK zq zc zq2 zc2 zb zv
     ·
      intro gh gh' h
      rfl
     apply Jj 4 rfl
     iterate 3 focus (intros;(conv=>lhs;simp only [Jh,Jt,JN,Jv,JI,eq_self,reduceEqDiff,reduceIte,reduceSub,reduceAdd,JxA,JxB]);all_goals rfl)
     ·
      intro gh X K zq zc zq2 zc2 zb zv hK;refine Jg (Jc rfl) rfl (Ji ?_);exact hK zq zc zq2 zc2 zb zv
     ·
      intro gh gh' h
      rfl
     apply Jj 5 rfl
     iterate 3 focus (intros;(conv=>lhs;simp only [Jh,Jt,JN,Jv,JI,eq_self,reduceEqDiff,reduceIte,reduceSub,reduceAdd,JxA,JxB]);all_goals rfl)
     ·
      intro gh X K zq zc zq2 zc2 zb zv hK;refine Jg (Jc rfl) rfl (Ji ?_);exact hK zq zc zq2 zc2 zb zv
     ·
      intro gh gh' h
      rfl
     apply Jj 6 rfl
     iterate 3 focus (intros;(conv=>lhs;simp only [Jh,Jt,JN,Jv,JI,eq_self,reduceEqDiff,reduceIte,reduceSub,reduceAdd,JxA,JxB]);all_goals rfl)
     ·
      intro gh X K zq zc zq2 zc2 zb zv hK;refine Jg (JC rfl rfl (by first | exact nw _ (by omega) | rfl)) rfl (Ji ?_);exact hK zq zc zq2 zc2 zb zv
     ·
      intro gh gh' h
      rfl
     apply Jj 7 rfl
     iterate 3 focus (intros;(conv=>lhs;simp only [Jh,Jt,JN,Jv,JI,eq_self,reduceEqDiff,reduceIte,reduceSub,reduceAdd,JxA,JxB]);all_goals rfl)
     ·
      intro gh X K zq zc zq2 zc2 zb zv hK;refine Jg (Jc rfl) rfl (Ji ?_);exact hK zq zc zq2 zc2 zb zv
     ·
      intro gh gh' h
      rfl
     apply Jj 8 rfl
     iterate 3 focus (intros;(conv=>lhs;simp only [Jh,Jt,JN,Jv,JI,eq_self,reduceEqDiff,reduceIte,reduceSub,reduceAdd,JxA,JxB]);all_goals rfl)
     ·
      intro gh X K zq zc zq2 zc2 zb zv hK;refine Jg (Jc rfl) rfl (Ji ?_);exact hK zq zc zq2 zc2 zb zv
     ·
      intro gh gh' h
      rfl
     apply Jj 9 rfl
     iterate 3 focus (intros;(conv=>lhs;simp only [Jh,Jt,JN,Jv,JI,eq_self,reduceEqDiff,reduceIte,reduceSub,reduceAdd,JxA,JxB]);all_goals rfl)
     ·
      intro gh X K zq zc zq2 zc2 zb zv hK;refine Jg (Jc rfl) rfl (Ji ?_);exact hK zq zc zq2 zc2 zb zv
     ·
      intro gh gh' h
      rfl
     apply Jj 10 rfl
     iterate 3 focus (intros;(conv=>lhs;simp only [Jh,Jt,JN,Jv,JI,eq_self,reduceEqDiff,reduceIte,reduceSub,reduceAdd,JxA,JxB]);all_goals rfl)
     ·
      intro gh X K zq zc zq2 zc2 zb zv hK;refine Jg (JC rfl rfl (by first | exact nw _ (by omega) | rfl)) rfl (Ji ?_);exact hK zq zc zq2 zc2 zb zv
     ·
      intro gh gh' h
      rfl
     apply Jj 11 rfl
     iterate 3 focus (intros;(conv=>lhs;simp only [Jh,Jt,JN,Jv,JI,eq_self,reduceEqDiff,reduceIte,reduceSub,reduceAdd,JxA,JxB]);all_goals rfl)
     ·
      intro gh X K zq zc zq2 zc2 zb zv hK;refine Jg (Es (i':=j) u57 sz22 rfl rfl (by omega) (by omega) At.z) rfl (Ji ?_);exact hK zq zc zq2 zc2 zb zv
     ·
      intro gh gh' h
      rfl
     apply Jj 12 rfl
     iterate 3 focus (intros;(conv=>lhs;simp only [Jh,Jt,JN,Jv,JI,eq_self,reduceEqDiff,reduceIte,reduceSub,reduceAdd,JxA,JxB]);all_goals rfl)
     ·
      intro gh X K zq zc zq2 zc2 zb zv hK;refine Jg (EE rfl At.z (slicesI_get hjl) pl22) rfl (Ji ?_);exact hK zq zc zq2 zc2 zb zv
     ·
      intro gh gh' h
      rfl
     apply Jj 13 rfl
     iterate 3 focus (intros;(conv=>lhs;simp only [Jh,Jt,JN,Jv,JI,eq_self,reduceEqDiff,reduceIte,reduceSub,reduceAdd,JxA,JxB]);all_goals rfl)
     ·
      intro gh X K zq zc zq2 zc2 zb zv hK;refine Jg (Jc rfl) rfl (Ji ?_);exact hK zq zc zq2 zc2 zb zv
     ·
      intro gh gh' h
      rfl
     apply Jj 14 rfl
     iterate 3 focus (intros;(conv=>lhs;simp only [Jh,Jt,JN,Jv,JI,eq_self,reduceEqDiff,reduceIte,reduceSub,reduceAdd,JxA,JxB]);all_goals rfl)
     ·
      intro gh X K zq zc zq2 zc2 zb zv hK;refine Jg (Jc rfl) rfl (Ji ?_);exact hK zq zc zq2 zc2 zb zv
     ·
      intro gh gh' h
      rfl
     apply Jj 15 rfl
     iterate 3 focus (intros;(conv=>lhs;simp only [Jh,Jt,JN,Jv,JI,eq_self,reduceEqDiff,reduceIte,reduceSub,reduceAdd,JxA,JxB]);all_goals rfl)
     ·
      intro gh X K zq zc zq2 zc2 zb zv hK;refine Jg (Es u57 sz22 rfl rfl rfl (by omega) At.z) rfl (Ji ?_);exact hK zq zc zq2 zc2 zb zv
     ·
      intro gh gh' h
      rfl
     apply Jj 16 rfl
     iterate 3 focus (intros;(conv=>lhs;simp only [Jh,Jt,JN,Jv,JI,eq_self,reduceEqDiff,reduceIte,reduceSub,reduceAdd,JxA,JxB]);all_goals rfl)
     ·
      intro gh X K zq zc zq2 zc2 zb zv hK;refine Jg (EE rfl At.z (slicesI_get hdl) pl22) rfl (Ji ?_);exact hK zq zc zq2 zc2 zb zv
     ·
      intro gh gh' h
      rfl
     apply Jj 17 rfl
     iterate 3 focus (intros;(conv=>lhs;simp only [Jh,Jt,JN,Jv,JI,eq_self,reduceEqDiff,reduceIte,reduceSub,reduceAdd,JxA,JxB]);all_goals rfl)
     ·
      intro gh X K zq zc zq2 zc2 zb zv hK;refine Jg (Es u57 sz22 rfl rfl rfl (by omega) At.z) rfl (Ji ?_);exact hK zq zc zq2 zc2 zb zv
     ·
      intro gh gh' h
      rfl
     apply ET 18 rfl
     iterate 3 focus (intros;(conv=>lhs;simp only [Jh,Jt,JN,Jv,JI,eq_self,reduceEqDiff,reduceIte,reduceSub,reduceAdd,JxA,JxB]);all_goals rfl)
     ·
      intro gh X K hK;refine J.storeW rfl rfl rfl rfl sz22 (by omega) At.z (Ji ?_);exact hK
     ·
      intro gh gh' h
      rfl
     apply Jj 19 rfl
     iterate 3 focus (intros;(conv=>lhs;simp only [Jh,Jt,JN,Jv,JI,eq_self,reduceEqDiff,reduceIte,reduceSub,reduceAdd,JxA,JxB]);all_goals rfl)
     ·
      intro gh X K zq zc zq2 zc2 zb zv hK;refine Jg (Es (i':=j) u57 sz22 rfl rfl (by omega) (by omega) At.z) rfl (Ji ?_);exact hK zq zc zq2 zc2 zb zv
     ·
      intro gh gh' h
      rfl
     apply ET 20 rfl
     iterate 3 focus (intros;(conv=>lhs;simp only [Jh,Jt,JN,Jv,JI,eq_self,reduceEqDiff,reduceIte,reduceSub,reduceAdd,JxA,JxB]);all_goals rfl)
     ·
      intro gh X K hK;refine J.storeW rfl rfl rfl rfl sz22 (by omega) At.z (Ji ?_);exact hK
     ·
      intro gh gh' h
      rfl
     apply Ek [0,1,2,3,4,5,6,7,8,9,10,11,12,13,14,15,16,17,18,19] [0,1,2,3,4,5,6,7,8,9,10,11,12,13,14,15,16,18,19,20,22] foll0 rfl rfl rfl (by rfl)
     iterate 2 focus (intros;(conv=>lhs;simp only [Jh,Jt,JN,Jv,JI,eq_self,reduceEqDiff,reduceIte,reduceSub,reduceAdd,JxA,JxB]);all_goals rfl)
     intro gh;clear gh;rw [slicesI_set2 (vs':=fun i=>vs (swp d j i)) (rs':=swR wk d j) hdl hjl (by simp) (fun i hi=>by rw [swp_if]) (fun i hi=>by rw [swp_if,swR_get hi])];refine EJ.reL (fun w hH=>(((hH.front (.s (.s .z))).permIx (vs':=fun i=>vs (swp d j i)) (rs':=swR wk d j) (σ:=swp d j) (by simp) (fun i hi=>swp_lt hdl hjl hi) (fun i k _ _ h=>swp_inj h) (fun i hi=>rfl) (fun i hi=>swR_get hi)).pick (j:=d) (by simpa using hdl) rfl)) ?_;generalize (fun i=>vs (swp d j i))=vsb
     have hd1:d<(swR wk d j).length:=by simpa using hdl
     have hrj:=hG.row j hjl
     have hud:rw_ (swR wk d j) d=rw_ wk j:=by rw [swR_get hdl,swp_d]
     have hru : ∀i,i<wk.length→RowOk W (rw_ (swR wk d j) i):=fun i hi=>by rw [swR_get hi];exact hG.row _ (swp_lt hdl hjl hi)
     have hld:=hG.ld_q hj hjl hq
     have hlu:(rw_ (swR wk d j) d).length=W:=by rw [hud];exact hrj.len
     have hvu : ∀k,0≤(rw_ (swR wk d j) d).getD k 0∧(rw_ (swR wk d j) d).getD k 0≤10006:=by rw [hud];exact hrj.val
     have hvc:=hvu c;have hvi:=ivZ_bd hvc.1;refine Ja (hK20 (Je fun _ hK21 _=>(Eo [[], [], [0,1], [2], []] (by kernel_rfl) (JA (fun gh=>Jc rfl) (JA (fun gh=>Jc rfl) (JA (fun gh=>Es u57 sz22 rfl rfl rfl (by omega) (.s (.s .z))) (JA (fun gh=>EE rfl (.s (.s .z)) (slicesI_get hd1) pl22) (JA (fun gh=>Jy rfl (.s (.s (.s .z))) rfl pl3) (Eb 5 3 foll0 (by kernel_rfl) rfl rfl fun gh=>(En (us':=(65,_)::(66,_)::(67,_)::(68,_)::(69,_)::_) (L':=_) rfl rfl (Jg (Es u22 sz2 rfl rfl rfl (by omega) At.z) rfl (Jg (EE rfl At.z (intsC_get (by first | omega | (simp;omega))) pl2) rfl (Jw fn144 rfl rfl fun w hH=>(inverse_c hvc hH).mono ?_)))))))))))));rintro _ w ⟨rfl,hH⟩;refine ⟨_,rfl,fun a hF=>JL hF hH ?_⟩;refine Jf (Ec (JD (Jd rfl) rfl (Ef (Ja (hK21 (Je fun _ hK22 _=>(Je fun _ hK23 _=>(Jb (Jg (Jc rfl) rfl (Jg (Jc rfl) rfl (Jg (Es u57 sz22 rfl rfl rfl (by omega) (.s (.s .z))) rfl (Jg (EE rfl (.s (.s .z)) (slicesI_get hd1) pl22) rfl (Jg (Jm u22 rfl rfl) rfl (Jg (Jc rfl) rfl (Jf ?_)))))))))))))));refine Ja (hK23 (Jn (JE (σ:=Nat) (fun (k:Nat)=>[(78,.int .i64 (k:Int))]) (fun (k:Nat)=>H) (fun (k:Nat)=>own 2 1 (vsb d).1 (rw_ (swR wk d j) d).length (vsb d).2 (intsC (scK (rw_ (swR wk d j) d) (ivZ ((rw_ (swR wk d j) d).getD c 0)) k))::ownIx 2 vsb (swR wk d j) (less1 (fun _=>true) d)::own 22 1 q0 rs.length c0 (slicesI vsb (swR wk d j))::obj g (.cells [.int .i64 (c:Int)].toArray 3 (0,0))::L) (fun (k:Nat)=>k≤W) (fun (k:Nat)=>W - k) 0 (by omega) ⟨rfl,trivial⟩ rfl (by rw [scK_zero];rfl) ?_)));rintro k hk _ hAg2;refine Je fun _ hK24 _=>(Jb (Jg (JR rfl rfl) rfl (Jf (Ja (hK24 (Je fun _ hK25 _=>(Jp rfl (fun h79=>?_) (fun h79=>?_))))))))
     ·
      have hg9:(scK (rw_ (swR wk d j) d) (ivZ ((rw_ (swR wk d j) d).getD c 0)) k).getD k 0=(rw_ (swR wk d j) d).getD k 0:=by rw [scK_get (by omega),if_neg (by omega)]
      have hvk:=hvu k;have hmk:=mulb hvk hvi;refine Jo (Ja (hK25 (Je fun _ hK26 _=>(Jn (Je fun _ hK27 _=>(Jb (Jg (Jc rfl) rfl (Jg (Jd rfl) rfl (Jf (Ja (hK27 (Eo [[], [], [0,1], [2], [], [], [], [5,6], [7], [], [8,9], [10], [], [11,12], [13]] (by kernel_rfl) (JA (fun gh=>Jc rfl) (JA (fun gh=>Jc rfl) (JA (fun gh=>Es u57 sz22 rfl rfl rfl (by omega) (.s (.s .z))) (JA (fun gh=>EE rfl (.s (.s .z)) (slicesI_get hd1) pl22) ?_))))))))))))))));refine JA (fun gh=>Jc rfl) (JA (fun gh=>Jc rfl) (JA (fun gh=>Jc rfl) (JA (fun gh=>Es u57 sz22 rfl rfl rfl (by omega) (.s (.s .z))) (JA (fun gh=>EE rfl (.s (.s .z)) (slicesI_get hd1) pl22) (JA (fun gh=>Jc rfl) (JA (fun gh=>Es u22 sz2 rfl rfl rfl (by omega) At.z) (JA (fun gh=>EE rfl At.z ((intsC_get (by simp;omega)).trans (congrArg (fun x=>some (Value.int .i64 x)) hg9)) pl2) (JA (fun gh=>Jc rfl) (JA (fun gh=>EH rfl rfl (nw _ (by omega))) (JA (fun gh=>ED rfl rfl (by decide) rfl) (Eb 15 2 foll0 (by kernel_rfl) rfl rfl fun gh=>(En (us':=(81,_)::(82,_)::(83,_)::(84,_)::(85,_)::(86,_)::(87,_)::(88,_)::(89,_)::(90,_)::(91,_)::(92,_)::(93,_)::(94,_)::(95,_)::_) (L':=_) rfl rfl (Jg (Es u22 sz2 rfl rfl rfl (by omega) At.z) rfl (J.storeWI rfl rfl sz2 (by omega) At.z ?_))))))))))))));refine Jf (Ec (Ef (JF (Ja (hK26 (Jb (Jg (JC rfl rfl (by first | exact nw _ (by omega) | rfl)) rfl (Jg (Jc rfl) rfl (Jf (Ja ?_))))))))));exact hAg2 (k+1) (by omega) (by omega) 22 rfl rfl ⟨rfl,trivial⟩ rfl (by rw [scK_set (by omega)])
     ·
      refine JH (Jl (Jl (JQ (Ja (hK22 (Je fun _ hK28 _=>(Je fun _ hK29 _=>(Jb (Jg (Jc rfl) rfl ?_)))))))))
      have hkW:k=W:=by omega
      rw [hkW]
      have e9:scK (rw_ (swR wk d j) d) (ivZ ((rw_ (swR wk d j) d).getD c 0)) W=(unitS (rw_ wk j)):=by
       have h9:=scK_end hrj hld hcW;rw [hrj.len] at h9;rw [hud];exact h9
      rw [e9];refine J.reL (fun w hH=>hH.tk0 hd1 (by rw [hrj.unit.len,hlu])) ?_;rw [show slicesI vsb (swR wk d j)=slicesI vsb (tkK (swR wk d j) (unitS (rw_ wk j)) d 0) from by rw [tkK_zero,slicesI_row (by rw [hrj.unit.len,hlu])]];have hU:=hrj.unit
      have hUl:ldR (unitS (rw_ wk j))=c:=by rw [unitS_ld hrj (by rw [hld,hrj.len];exact hcW),hld]
      refine Jg (Jm u57 rfl rfl) rfl (Jg (Jc rfl) rfl (Jf (Ja (hK29 (Jn (JE (σ:=Nat) (fun (i:Nat)=>[(100,.int .i64 (i:Int))]) (fun (i:Nat)=>H) (fun (i:Nat)=>rowA 2 vsb (tkK (swR wk d j) (unitS (rw_ wk j)) d i) d::ownIx 2 vsb (tkK (swR wk d j) (unitS (rw_ wk j)) d i) (less1 (fun _=>true) d)::own 22 1 q0 rs.length c0 (slicesI vsb (tkK (swR wk d j) (unitS (rw_ wk j)) d i))::obj g (.cells [.int .i64 (c:Int)].toArray 3 (0,0))::L) (fun (i:Nat)=>i≤wk.length) (fun (i:Nat)=>wk.length - i) 0 (by omega) ⟨rfl,trivial⟩ rfl rfl ?_))))));rintro i hi _ hAg3
      have htl:(tkK (swR wk d j) (unitS (rw_ wk j)) d i).length=wk.length:=by simp
      have htd:d<(tkK (swR wk d j) (unitS (rw_ wk j)) d i).length:=by omega
      have htd2:rw_ (tkK (swR wk d j) (unitS (rw_ wk j)) d i) d=(unitS (rw_ wk j)):=tkK_d hd1;refine Je fun _ hK30 _=>(Jb (Jg (JR rfl rfl) rfl (Jf (Ja (hK30 (Je fun _ hK31 _=>(Jp rfl (fun h101=>?_) (fun h101=>?_))))))))
      ·
       have hik:i<wk.length:=by omega
       have hri:=hru i hik;refine Jo (Ja (hK31 (Je fun _ hK32 _=>(Jn (Je fun _ hK33 _=>(Jb (Jg (Jc rfl) rfl (Jg (Es u57 sz22 rfl rfl rfl (by omega) (.s (.s .z))) rfl (Jg (EE rfl (.s (.s .z)) (slicesI_get (by simpa using hik)) pl22) rfl (Jg (Jd rfl) rfl (Jg (Jd rfl) rfl (Jf (Ja (hK33 (Je fun _ hK34 _=>(Jb ?_))))))))))))))));refine Jg (Jc rfl) rfl (Jg (Jc rfl) rfl (Jg (El rfl rfl) rfl (Jg (Jc rfl) rfl (Ei (jd:=108) rfl (fun h108=>?_) (fun h108=>?_)))))
       ·
        try have h108p:=of_decide_eq_true h108
        have hne:i≠d:=by omega
        have hti:rw_ (tkK (swR wk d j) (unitS (rw_ wk j)) d i) i=rw_ (swR wk d j) i:=tkK_i (by simpa using hik) hne
        have hli:(rw_ (tkK (swR wk d j) (unitS (rw_ wk j)) d i) i).length=W:=by rw [hti];exact hri.len
        refine JX (Jc rfl) rfl rfl rfl h108 (JX (Jy rfl (.s (.s (.s .z))) rfl pl3) rfl rfl rfl h108 (JX (PR.idxX (vs:=vsb) (rs:=(tkK (swR wk d j) (unitS (rw_ wk j)) d i)) (j:=i) (p:=less1 (fun _=>true) d) u22 sz2 rfl rfl rfl (by omega) (by omega) (less1_iff.2 ⟨rfl,hne⟩) (.s .z)) rfl rfl rfl h108 (JX (PR.loadX rfl (.s .z) (by omega) (less1_iff.2 ⟨rfl,hne⟩) (by omega) pl2) rfl rfl rfl h108 (JX (El rfl rfl) rfl rfl rfl h108 (Jg (JZ rfl h108 rfl) rfl (Jf (Ja (hK34 (Jp rfl (fun h114=>?_) (fun h114=>?_))))))))))
        ·
         refine CJ.reL (fun w hH=>(hH.front (.s .z)).pick (j:=i) (by omega) (less1_iff.2 ⟨rfl,hne⟩)) ?_;have hvi2:=hri.val;refine Eo [[], [], [], [1,2], [3], [], [], [5,6], [7]] (by kernel_rfl) (JA (fun gh=>Jc rfl) (JA (fun gh=>Jc rfl) (JA (fun gh=>Jc rfl) (JA (fun gh=>Es u57 sz22 rfl rfl rfl (by omega) (.s (.s (.s .z)))) (JA (fun gh=>EE rfl (.s (.s (.s .z))) (slicesI_get htd) pl22) (JA (fun gh=>Jc rfl) (JA (fun gh=>Jy rfl (.s (.s (.s (.s .z)))) rfl pl3) (JA (fun gh=>Es u22 sz2 rfl rfl rfl (by omega) At.z) (JA (fun gh=>EE rfl At.z (intsC_get (by first | omega | (simp;omega))) pl2) (Eb 9 1 foll0 (by kernel_rfl) rfl rfl fun gh=>(En (us':=(115,_)::(116,_)::(117,_)::(118,_)::(119,_)::(120,_)::(121,_)::(122,_)::(123,_)::_) (L':=_) rfl rfl (Jw fn145 rfl rfl fun w hH=>hH.lend (.s (.s .z)) fun Hl1 hle1 hA1 hB1 hH=>(takeAway_c rfl (own_ints hA1) (by rw [hli,htd2,hU.len]) (by rw [htd2];exact hU.val) (by rw [hti];exact hvi2) (by rw [hti];exact hvi2 c) (by omega) (hH.front .z)).mono ?_))))))))))));rintro _ w ⟨rfl,hH⟩;replace hH:=hB1 _ _ hH;refine ⟨_,rfl,fun a hF=>JL hF hH ?_⟩;refine J.reL (fun w hH=>hH.tkStep hd1 (by simpa using hik) hne (by rw [hti,htd2];unfold oneBy;rw [hUl]) (by simp)) ?_;rw [show slicesI vsb (tkK (swR wk d j) (unitS (rw_ wk j)) d i)=slicesI vsb (tkK (swR wk d j) (unitS (rw_ wk j)) d (i+1)) from by rw [← tkK_set (by simpa using hik) hne,slicesI_row (by rw [hti];unfold oneBy;simp)]];refine Jf (Ec (Ef (JF (Ja (hK32 (Jb (Jg (JC rfl rfl (by first | exact nw _ (by omega) | rfl)) rfl (Jg (Jc rfl) rfl (Jf (Ja ?_))))))))));exact hAg3 (i+1) (by omega) (by omega) 29 rfl rfl ⟨rfl,trivial⟩ rfl rfl
        ·
         refine Jo (JF (Ja (hK32 (Jb (Jg (JC rfl rfl (by first | exact nw _ (by omega) | rfl)) rfl (Jg (Jc rfl) rfl (Jf (Ja ?_))))))));exact hAg3 (i+1) (by omega) (by omega) 19 rfl rfl ⟨rfl,trivial⟩ rfl (by rw [tkK_same (fun h1 h2=>oneBy_zero hri hU (by rw [hUl,← hti];exact Decidable.not_not.1 h114))])
       ·
        try have h108p:=of_decide_eq_false h108
        refine JU rfl rfl rfl h108 (JU rfl rfl rfl h108 (JU rfl rfl rfl h108 (JU rfl rfl rfl h108 (JU rfl rfl rfl h108 (Jg (JW rfl h108 rfl) rfl (Jf (Ja (hK34 (Et rfl (Jo (JF (Ja (hK32 (Jb (Jg (JC rfl rfl (by first | exact nw _ (by omega) | rfl)) rfl (Jg (Jc rfl) rfl ?_))))))))))))))));refine Jf (Ja ?_);exact hAg3 (i+1) (by omega) (by omega) 19 rfl rfl ⟨rfl,trivial⟩ rfl (by rw [tkK_same (fun _ h2=>absurd (by omega:i=d) h2)])
      ·
       refine JH (Jl (Jl (JQ (Ja (hK28 (Jb (Jg (Jc rfl) rfl ?_)))))))
       obtain rfl:i=wk.length:=by omega
       refine J.reL (fun w hH=>hH.tkPut (by simpa using hdl)) (Jg (JC rfl rfl (by first | exact nw _ (by omega) | rfl)) rfl (Jg (Jd rfl) rfl (Jf (JF (Ja (hK14 (Je fun _ hK35 _=>(Je fun _ hK36 _=>(Jb (Jg (Jy rfl (.s (.s .z)) rfl pl3) rfl (Jf (Ja (hK36 (Jb (JV ze3 rfl fun g7=>(Ez rfl rfl rfl rfl sz3 (by simp [*]) At.z ?_))))))))))))))));refine Jf (Ja (hK35 (Jb (Jg (Jy rfl At.z rfl pl3) rfl (Jg (JC rfl rfl (by first | exact nw _ (by omega) | rfl)) rfl (Ez rfl rfl rfl rfl sz3 (by simp [*]) At.z (Jf (Ja (JK (.s (.s (.s .z))) (Jr (.s (.s .z)) (Jr (.s .z) (Jr (.s (.s .z)) ?_))))))))))));exact hAg1 (vsb,(tkK (swR wk d j) (unitS (rw_ wk j)) d wk.length),d+1,c+1,g7) ⟨hG.round hj hjl hq,by simpa using hwl⟩ (by show W - (c+1)<W - c;omega) 69 rfl rfl ⟨rfl,⟨rfl,trivial⟩⟩ rfl rfl
   ·
    refine JH (Jl (Jl (JQ (Ja (hK10 (Je fun _ hK37 _=>(Jb (Jg (Jc rfl) rfl (J.know (fun w hH=>own_le (hH.objs (own 22 1 q0 rs.length c0 (slicesI vs wk)) (by simp)).1) fun hcap=>(Jg (Jc rfl) rfl (Jg (PR.sliceHi (i':=d) u57 sz22 rfl rfl rfl (by omega)) rfl (Jg (Jd rfl) rfl (Jf (Ja (hK37 (Js ?_))))))))))))))));refine Jq rfl (Res.tmp rfl) fun w hH=>?_;replace hH:=hH.sublist (.cons_cons _ (.cons _ (.cons_cons _ (List.Sublist.refl _))));have hdn:=hG.done hW (.inr (by have:=(hG.row 0 (by omega)).len;omega));have hl9:(wk.take d).length=d:=List.length_take_of_le hGd;rw [← hdn];have h8:=(((hH.takeIx hGd).ofIx).front (.s .z)).ownTake (m':=d) (by omega);rw [slicesI_take] at h8;exact ⟨q0,c0,vs,by rw [hl9],by unfold ownRs;rw [hl9];exact h8.star⟩
  ·
   try have hg30p:=of_decide_eq_false hg30
   refine JS.gn rfl rfl rfl hg30 (JS.gn rfl rfl rfl hg30 (JS.gn rfl rfl rfl hg30 (JS.gn rfl rfl rfl hg30 (JS.gn rfl rfl rfl hg30 (JS.gn rfl rfl rfl hg30 (JD (JW rfl hg30 rfl) rfl (Ef (Ja (hK13 (Et rfl (JH (Jl (Jl (JQ (Ja (hK10 ?_))))))))))))))));refine Je fun _ hK38 _=>(Jb (Jg (Jc rfl) rfl (J.know (fun w hH=>own_le (hH.objs (own 22 1 q0 rs.length c0 (slicesI vs wk)) (by simp)).1) fun hcap=>(Jg (Jc rfl) rfl (Jg (PR.sliceHi (i':=d) u57 sz22 rfl rfl rfl (by omega)) rfl (Jg (Jd rfl) rfl (Jf (Ja (hK38 (Js (Jq rfl (Res.tmp rfl) fun w hH=>?_)))))))))));replace hH:=hH.sublist (.cons_cons _ (.cons _ (.cons_cons _ (List.Sublist.refl _))));have hdn:=hG.done hW (.inl (by omega));have hl9:(wk.take d).length=d:=List.length_take_of_le hGd;rw [← hdn];have h8:=(((hH.takeIx hGd).ofIx).front (.s .z)).ownTake (m':=d) (by omega);rw [slicesI_take] at h8;exact ⟨q0,c0,vs,by rw [hl9],by unfold ownRs;rw [hl9];exact h8.star⟩
theorem fn93:Fn Tryz.prog 93:=⟨_,Tryz.func93,by kernel_rfl,rfl⟩
theorem rankOf_c {B:World} {H0 H:HP} {L:List SA} {w:World} {qrs:Option Addr} {crs:Nat} {rs:List (List Int)} {W:Nat} (hrs:RowsR H qrs rs) (hW : ∀r∈rs,RowOk W r) (hn:rs.length≤1048576) (hWn:W≤1048576) (hH:Hp B H0 H L w):Calls Tryz.prog 86 [.slice qrs rs.length crs].toArray w fun e w'=>e = .returned (.int .i64 ((redS rs).length:Int))∧Hp B H0 H L w':=by
 refine Jz Tryz.func86 rfl 6 rfl rfl [(0,.slice qrs rs.length crs)] rfl hH ?_;clear hH;refine Je fun _ hK1 _=>(Jb (Jg (Jd rfl) rfl (Jf (Ja (hK1 (Je fun _ hK2 _=>(Jb (Jg (Jc rfl) rfl (Jw fn93 rfl rfl fun w hH=>(reduce_c hrs hW hn hWn hH).mono ?_)))))))));rintro _ w ⟨qo4,co4,vso4,rfl,hH⟩;refine ⟨_,rfl,fun a hF=>JL hF hH ?_⟩;refine Jg (Jm u57 rfl rfl) rfl (Jg (Jd rfl) rfl (Jf (Ja (hK2 (Js (Jq rfl (Res.tmp rfl) fun w hH=>?_))))));replace hH:=hH.tail;exact ⟨rfl,hH⟩
theorem reduceBy_c {B:World} {H0 H:HP} {L:List SA} {w:World} {qrow:Option Addr} {crow:Nat} {row:List Int} {qrs:Option Addr} {crs:Nat} {rs:List (List Int)} {W:Nat} (hrow:Ints H qrow row) (hrs:RowsR H qrs rs) (hw:RowOk W row) (hW : ∀r∈rs,RowOk W r∧ldR r<W) (hn:rs.length≤1048576) (hWn:W≤1048576) (hH:Hp B H0 H L w):Calls Tryz.prog 116 [.slice qrow row.length crow,.slice qrs rs.length crs].toArray w fun e w'=>∃q c,e = .returned (.slice q (byS row rs).length c)∧Hp B H0 H (own 2 1 q (byS row rs).length c (intsC (byS row rs))::L) w':=by
 refine Jz Tryz.func116 rfl 25 rfl rfl [(0,.slice qrow row.length crow),(1,.slice qrs rs.length crs)] rfl hH ?_;clear hH;have hwl:=hw.len;refine Je fun _ hK1 _=>(Jb (Jg (Jd rfl) rfl (Jf (Ja (hK1 (Je fun _ hK2 _=>(Jb (Jg (Jc rfl) rfl (Jw fn141 rfl rfl fun w hH=>(CloneI_c hrow (by omega) hH).mono ?_)))))))));rintro _ w ⟨qo8,co8,rfl,hH⟩;refine ⟨_,rfl,fun a hF=>JL hF hH ?_⟩;refine Jg (Jd rfl) rfl (Jf (Ja (hK2 (Je fun _ hK3 _=>(Je fun _ hK4 _=>(Jb (Jg (Jc rfl) rfl (Jg (Jm u57 rfl rfl) rfl (Jg (Jc rfl) rfl (Jf (Ja (hK4 (Jn (JE (σ:=Nat) (fun (k:Nat)=>[(11,.int .i64 (k:Int))]) (fun (k:Nat)=>H) (fun (k:Nat)=>own 2 1 qo8 row.length co8 (intsC (byS row (rs.take k)))::L) (fun (k:Nat)=>k≤rs.length) (fun (k:Nat)=>rs.length - k) 0 (by omega) ⟨rfl,trivial⟩ rfl rfl ?_))))))))))))));rintro k hk _ hAg0;refine Je fun _ hK5 _=>(Jb (Jg (JR rfl rfl) rfl (Jf (Ja (hK5 (Je fun _ hK6 _=>(Jp rfl (fun h12=>?_) (fun h12=>?_))))))))
 ·
  have hrk:=hW _ (rw_mem (show k<rs.length by omega));have hbk:=byS_ok (B:=rs.take k) hw (fun r hr=>(hW r (List.mem_of_mem_take hr)).1);have hbl:=hbk.len;have hrl:=hrk.1.len;have hld:=idxOf_ld (r:=rw_ rs k) (by omega);have hbv:=hbk.val (ldR (rw_ rs k));refine Jo (Ja (hK6 (Je fun _ hK7 _=>(Jn (Je fun _ hK8 _=>(Jb (Jg (JP u57 sz22 rfl rfl rfl (by omega) hrs.sm) rfl ?_)))))));obtain ⟨qe14,ce14,he14,le14,Fe14⟩:=hrs k (by omega);refine Jg (JB rfl he14 pl22) rfl (Jg (Jd rfl) rfl (Jf (Ja (hK8 (Jb (Jg (Jc rfl) rfl (Jg (Jc rfl) rfl (Jg (Jc rfl) rfl (Jg (Jc rfl) rfl (Jw fn125 rfl rfl fun w hH=>(lead_c Fe14 (by omega) hH).mono ?_))))))))));rintro _ w ⟨rfl,hH⟩;refine ⟨_,rfl,fun a hF=>JL hF hH ?_⟩;rw [hld];refine Jg (Es (i':=ldR (rw_ rs k)) u22 sz2 rfl rfl rfl (by omega) At.z) rfl (Jg (EE rfl At.z (intsC_get (by omega)) pl2) rfl (Jw fn145 rfl rfl fun w hH=>(takeAway_c (by rw [hbl,hwl]) Fe14 (by rw [hbl,hrl]) hrk.1.val hbk.val hbv (by omega) (hH.front .z)).mono ?_));rintro _ w ⟨rfl,hH⟩;refine ⟨_,rfl,fun a hF=>JL hF hH ?_⟩;refine Jf (JF (Ja (hK7 (Jb (Jg (JC rfl rfl (by first | exact nw _ (by omega) | rfl)) rfl (Jg (Jc rfl) rfl (Jf (Ja ?_))))))));exact hAg0 (k+1) (by omega) (by omega) 15 rfl rfl ⟨rfl,trivial⟩ rfl (by rw [byS_take (by omega)];rfl)
 ·
  refine JH (Jl (Jl (JQ (Ja (hK3 (Je fun _ hK9 _=>(Jb (Jg (Jc rfl) rfl (Jg (Jd rfl) rfl (Jf (Ja (hK9 (Js (Jq rfl (Res.tmp rfl) fun w hH=>?_))))))))))))));replace hH:=hH.sublist (.cons_cons _ (List.Sublist.refl _))
  obtain rfl:k=rs.length:=by omega
  have hl9:=(byS_ok hw (fun r hr=>(hW r hr).1)).len;rw [List.take_length] at hH;exact ⟨qo8,co8,by rw [hl9,hwl],by rw [hl9,← hwl];exact hH⟩
theorem fn115:Fn Tryz.prog 115:=⟨_,Tryz.func115,by kernel_rfl,rfl⟩
theorem fn166:Fn Tryz.prog 166:=⟨_,Tryz.func166,by kernel_rfl,rfl⟩
theorem Concat_2 {B:World} {H0 H:HP} {L:List SA} {w:World} {q:Option Addr} {c:Nat} {xs ys:List Int} (h:RowsR H q [xs,ys]) (hn:xs.length+ys.length≤1000000) (hH:Hp B H0 H L w):Calls Tryz.prog 166 [.slice q 2 c].toArray w fun e w'=>∃q c,e = .returned (.slice q (xs++ys).length c)∧Hp B H0 H (own 2 1 q (xs++ys).length c (intsC (xs++ys))::L) w':=by
 have h1:=ConcatI_c (crs:=c) (rs:=[xs,ys]) h (by simp) (by simp [totI];omega) hH
 have e:[xs,ys].flatten=xs++ys:=by simp
 rw [e] at h1;exact h1
def uniR (n k:Nat):List Int:=(List.replicate n 0).set k 1
@[simp] theorem uniR_len (n k:Nat):(uniR n k).length=n:=by simp [uniR]
theorem uniR_get {n k j:Nat}:(uniR n k).getD j 0=if k=j∧k<n then 1 else 0:=by
 unfold uniR;rw [getD_set8,rep_get,List.length_replicate]
theorem uniR_ok {n k:Nat}:RowOk n (uniR n k):=⟨by simp,fun j=>by rw [uniR_get];split <;> omega⟩
theorem app_get {a b:List Int} {j:Nat}:(a++b).getD j 0=if j<a.length then a.getD j 0 else b.getD (j - a.length) 0:=by
 rw [List.getD_eq_getElem?_getD,List.getElem?_append]
 split <;> rw [List.getD_eq_getElem?_getD]
theorem RowOk.app {V W:Nat} {a b:List Int} (ha:RowOk V a) (hb:RowOk W b):RowOk (V+W) (a++b):=⟨by rw [List.length_append,ha.len,hb.len],fun j=>by
 rw [app_get]
 split
 ·exact ha.val _
 ·exact hb.val _⟩
theorem RowOk.drop {V W:Nat} {a:List Int} (ha:RowOk (V+W) a):RowOk W (a.drop V):=⟨by rw [List.length_drop,ha.len];omega,fun j=>by
 have e:(a.drop V).getD j 0=a.getD (V+j) 0:=by simp [List.getD_eq_getElem?_getD,List.getElem?_drop]
 rw [e]
 exact ha.val _⟩
def wdK (rs:List (List Int)) (n k:Nat):List (List Int):=(List.range k).map fun i=>rw_ rs i++uniR n i
theorem wdK_len (rs:List (List Int)) (n k:Nat):(wdK rs n k).length=k:=by simp [wdK]
theorem wdK_succ (rs:List (List Int)) (n k:Nat):wdK rs n (k+1)=wdK rs n k++[rw_ rs k++uniR n k]:=by
 unfold wdK;rw [List.range_succ,List.map_append]
 rfl
def wdS (rs:List (List Int)) (n:Nat):List (List Int):=wdK rs n rs.length
theorem wdS_ok {W n:Nat} {rs:List (List Int)} (h : ∀r∈rs,RowOk W r) : ∀r∈wdS rs n,RowOk (W+n) r:=fun r hr=>by
 obtain ⟨i,hi,rfl⟩:=List.mem_map.1 hr
 exact (h _ (rw_mem (List.mem_range.1 hi))).app uniR_ok
def fzK (R:List (List Int)) (W m:Nat):List (List Int):=((R.take m).filter fun r=>zR (r.take W)).map fun r=>r.drop W
def fzS (R:List (List Int)) (W:Nat):List (List Int):=(R.filter fun r=>zR (r.take W)).map fun r=>r.drop W
theorem fzK_end (R:List (List Int)) (W:Nat):fzK R W R.length=fzS R W:=by unfold fzK;rw [List.take_length];rfl
theorem fzK_yes {R:List (List Int)} {W m:Nat} (hm:m<R.length) (h:zR ((rw_ R m).take W)=true):fzK R W (m+1)=fzK R W m++[(rw_ R m).drop W]:=by
 unfold fzK;rw [rw_take hm,List.filter_append,List.map_append]
 simp [h]
theorem fzK_no {R:List (List Int)} {W m:Nat} (hm:m<R.length) (h:zR ((rw_ R m).take W)=false):fzK R W (m+1)=fzK R W m:=by
 unfold fzK;rw [rw_take hm,List.filter_append,List.map_append]
 simp [h]
theorem fzK_len (R:List (List Int)) (W:Nat) : ∀m,(fzK R W m).length≤m:=fun m=>by
 unfold fzK
 rw [List.length_map]
 exact Nat.le_trans (List.length_filter_le _ _) (List.length_take_le _ _)
theorem fzS_ok {V W:Nat} {R:List (List Int)} (h : ∀r∈R,RowOk (V+W) r) : ∀r∈fzS R V,RowOk W r:=fun r hr=>by
 obtain ⟨s,hs,rfl⟩:=List.mem_map.1 hr
 exact (h s (List.mem_filter.1 hs).1).drop
def kerS (rs:List (List Int)) (W:Nat):List (List Int):=redS (fzS (redS (wdS rs rs.length)) W)
theorem Red.count {W:Nat} {R:List (List Int)} (h:Red W R):R.length≤W:=by
 have key : ∀(l:List (List Int)) (lo:Nat),(∀r∈l,lo≤ldR r∧ldR r<W)→l.Pairwise (fun r s=>ldR r<ldR s)→l.length+lo≤W∨l=[]:=by
  intro l
  induction l with
  | nil=>intro _ _ _;exact .inr rfl
  | cons r l ih=>
   intro lo h1 h2
   left
   have h3:=List.pairwise_cons.1 h2;have h4:=h1 r (by simp)
   rcases ih (lo+1) (fun s hs=>⟨by have:=h3.1 s hs;omega,(h1 s (by simp [hs])).2⟩) h3.2 with h5 | h5
   ·simp only [List.length_cons];omega
   ·subst h5;simp only [List.length_cons,List.length_nil];omega
 rcases key R 0 (fun r hr=>⟨by omega,(h.one r hr).1⟩) h.srt with h1 | h1
 ·omega
 ·rw [h1];simp
theorem kernel_c {B:World} {H0 H:HP} {L:List SA} {w:World} {qrs:Option Addr} {crs:Nat} {rs:List (List Int)} {W:Nat} (hrs:RowsR H qrs rs) (hW : ∀r∈rs,RowOk W r) (hn:rs.length≤400000) (hWn:W≤400000) (hH:Hp B H0 H L w):Calls Tryz.prog 123 [.slice qrs rs.length crs,.int .i64 (W:Int)].toArray w fun e w'=>∃q c vs,e = .returned (.slice q (kerS rs W).length c)∧Hp B H0 H (ownRs 22 2 q c vs (kerS rs W)::L) w':=by
 refine Jz Tryz.func123 rfl 57 rfl rfl [(0,.slice qrs rs.length crs),(1,.int .i64 (W:Int))] rfl hH ?_;have hw0:=hH.old;have hw1:=hH.le;clear hH;refine Je fun _ hK1 _=>(Jb (Jg (Jd rfl) rfl (Jf (Ja (hK1 (Je fun _ hK2 _=>(Jb (Jg (Jc rfl) rfl (Jg (Jm u57 rfl rfl) rfl (EK (EP u57 sz22) rfl fun qo15 co15=>(Jg (Jd rfl) rfl (Jg (Jd rfl) rfl (Jf (Ja (hK2 (Je fun _ hK3 _=>?_))))))))))))))));refine Je fun _ hK4 _=>(Jb (Jg (Jc rfl) rfl (Jg (Jm u57 rfl rfl) rfl (Jg (Jc rfl) rfl (Jf (Ja (hK4 (Jn (JE (σ:=HP × Option Addr × Nat × List Value × Nat) (fun ⟨Hk,q,c,vals,k⟩=>[(18,.int .i64 (k:Int)),(6,.slice q k c)]) (fun ⟨Hk,q,c,vals,k⟩=>Hk) (fun ⟨Hk,q,c,vals,k⟩=>own 22 1 q k c vals::L) (fun ⟨Hk,q,c,vals,k⟩=>Le H Hk∧SlF Hk vals (wdK rs rs.length k)∧k≤rs.length) (fun ⟨Hk,q,c,vals,k⟩=>rs.length - k) (H,qo15,co15, [],0) ⟨Le.refl _,SlF.nil _,by omega⟩ ⟨rfl,⟨rfl,trivial⟩⟩ rfl rfl ?_)))))))));rintro ⟨Hk,q,c,vals,k⟩ ⟨hlk,hS,hk⟩ _ hAg0;replace hrs:=hrs.le hlk;refine Je fun _ hK5 _=>(Jb (Jg (JR rfl rfl) rfl (Jf (Ja (hK5 (Je fun _ hK6 _=>(Jp rfl (fun h19=>?_) (fun h19=>?_))))))))
 ·
  have hrk:=(hW _ (rw_mem (show k<rs.length by omega))).len;refine Jo (Ja (hK6 (Je fun _ hK7 _=>(Jn (Je fun _ hK8 _=>(Jb (Jg (Jc rfl) rfl (Jg (JP u57 sz22 rfl rfl rfl (by omega) hrs.sm) rfl ?_))))))));obtain ⟨qe22,ce22,he22,le22,Fe22⟩:=hrs k (by omega);refine Jg (JB rfl he22 pl22) rfl (Jg (Jd rfl) rfl (Jg (Jd rfl) rfl (Jf (Ja (hK8 (Je fun _ hK9 _=>(Jb (Jg (Jc rfl) rfl (EK (MK.makeI (m:=rs.length) u22 ze2 sz2 by2 rfl rfl rfl rfl (by omega)) rfl fun qo24 co24=>(Jg (Jd rfl) rfl (Jf (Ja (hK9 (Je fun _ hK10 _=>(Jb (Jg (Jc rfl) rfl ?_))))))))))))))));refine Jg (Jc rfl) rfl (Jg (Es u22 sz2 rfl rfl rfl (by simp;omega) At.z) rfl (J.storeWI rfl rfl sz2 (by simp;omega) At.z (EA .z fun Ho24 hleo24 hAo24=>?_)));replace hrs:=hrs.le hleo24;replace hS:=hS.le hleo24;replace Fe22:=Fe22.le hleo24;have hxo24:=own_ints hAo24;have hco24:=own_le hAo24;refine Jf (Ja (hK10 (Jb (Jg (Jc rfl) rfl (Jg (Jc rfl) rfl (Jg (EN (v':=.slice qo24 (uniR rs.length k).length co24) (by rw [uniR_len,List.length_replicate]) (Jc rfl)) rfl (J.lit2 u57 ze22 sz22 rfl rfl rfl rfl rfl fun g31=>(EA .z fun H31 hle31 hA31=>?_))))))));replace hrs:=hrs.le hle31;replace hS:=hS.le hle31;replace Fe22:=Fe22.le hle31;replace hxo24:=hxo24.le hle31;have hxu:Ints H31 qo24 (uniR rs.length k):=hxo24;have hx31:=obj_rows2 hA31 Fe22 hxu le22 (by rw [uniR_len];simpa using hco24);refine Jw fn166 rfl rfl fun w hH=>(Concat_2 (xs:=rw_ rs k) (ys:=uniR rs.length k) hx31 (by rw [uniR_len];omega) hH).mono ?_;rintro _ w ⟨qo32,co32,rfl,hH⟩;refine ⟨_,rfl,fun a hF=>JL hF hH ?_⟩;refine EA .z fun Ho32 hleo32 hAo32=>?_;replace hrs:=hrs.le hleo32;replace hS:=hS.le hleo32;replace Fe22:=Fe22.le hleo32;replace hxo24:=hxo24.le hleo32;replace hx31:=hx31.le hleo32;have hxo32:=own_ints hAo32;have hco32:=own_le hAo32;refine EK (EM u57 ze22 sz22 rfl rfl) rfl fun qo33 co33=>(EF u57 ze22 sz22 by22 rfl rfl rfl rfl (by omega) .z At.z (fun _ _=>At.z) rfl fun qo34 co34=>?_);have hS2:=hS.snoc hxo32 rfl hco32;refine Jg (Jd rfl) rfl (Jf (JF (Ja (hK7 (Jb (Jg (JC rfl rfl (by first | exact nw _ (by omega) | rfl)) rfl (Jg (Jc rfl) rfl (Jf (Ja (JK .z ?_))))))))));exact hAg0 (Ho32,qo34,co34,_,k+1) ⟨(((hlk.trans hleo24).trans hle31).trans hleo32),by rw [wdK_succ];exact hS2,by omega⟩ (by show rs.length - (k+1)<rs.length - k;omega) 24 rfl rfl ⟨rfl,⟨rfl,trivial⟩⟩ rfl rfl
 ·
  refine JH (Jl (Jl (JQ (Ja (hK3 (Je fun _ hK11 _=>(Jb (EK (EP u57 sz22) rfl fun qo36 co36=>?_))))))))
  obtain rfl:k=rs.length:=by omega
  have hRR:=(redS_ok (wdS_ok (n:=rs.length) hW)).1;have hRc:=hRR.count;refine Jg (Jd rfl) rfl (Jf (Ja (hK11 (Je fun _ hK12 _=>(Je fun _ hK13 _=>(Jb (Jg (EN (v':=.slice q (wdS rs rs.length).length c) (by rw [show (wdS rs rs.length).length=rs.length from wdK_len _ _ _]) (Jc rfl)) rfl (EA (.s .z) fun Ho15 hleo15 hAo15=>?_))))))));replace hrs:=hrs.le hleo15;replace hS:=hS.le hleo15;have hxo15:=hS.rows (Le.refl _) hAo15;have hco15:=own_le hAo15;rw [show wdK rs rs.length rs.length=wdS rs rs.length from rfl] at hxo15;refine Jw fn93 rfl rfl fun w hH=>(reduce_c (W:=W+rs.length) hxo15 (wdS_ok hW) (by rw [show (wdS rs rs.length).length=rs.length from wdK_len _ _ _];omega) (by omega) hH).mono ?_;rintro _ w ⟨qo38,co38,vso38,rfl,hH⟩;refine ⟨_,rfl,fun a hF=>JL hF hH ?_⟩;refine EA .z fun Ho38 hleo38 hAo38=>?_;replace hrs:=hrs.le hleo38;replace hS:=hS.le hleo38;replace hxo15:=hxo15.le hleo38;have hxo38:=own_rows hAo38;have hco38:=own_le hAo38.1;refine Jg (Jm u57 rfl rfl) rfl (Jg (Jc rfl) rfl (Jf (Ja (hK13 (Jn (JE (σ:=HP × Option Addr × Nat × List Value × Nat) (fun ⟨Hm,q2,c2,vals2,m⟩=>[(40,.int .i64 (m:Int)),(10,.slice q2 (fzK (redS (wdS rs rs.length)) W m).length c2)]) (fun ⟨Hm,q2,c2,vals2,m⟩=>Hm) (fun ⟨Hm,q2,c2,vals2,m⟩=>own 22 1 q2 (fzK (redS (wdS rs rs.length)) W m).length c2 vals2::L) (fun ⟨Hm,q2,c2,vals2,m⟩=>Le Ho38 Hm∧SlF Hm vals2 (fzK (redS (wdS rs rs.length)) W m)∧m≤(redS (wdS rs rs.length)).length) (fun ⟨Hm,q2,c2,vals2,m⟩=>(redS (wdS rs rs.length)).length - m) (Ho38,qo36,co36, [],0) ⟨Le.refl _,SlF.nil _,by omega⟩ ⟨rfl,⟨rfl,trivial⟩⟩ rfl rfl ?_))))));rintro ⟨Hm,q2,c2,vals2,m⟩ ⟨hlm,hT,hm⟩ _ hAg1;replace hrs:=hrs.le hlm;replace hS:=hS.le hlm;replace hxo15:=hxo15.le hlm;replace hxo38:=hxo38.le hlm;refine Je fun _ hK14 _=>(Jb (Jg (JR rfl rfl) rfl (Jf (Ja (hK14 (Je fun _ hK15 _=>(Jp rfl (fun h41=>?_) (fun h41=>?_))))))))
  ·
   have hrm:=hRR.row _ (rw_mem (show m<(redS (wdS rs rs.length)).length by omega));have hrl:=hrm.len;have hfl:=fzK_len (redS (wdS rs rs.length)) W m
   have hn0:0<rs.length:=by
    rcases Nat.eq_zero_or_pos rs.length with h0 | h0
    ·exfalso
     obtain rfl:rs=[]:=List.length_eq_zero_iff.1 h0;exact absurd h41 (by simp [wdS,wdK,redS])
    ·exact h0
   refine Jo (Ja (hK15 (Je fun _ hK16 _=>(Jn (Je fun _ hK17 _=>(Jb (Jg (JP u57 sz22 rfl rfl rfl (by omega) hxo38.sm) rfl ?_)))))));obtain ⟨qe43,ce43,he43,le43,Fe43⟩:=hxo38 m (by omega);refine Jg (JB rfl he43 pl22) rfl (Jg (Jd rfl) rfl (Jf (Ja (hK17 (Je fun _ hK18 _=>(Jb (Jg (Jc rfl) rfl (Jg (Jc rfl) rfl (Jg (EN (v':=.slice qe43 ((rw_ (redS (wdS rs rs.length)) m).take W).length ce43) (by rw [List.length_take_of_le (by omega)]) (PR.sliceHi (i':=W) u22 sz2 rfl rfl rfl (by omega))) rfl (Jw fn115 rfl rfl fun w hH=>(isZero_c (ints_pre Fe43 W) (by rw [List.length_take_of_le (by omega)];omega) hH).mono ?_))))))))));rintro _ w ⟨rfl,hH⟩;refine ⟨_,rfl,fun a hF=>JL hF hH ?_⟩;refine Jf (Ja (hK18 (Eg rfl (fun h47=>?_) (fun h47=>?_))))
   ·
    refine Jb (Jg (Jc rfl) rfl (Jg (Jc rfl) rfl (Jg (Jc rfl) rfl (Jg (PR.sliceLH (i':=W) u22 sz2 rfl (Fe43.sm (i:=0) (by omega)) rfl rfl (by omega) (by omega)) rfl (EK (EM u57 ze22 sz22 rfl rfl) rfl fun qo52 co52=>(EF u57 ze22 sz22 by22 rfl rfl rfl rfl (by omega) .z At.z (fun _ _=>At.z) rfl fun qo53 co53=>?_))))));have hT3:=hT.snoc (ints_drop Fe43 W) (m:=(rw_ (redS (wdS rs rs.length)) m).length - W) (c:=ce43 - W) (by rw [List.length_drop]) (by omega);refine Jg (Jd rfl) rfl (Jf (JF (Ja (hK16 (Jb (Jg (JC rfl rfl (by first | exact nw _ (by omega) | rfl)) rfl (Jg (Jc rfl) rfl (Jf (Ja (JK .z ?_))))))))));exact hAg1 (Hm,qo53,co53,_,m+1) ⟨hlm,by rw [fzK_yes (by omega) h47];exact hT3,by omega⟩ (by show (redS (wdS rs rs.length)).length - (m+1)<(redS (wdS rs rs.length)).length - m;omega) 19 rfl rfl ⟨rfl,⟨(by rw [fzK_yes (by omega) h47,List.length_append];rfl),trivial⟩⟩ rfl (by dsimp only;rw [fzK_yes (by omega) h47,List.length_append];rfl)
   ·
    refine Jo (JF (Ja (hK16 (Jb (Jg (JC rfl rfl (by first | exact nw _ (by omega) | rfl)) rfl (Jg (Jc rfl) rfl (Jf (Ja ?_))))))));exact hAg1 (Hm,q2,c2,vals2,m+1) ⟨hlm,by rw [fzK_no (by omega) h47];exact hT,by omega⟩ (by show (redS (wdS rs rs.length)).length - (m+1)<(redS (wdS rs rs.length)).length - m;omega) 12 rfl rfl ⟨rfl,⟨(by rw [fzK_no (by omega) h47];rfl),trivial⟩⟩ rfl (by dsimp only;rw [fzK_no (by omega) h47])
  ·
   refine JH (Jl (Jl (JQ (Ja (hK12 (Je fun _ hK19 _=>(Jb (Jg (EN (v':=.slice q2 (fzS (redS (wdS rs rs.length)) W).length c2) (by rw [← fzK_end,show m=(redS (wdS rs rs.length)).length by omega]) (Jc rfl)) rfl ?_))))))))
   have hT4:SlF Hm vals2 (fzS (redS (wdS rs rs.length)) W):=by
    rw [show m=(redS (wdS rs rs.length)).length by omega,fzK_end] at hT;exact hT
   refine EA .z fun Ho36 hleo36 hAo36=>?_;replace hrs:=hrs.le hleo36;replace hS:=hS.le hleo36;replace hxo15:=hxo15.le hleo36;replace hxo38:=hxo38.le hleo36;replace hT:=hT.le hleo36;replace hT4:=hT4.le hleo36;have hxo36:=hT4.rows (Le.refl _) hAo36;have hco36:=own_le hAo36;refine Jw fn93 rfl rfl fun w hH=>(reduce_c (W:=rs.length) hxo36 (fzS_ok hRR.row) (by have:=fzK_len (redS (wdS rs rs.length)) W (redS (wdS rs rs.length)).length;rw [fzK_end] at this;omega) (by omega) hH).mono ?_;rintro _ w ⟨qo56,co56,vso56,rfl,hH⟩;refine ⟨_,rfl,fun a hF=>JL hF hH ?_⟩;refine Jg (Jd rfl) rfl (Jf (Ja (hK19 (Js (Jq rfl (Res.tmp rfl) fun w hH=>?_)))));replace hH:=hH.sublist (.cons_cons _ (List.Sublist.refl _));exact ⟨_,_,_,rfl,hH.weaken ((((hlk.trans hleo15).trans hleo38).trans hlm).trans hleo36) hw0 hw1⟩
theorem u229:Tryz.prog.underlying 229=some (TypeDesc.struct #[{name:="degrees",type:=22,offset:=0,embedded:=false,tag:="",pkgPath:="loop.example/g01219/impl",byteOffset:=0},{name:="most",type:=3,offset:=1,embedded:=false,tag:="",pkgPath:="loop.example/g01219/impl",byteOffset:=24},{name:="out",type:=92,offset:=2,embedded:=false,tag:="",pkgPath:="loop.example/g01219/impl",byteOffset:=32}]):=by kernel_rfl
theorem u92:Tryz.prog.underlying 92=some (TypeDesc.slice 160):=by kernel_rfl
theorem sz92:Size Tryz.prog 92 1:=by unfold Size;kernel_rfl
theorem by160:Bytes Tryz.prog 160 64:=by unfold Bytes;kernel_rfl
theorem pl92:Plain Tryz.prog 92:=⟨_,u92,rfl⟩
theorem fn193:Fn Tryz.prog 193:=⟨_,Tryz.func193,by kernel_rfl,rfl⟩
def capL (M:Nat) (a b:List Pw):List Pw:=a++b.take (M - a.length)
theorem capL_nil (M:Nat) (a:List Pw):capL M a []=a:=by simp [capL]
theorem capL_full {M:Nat} {a:List Pw} (h:M≤a.length) (b:List Pw):capL M a b=a:=by unfold capL;rw [show M - a.length=0 by omega,List.take_zero,List.append_nil]
theorem capL_app (M:Nat) (a b c:List Pw):capL M (capL M a b) c=capL M a (b++c):=by
 unfold capL;rw [List.append_assoc,List.take_append,List.length_append,List.length_take]
 congr 3
 omega
theorem capL_len {M:Nat} {a b:List Pw} (h:a.length≤M):(capL M a b).length≤M:=by
 unfold capL;rw [List.length_append,List.length_take]
 omega
theorem capL_one {M:Nat} {a:List Pw} (h:a.length<M) (p:Pw):capL M a [p]=a++[p]:=by
 unfold capL;rw [List.take_of_length_le (by simp;omega)]
theorem capL_zero (M:Nat) (b:List Pw):capL M [] b=b.take M:=by simp [capL]
theorem enum_end {ds:List Int} {i:Nat} {m:Pw} {n:Int} (hi:i=ds.length):enumF (ds.drop i) i m n=if n=0 then [m] else []:=by
 subst hi;rw [List.drop_length]
 rfl
abbrev enS (ds:List Int) (i:Nat) (m:Pw) (n:Int):List Pw:=enumF (ds.drop i) i m n
def enG (ds:List Int) (i:Nat) (m:Pw) (n e:Int):List Pw:=enS ds (i+1) (m.set i e) (n - e * ds.getD i 0)
theorem enum_go {ds:List Int} {i:Nat} {m:Pw} {n:Int} (hi:i<ds.length):enS ds i m n=(dnL (topM (ds.getD i 0) n)).flatMap (enG ds i m n):=by
 unfold enS enG;rw [List.drop_eq_getElem_cons hi]
 have:ds.getD i 0=ds[i]:=by simp [List.getD_eq_getElem?_getD,List.getElem?_eq_getElem hi]
 rw [this]
 rfl
theorem enG_set {ds:List Int} {i:Nat} {m mm:Pw} {n e:Int} (h : ∀v:Int,mm.set i v=m.set i v):enS ds (i+1) (mm.set i e) (n - e * ds.getD i 0)=enG ds i m n e:=by unfold enG;rw [h]
structure EnI (ds:List Int) (i:Nat) (m:Pw) (n e:Int) (A:List Pw) (mm:Pw):Prop where
 len:mm.length=8
 set : ∀v:Int,mm.set i v=m.set i v
 eq:A++(dnL e).flatMap (enG ds i m n)=enS ds i m n
 lo : -1000001≤e
 hi:e≤topM (ds.getD i 0) n
theorem topM_20 (d n:Int):topM d n≤20:=by unfold topM;split <;> omega
theorem tdiv_b {n d:Int} (hd:1≤d) (hn : -1000000≤n∧n≤1000000) : -1000000≤n.tdiv d∧n.tdiv d≤1000000:=by
 rcases Int.le_total 0 n with h | h
 ·rw [Int.tdiv_eq_ediv_of_nonneg h];have h1:=Int.ediv_nonneg h (by omega:0≤d);have h2:=Int.ediv_le_self d h
  omega
 ·have e:n = -(-n):=by omega
  rw [e,Int.neg_tdiv,Int.tdiv_eq_ediv_of_nonneg (by omega)];have h1:=Int.ediv_nonneg (by omega:0≤ -n) (by omega:0≤d);have h2:=Int.ediv_le_self d (by omega:0≤ -n)
  omega
theorem topM_lo {d n:Int} (hd:1≤d) (hn : -1000000≤n∧n≤1000000) : -1000000≤topM d n:=by
 have:=tdiv_b hd hn;unfold topM
 split <;> omega
theorem EnI.start {ds:List Int} {i:Nat} {m:Pw} {n:Int} (hm:m.length=8) (hi:i<ds.length) (hd:1≤ds.getD i 0) (hn : -1000000≤n∧n≤1000000):EnI ds i m n (topM (ds.getD i 0) n) [] m:=
 ⟨hm,fun _=>rfl,by rw [enum_go hi];rfl,by have:=topM_lo hd hn;omega,Int.le_refl _⟩
theorem EnI.next {ds:List Int} {i:Nat} {m mm:Pw} {n e:Int} {A:List Pw} (h:EnI ds i m n e A mm) (he:0≤e):EnI ds i m n (e - 1) (A++enG ds i m n e) (mm.set i e):=
 ⟨by simpa using h.len,fun v=>by rw [List.set_set];exact h.set v,by rw [← h.eq,dnL_succ he,List.flatMap_cons,List.append_assoc],by omega,by have:=h.hi;omega⟩
theorem EnI.end {ds:List Int} {i:Nat} {m mm:Pw} {n e:Int} {A:List Pw} (h:EnI ds i m n e A mm) (he:e<0):A=enS ds i m n:=by
 rw [← h.eq,dnL_neg he]
 simp
theorem left_b {d n k:Int} (hd:1≤d∧d≤12) (hk:0≤k) (ht:k≤topM d n) (hn : -1000000≤n∧n≤1000000):(0≤k * d∧k * d≤240)∧ -1000000≤n - k * d∧n - k * d≤1000000:=by
 have h20:=topM_20 d n;have h0:0≤k * d:=Int.mul_nonneg hk (by omega);have h1:k * d≤20 * 12:=Int.mul_le_mul (by omega) hd.2 (by omega) (by omega);refine ⟨⟨h0,by omega⟩,?_,by omega⟩
 rcases Int.le_total 0 n with hn0 | hn0
 ·omega
 ·have h2:k=0:=by
   have h3:n.tdiv d≤0:=by
    have e:n = -(-n):=by omega
    rw [e,Int.neg_tdiv,Int.tdiv_eq_ediv_of_nonneg (by omega)];have:=Int.ediv_nonneg (by omega:0≤ -n) (by omega:0≤d)
    omega
   unfold topM at ht
   split at ht <;> omega
  rw [h2]
  omega
theorem min_if (i j:Int):(if j<i then j else i)=min i j:=by omega
theorem topM_odd {d n:Int} (h:d.tmod 2=1):min (min (n.tdiv d) 20) 1=topM d n:=by unfold topM;rw [if_pos h]
theorem topM_even {d n:Int} (h : ¬d.tmod 2=1):min (n.tdiv d) 20=topM d n:=by unfold topM;rw [if_neg h]
theorem fromX_c {B:World} {H0 H:HP} {L:List SA} {w:World} {i:Nat} {m:List Int} {n:Int} {gl most:Nat} {qd qo:Option Addr} {cd co:Nat} {ds:List Int} {acc:List Pw} (hm:m.length=8) (hds:Ints H qd ds) (hd : ∀j,j<ds.length→1≤ds.getD j 0∧ds.getD j 0≤12) (hi:i≤ds.length) (h8:ds.length≤8) (hn : -1000000≤n∧n≤1000000) (ha:acc.length≤most+1) (hmost:most≤100000) (hrec:i<ds.length→∀(m':Pw) (n':Int) (acc':List Pw) (qo':Option Addr) (co':Nat),m'.length=8→ -1000000≤n' ∧n' ≤1000000→acc'.length≤most+1→∀(L:List SA) (w:World),Hp B H0 H (obj gl (.cells [.slice qd ds.length cd,.int .i64 (most:Int),.slice qo' acc'.length co'].toArray 229 (0,0))::own 160 8 qo' acc'.length co' (psC acc')::L) w→Calls Tryz.prog 193 [.pointer (some ⟨gl,0,none⟩),.int .i64 ((i+1:Nat):Int),.agg (intsC m').toArray,.int .i64 n'].toArray w fun r w'=>r = .returned (.tuple #[])∧∃qo2 co2,Hp B H0 H (obj gl (.cells [.slice qd ds.length cd,.int .i64 (most:Int),.slice qo2 (capL (most+1) acc' (enS ds (i+1) m' n')).length co2].toArray 229 (0,0))::own 160 8 qo2 (capL (most+1) acc' (enS ds (i+1) m' n')).length co2 (psC (capL (most+1) acc' (enS ds (i+1) m' n')))::L) w') (hH:Hp B H0 H (obj gl (.cells [.slice qd ds.length cd,.int .i64 (most:Int),.slice qo acc.length co].toArray 229 (0,0))::own 160 8 qo acc.length co (psC acc)::L) w):Calls Tryz.prog 193 [.pointer (some ⟨gl,0,none⟩),.int .i64 (i:Int),.agg (intsC m).toArray,.int .i64 n].toArray w fun e w'=>e = .returned (.tuple #[])∧∃qo2 co2,Hp B H0 H (obj gl (.cells [.slice qd ds.length cd,.int .i64 (most:Int),.slice qo2 (capL (most+1) acc (enS ds i m n)).length co2].toArray 229 (0,0))::own 160 8 qo2 (capL (most+1) acc (enS ds i m n)).length co2 (psC (capL (most+1) acc (enS ds i m n)))::L) w':=by
 refine Jz Tryz.func193 rfl 74 rfl rfl [(0,.pointer (some ⟨gl,0,none⟩)),(1,.int .i64 (i:Int)),(2,.agg (intsC m).toArray),(3,.int .i64 n)] rfl hH ?_;clear hH;refine Je fun _ hK1 _=>(Jb (Ee rfl rfl rfl fun g6=>(Jf (Ja (hK1 (Je fun _ hK2 _=>(Je fun _ hK3 _=>(Eu foll0 (by kernel_rfl) (JD (Jc rfl) rfl (JD (JG rfl) rfl (JD (Ju u229 rfl sz92 rfl) rfl (JD (Jy rfl (.s .z) rfl pl92) rfl (JD (Jm u92 rfl rfl) rfl (JD (Jc rfl) rfl (JD (JG rfl) rfl ?_)))))))))))))));refine JD (Ju u229 rfl sz3 rfl) rfl (JD (Jy rfl (.s .z) rfl pl3) rfl (JD (EC rfl rfl) rfl (Ef (Ja (hK3 (Jp rfl (fun h20=>?_) (fun h20=>?_)))))))
 ·
  refine Js (Jk (EJ.ret0r rfl fun w hH=>?_));replace hH:=hH.sublist (.cons _ (.cons_cons _ (.cons_cons _ (List.Sublist.refl _))));rw [capL_full (by omega)];exact ⟨rfl,qo,co,hH⟩
 ·
  refine Jo (Ja (hK2 (Je fun _ hK4 _=>(Je fun _ hK5 _=>(Jb (Jg (Jc rfl) rfl (Jg (Jc rfl) rfl (Jg (JG rfl) rfl (Jg (Ju u229 rfl sz22 rfl) rfl (Jg (Jy rfl (.s .z) rfl pl22) rfl (Jg (Jm u22 rfl rfl) rfl (Jg (EG rfl rfl) rfl (Jf (Ja (hK5 (Jp rfl (fun h27=>?_) (fun h27=>?_)))))))))))))))))
  ·
   refine Je fun _ hK6 _=>(Je fun _ hK7 _=>(Jb (Jg (Jc rfl) rfl (Jg (EG rfl rfl) rfl (Jf (Ja (hK7 (Jp rfl (fun h29=>?_) (fun h29=>?_)))))))))
   ·
    refine Ej (Rs:=[_,_,_]) 11 [[], [], [1], [1,2], [1,2,3], [], [5], [1,2,3,4,5,6], [0,1,2,3,4,5,6,7], [0,1,2,3,4,5,6,7,8], [0,1,2,3,4,5,6,7,8,9]] [[], [], [], [], [12], [11], [], [6], [], [], []] [[], [], [], [], [], [], [], [13], [], [], [12]] rfl rfl (by kernel_rfl) ?_;apply Jj 1 rfl
    iterate 3 focus (intros;(conv=>lhs;simp only [Jh,Jt,JN,Jv,JI,eq_self,reduceEqDiff,reduceIte,reduceSub,reduceAdd,JxA,JxB]);all_goals rfl)
    ·
     intro gh X K zq zc zq2 zc2 zb zv hK;refine Jg (Jc rfl) rfl (Ji ?_);exact hK zq zc zq2 zc2 zb zv
    ·
     intro gh gh' h
     rfl
    apply Jj 2 rfl
    iterate 3 focus (intros;(conv=>lhs;simp only [Jh,Jt,JN,Jv,JI,eq_self,reduceEqDiff,reduceIte,reduceSub,reduceAdd,JxA,JxB]);all_goals rfl)
    ·
     intro gh X K zq zc zq2 zc2 zb zv hK;refine Jg (Jc rfl) rfl (Ji ?_);exact hK zq zc zq2 zc2 zb zv
    ·
     intro gh gh' h
     rfl
    apply Jj 3 rfl
    iterate 3 focus (intros;(conv=>lhs;simp only [Jh,Jt,JN,Jv,JI,eq_self,reduceEqDiff,reduceIte,reduceSub,reduceAdd,JxA,JxB]);all_goals rfl)
    ·
     intro gh X K zq zc zq2 zc2 zb zv hK;refine Jg (JG rfl) rfl (Ji ?_);exact hK zq zc zq2 zc2 zb zv
    ·
     intro gh gh' h
     rfl
    apply Jj 4 rfl
    iterate 3 focus (intros;(conv=>lhs;simp only [Jh,Jt,JN,Jv,JI,eq_self,reduceEqDiff,reduceIte,reduceSub,reduceAdd,JxA,JxB]);all_goals rfl)
    ·
     intro gh X K zq zc zq2 zc2 zb zv hK;refine Jg (Ju u229 rfl sz92 rfl) rfl (Ji ?_);exact hK zq zc zq2 zc2 zb zv
    ·
     intro gh gh' h
     rfl
    apply Jj 5 rfl
    iterate 3 focus (intros;(conv=>lhs;simp only [Jh,Jt,JN,Jv,JI,eq_self,reduceEqDiff,reduceIte,reduceSub,reduceAdd,JxA,JxB]);all_goals rfl)
    ·
     intro gh X K zq zc zq2 zc2 zb zv hK;refine Jg (Jy rfl At.z rfl pl92) rfl (Ji ?_);exact hK zq zc zq2 zc2 zb zv
    ·
     intro gh gh' h
     rfl
    apply Jj 6 rfl
    iterate 3 focus (intros;(conv=>lhs;simp only [Jh,Jt,JN,Jv,JI,eq_self,reduceEqDiff,reduceIte,reduceSub,reduceAdd,JxA,JxB]);all_goals rfl)
    ·
     intro gh X K zq zc zq2 zc2 zb zv hK;refine Jg (Jx rfl At.z (by simpa [*] using ag160)) rfl (Ji ?_);exact hK zq zc zq2 zc2 zb zv
    ·
     intro gh gh' h
     rfl
    apply Ea 7 rfl
    iterate 3 focus (intros;(conv=>lhs;simp only [Jh,Jt,JN,Jv,JI,eq_self,reduceEqDiff,reduceIte,reduceSub,reduceAdd,JxA,JxB]);all_goals rfl)
    ·
     intro gh X K zq zc zq2 zc2 zb zv hK;refine EK (MK.lit8 cf8I u92 ze160 rfl sz160 hm rfl) rfl fun qo36 co36=>(Ji ?_);exact hK qo36 co36 zq2 zc2 zb zv
    ·
     intro gh gh' h;refine ⟨?_,?_⟩ <;> rfl
    apply Ea 8 rfl
    iterate 3 focus (intros;(conv=>lhs;simp only [Jh,Jt,JN,Jv,JI,eq_self,reduceEqDiff,reduceIte,reduceSub,reduceAdd,JxA,JxB]);all_goals rfl)
    ·
     intro gh X K zq zc zq2 zc2 zb zv hK;refine J.append8 cf8I u92 ze160 rfl sz160 by160 rfl rfl rfl (by omega) (.s .z) At.z (fun _ _=>At.z) rfl fun qo37 co37=>(Jr .z (Jr (.s .z) (Ji ?_)));exact hK qo37 co37 zq2 zc2 zb zv
    ·
     intro gh gh' h;refine ⟨?_,?_⟩ <;> (first | simp only [h 6 rfl] | rfl)
    apply Jj 9 rfl
    iterate 3 focus (intros;(conv=>lhs;simp only [Jh,Jt,JN,Jv,JI,eq_self,reduceEqDiff,reduceIte,reduceSub,reduceAdd,JxA,JxB]);all_goals rfl)
    ·
     intro gh X K zq zc zq2 zc2 zb zv hK;refine Jg (JG rfl) rfl (Ji ?_);exact hK zq zc zq2 zc2 zb zv
    ·
     intro gh gh' h
     first | simp only [h 6 rfl,h 7 rfl] | rfl
    apply Jj 10 rfl
    iterate 3 focus (intros;(conv=>lhs;simp only [Jh,Jt,JN,Jv,JI,eq_self,reduceEqDiff,reduceIte,reduceSub,reduceAdd,JxA,JxB]);all_goals rfl)
    ·
     intro gh X K zq zc zq2 zc2 zb zv hK;refine Jg (Ju u229 rfl sz92 rfl) rfl (Ji ?_);exact hK zq zc zq2 zc2 zb zv
    ·
     intro gh gh' h
     first | simp only [h 6 rfl,h 7 rfl] | rfl
    apply ET 11 rfl
    iterate 3 focus (intros;(conv=>lhs;simp only [Jh,Jt,JN,Jv,JI,eq_self,reduceEqDiff,reduceIte,reduceSub,reduceAdd,JxA,JxB]);all_goals rfl)
    ·
     intro gh X K hK;refine Ez rfl rfl rfl rfl sz92 (by simp [*]) At.z (Ji ?_);exact hK
    ·
     intro gh gh' h
     first | simp only [h 6 rfl,h 7 rfl] | rfl
    apply Ek [0,1,2,3,4,5,6,7,8,9,10] [0,1,2,3,4,5,6,7,8,9,10,11] foll0 rfl rfl rfl (by rfl)
    iterate 2 focus (intros;(conv=>lhs;simp only [Jh,Jt,JN,Jv,JI,eq_self,reduceEqDiff,reduceIte,reduceSub,reduceAdd,JxA,JxB]);all_goals rfl)
    intro gh;generalize (gh 6).c=co36;generalize (gh 6).q=qo36;generalize (gh 7).c=co37;generalize (gh 7).q=qo37;clear gh;refine Ja (hK6 (Js (Jk (EJ.ret0r rfl fun w hH=>?_))));replace hH:=hH.sublist (.cons _ (.cons_cons _ (.cons_cons _ (.cons _ (List.Sublist.refl _)))));rw [show enS ds i m n=[m] from by rw [enS,enum_end (by omega),if_pos h29],capL_one (by omega),List.length_append];exact ⟨rfl,qo37,co37,hH.front (.s .z)⟩
   ·
    refine Jo (Ja (hK6 (Js (Jk (EJ.ret0r rfl fun w hH=>?_)))));replace hH:=hH.sublist (.cons _ (.cons_cons _ (.cons_cons _ (List.Sublist.refl _))));rw [show enS ds i m n=[] from by rw [enS,enum_end (by omega),if_neg h29],capL_nil];exact ⟨rfl,qo,co,hH⟩
  ·
   have hil:i<ds.length:=by omega
   have hdi:=hd i hil;have htb:=tdiv_b hdi.1 hn;have htt:=tmod_bd n;refine Jo (Ja (hK4 (Je fun _ hK8 _=>(Jb (Jg (Jc rfl) rfl (Jg (JG rfl) rfl (Jg (Ju u229 rfl sz22 rfl) rfl (Jg (Jy rfl (.s .z) rfl pl22) rfl (Jg (Jc rfl) rfl (Jg (JP u22 sz2 rfl rfl rfl (by omega) hds.sm) rfl (Jg (JB rfl (hds _ (by omega)) pl2) rfl (Jg (Jd rfl) rfl (Jf (Ja (hK8 (Je fun _ hK9 _=>?_))))))))))))))));refine Jb (Jg (Jc rfl) rfl (Jg (Jc rfl) rfl (Jg (PR.quo rfl rfl (by omega) (nw _ (by omega))) rfl (Jg (EN (v':=.int .i64 (min (n.tdiv (ds.getD i 0)) 20)) (by rw [min_if]) (PR.min2 rfl rfl)) rfl (Jg (Jd rfl) rfl (Jf (Ja (hK9 (EW (σ:=Unit) (fun (_:Unit)=>[(9,.int .i64 (topM (ds.getD i 0) n))]) (fun (_:Unit)=>H) (fun (_:Unit)=>obj g6 (.cells (intsC m).toArray 160 (0,0))::obj gl (.cells [.slice qd ds.length cd,.int .i64 (most:Int),.slice qo acc.length co].toArray 229 (0,0))::own 160 8 qo acc.length co (psC acc)::L) (fun (_:Unit)=>True) ?_ ?_)))))))))
   ·
    intro _ hMt1;refine Je fun _ hK10 _=>(Jb (Jg (Jc rfl) rfl (Jg (ED rfl rfl (by decide) rfl) rfl (Jg (EG rfl rfl) rfl (Jf (Ja (hK10 (Jp rfl (fun h53=>?_) (fun h53=>?_)))))))))
    ·
     refine Jb (Jg (Jc rfl) rfl (Jg (EN (v':=.int .i64 (min (min (n.tdiv (ds.getD i 0)) 20) 1)) (by rw [min_if]) (PR.min2 rfl rfl)) rfl (Jg (Jd rfl) rfl (Jf (Ja ?_)))));exact hMt1 () trivial 6 rfl rfl ⟨(vi (topM_odd h53)),trivial⟩ rfl rfl
    ·
     refine Jo (Ja ?_);exact hMt1 () trivial 3 rfl rfl ⟨(vi (topM_even h53)),trivial⟩ rfl rfl
   ·
    rintro _ _;refine Je fun _ hK11 _=>(Jb (Jg (Jc rfl) rfl (Jg (Jd rfl) rfl (Jf (Ja (hK11 (Jn (JE (σ:=Int × List Pw × Pw × Option Addr × Nat) (fun ⟨e,A,mm,qo1,co1⟩=>[(10,.int .i64 e)]) (fun ⟨e,A,mm,qo1,co1⟩=>H) (fun ⟨e,A,mm,qo1,co1⟩=>obj g6 (.cells (intsC mm).toArray 160 (0,0))::obj gl (.cells [.slice qd ds.length cd,.int .i64 (most:Int),.slice qo1 (capL (most+1) acc A).length co1].toArray 229 (0,0))::own 160 8 qo1 (capL (most+1) acc A).length co1 (psC (capL (most+1) acc A))::L) (fun ⟨e,A,mm,qo1,co1⟩=>EnI ds i m n e A mm) (fun ⟨e,A,mm,qo1,co1⟩=>(e+1).toNat) (topM (ds.getD i 0) n, [],m,qo,co) (EnI.start hm hil hdi.1 hn) ⟨rfl,trivial⟩ rfl (by dsimp only;rw [capL_nil]) ?_))))))));rintro ⟨e,A,mm,qo1,co1⟩ hI _ hAg0;have hlo:=hI.lo;have hhi:=hI.hi;have h20:=topM_20 (ds.getD i 0) n;have hmml:=hI.len;refine Je fun _ hK12 _=>(Je fun _ hK13 _=>(Jb (Jg (Jc rfl) rfl (Jg (PR.geq rfl rfl) rfl (Jf (Ja (hK13 (Jp rfl (fun h58=>?_) (fun h58=>?_)))))))))
    ·
     have hlb:=left_b hdi h58 hhi hn;refine Jo (Ja (hK12 (Je fun _ hK14 _=>(Jn (Je fun _ hK15 _=>(Jb (Jg (Jc rfl) rfl (Jg (Jc rfl) rfl (Jg (JY u160 sz3 rfl rfl rfl (by omega)) rfl (J.storeI rfl rfl sz3 (by simp [*];omega) At.z (Jf (Ja (hK15 (Jb (Jg (Jc rfl) rfl (Jg (Jc rfl) rfl ?_))))))))))))))));refine Jg (JC rfl rfl (by first | exact nw _ (by omega) | rfl)) rfl (Jg (Jx rfl At.z (by simpa [*] using ag160)) rfl (Jg (Jc rfl) rfl (Jg (Jc rfl) rfl (Jg (Jc rfl) rfl (Jg (EH rfl rfl (nw _ (by omega))) rfl (Jg (EL rfl rfl (nw _ (by omega))) rfl (Jw fn193 rfl rfl fun w hH=>(hrec hil (mm.set i e) (n - e * ds.getD i 0) (capL (most+1) acc A) qo1 co1 (by simpa using hmml) hlb.2 (capL_len ha) _ _ ((hH.front (.s (.s .z))).front (.s (.s .z)))).mono ?_)))))));rintro _ w ⟨rfl,qo2,co2,hH⟩;refine ⟨_,rfl,fun a hF=>JL hF hH ?_⟩;refine Jf (JF (Ja (hK14 (Jb (Jg (Jc rfl) rfl (Jg (EL rfl rfl (by first | exact nw _ (by omega) | rfl)) rfl (Jg (Jd rfl) rfl (Jf (Ja (Jr (.s .z) (Jr (.s .z) (Jr (.s (.s .z)) ?_))))))))))));exact hAg0 (e - 1,A++enG ds i m n e,mm.set i e,qo2,co2) (hI.next h58) (by show (e - 1+1).toNat<(e+1).toNat;omega) 19 rfl rfl ⟨rfl,trivial⟩ rfl (by dsimp only;rw [← capL_app,← enG_set hI.set])
    ·
     refine JH (Jl (Jl (JQ (EJ.ret0 rfl fun w hH=>?_))));replace hH:=hH.sublist (.cons _ (.cons_cons _ (.cons_cons _ (List.Sublist.refl _))));rw [← hI.end (by omega)];exact ⟨rfl,qo1,co1,hH⟩
theorem bd229_0_1 : ∀(q0:Option Addr) (m0 c0:Nat) (n1:Int) w,(Instr.build 229 #[(0,.slice q0 m0 c0),(1,.int .i64 n1)]).run Tryz.prog w = .ok (.agg [.slice q0 m0 c0,.int .i64 n1,.slice none 0 0].toArray) w:=fun q0 m0 c0 n1 _=>by kernel_rfl
theorem from_n {B:World} {H0 H:HP} {gl most:Nat} {qd:Option Addr} {cd:Nat} {ds:List Int} (hds:Ints H qd ds) (hd : ∀j,j<ds.length→1≤ds.getD j 0∧ds.getD j 0≤12) (h8:ds.length≤8) (hmost:most≤100000) : ∀(k i:Nat) (m:Pw) (n:Int) (acc:List Pw) (qo:Option Addr) (co:Nat),ds.length - i≤k→i≤ds.length→m.length=8→ -1000000≤n∧n≤1000000→acc.length≤most+1→∀(L:List SA) (w:World),Hp B H0 H (obj gl (.cells [.slice qd ds.length cd,.int .i64 (most:Int),.slice qo acc.length co].toArray 229 (0,0))::own 160 8 qo acc.length co (psC acc)::L) w→Calls Tryz.prog 193 [.pointer (some ⟨gl,0,none⟩),.int .i64 (i:Int),.agg (intsC m).toArray,.int .i64 n].toArray w fun r w'=>r = .returned (.tuple #[])∧∃qo2 co2,Hp B H0 H (obj gl (.cells [.slice qd ds.length cd,.int .i64 (most:Int),.slice qo2 (capL (most+1) acc (enS ds i m n)).length co2].toArray 229 (0,0))::own 160 8 qo2 (capL (most+1) acc (enS ds i m n)).length co2 (psC (capL (most+1) acc (enS ds i m n)))::L) w'
 | 0,i,m,n,acc,qo,co,hk,hi,hm,hn,ha,L,w,hH=>fromX_c hm hds hd hi h8 hn ha hmost (fun h=>by omega) hH
 | k+1,i,m,n,acc,qo,co,hk,hi,hm,hn,ha,L,w,hH=>fromX_c hm hds hd hi h8 hn ha hmost (fun h m' n' acc' qo' co' h1 h2 h3 L w hH=>from_n hds hd h8 hmost k (i+1) m' n' acc' qo' co' (by omega) (by omega) h1 h2 h3 L w hH) hH
theorem mon_cap {ds:List Int} {n:Int} (most:Nat) (m:Pw) (hm:m=zP):capL (most+1) [] (enS ds 0 m n)=(monS ds n).take (most+1):=by
 subst hm;rw [capL_zero]
 rfl
theorem take_dec {α:Type} {l:List α} {most:Nat}:(decide (((l.take (most+1)).length:Int)≤(most:Int)))=decide (l.length≤most):=by
 rw [List.length_take];simp only [decide_eq_decide]
 omega
theorem monS_neg {ds:List Int} {n:Int} (hd : ∀j,j<ds.length→1≤ds.getD j 0∧ds.getD j 0≤12) (h8:ds.length≤8) (hn:n<0):monS ds n=[]:=by
 rcases hh:monS ds n with _ | ⟨p,ps⟩
 ·rfl
 ·have h1:=enumF_mem (ds:=ds) (i:=0) (m:=zP) (p:=p) (n:=n) (by omega) rfl (by show p∈monS ds n;rw [hh];simp)
  have key : ∀(l:List Int) (i:Nat),(∀t,t<l.length→1≤l.getD t 0∧0≤p.getD (i+t) 0)→0≤wsF l p i:=by
   intro l
   induction l with
   | nil=>intro i _;simp [wsF]
   | cons d l ih=>
    intro i h;have h0:=h 0 (by simp);simp only [List.getD_cons_zero,Nat.add_zero] at h0;have:=ih (i+1) (fun t ht=>by have:=h (t+1) (by simpa using ht);simp only [List.getD_cons_succ] at this;rw [show i+1+t=i+(t+1) by omega];exact this);have h3:0≤d * p.getD i 0:=Int.mul_nonneg (by omega) h0.2;simp only [wsF]
    omega
  have h2:=key ds 0 (fun t ht=>⟨(hd t ht).1,(h1.2.2.1 t ht).1⟩)
  omega
theorem monomials_c {B:World} {H0 H:HP} {L:List SA} {w:World} {qds:Option Addr} {cds:Nat} {ds:List Int} {n:Int} {most:Nat} (hds:Ints H qds ds) (hd : ∀j,j<ds.length→1≤ds.getD j 0∧ds.getD j 0≤12) (h8:ds.length≤8) (hn : -1000000≤n∧n≤1000000) (hmost:most≤100000) (hH:Hp B H0 H L w):Calls Tryz.prog 167 [.slice qds ds.length cds,.int .i64 n,.int .i64 (most:Int)].toArray w fun e w'=>∃q c,e = .returned (.tuple #[.slice q ((monS ds n).take (most+1)).length c,.bool (decide ((monS ds n).length≤most))])∧Hp B H0 H (own 160 8 q ((monS ds n).take (most+1)).length c (psC ((monS ds n).take (most+1)))::L) w':=by
 refine Jz Tryz.func167 rfl 30 rfl rfl [(0,.slice qds ds.length cds),(1,.int .i64 n),(2,.int .i64 (most:Int))] rfl hH ?_;clear hH;refine Je fun _ hK1 _=>(Jb (Jg (Jd rfl) rfl (Jg (Jd rfl) rfl (Jf (Ja (hK1 (Je fun _ hK2 _=>(Jb (Jg (Jc rfl) rfl (Jg (Jc rfl) rfl (Jg (EX rfl rfl (fun w=>bd229_0_1 _ _ _ _ w)) rfl (Ee rfl rfl rfl fun g12=>(J.own0 160 8 (Jg (Jd rfl) rfl (Jf ?_)))))))))))))));refine Ja (hK2 (Je fun _ hK3 _=>(Je fun _ hK4 _=>(Jb (Jg (Jc rfl) rfl (Jg (PR.geq rfl rfl) rfl (Jf (Ja (hK4 (Jp rfl (fun h14=>?_) (fun h14=>?_)))))))))))
 ·
  refine Jb (Jg (Jc rfl) rfl (Jg (Ew bz160) rfl (Jg (Jc rfl) rfl (Jw fn193 rfl rfl fun w hH=>(from_n hds hd h8 hmost ds.length 0 zP n [] none 0 (by omega) (by omega) rfl hn (by simp) _ _ (hH.front (.s .z))).mono ?_))));rintro _ w ⟨rfl,qo2,co2,hH⟩;refine ⟨_,rfl,fun a hF=>JL hF hH ?_⟩;refine Jf (Ja (hK3 (Je fun _ hK5 _=>(Eu foll0 (by kernel_rfl) (JD (Jc rfl) rfl (JD (JG rfl) rfl (JD (Ju u229 rfl sz92 rfl) rfl (JD (Jy rfl At.z rfl pl92) rfl (JD (Jc rfl) rfl (JD (JG rfl) rfl (JD (Ju u229 rfl sz92 rfl) rfl (JD (Jy rfl At.z rfl pl92) rfl (JD (Jm u92 rfl rfl) rfl (JD (Jc rfl) rfl (JD (PR.leq rfl rfl) rfl ?_)))))))))))))));refine JD (Jd rfl) rfl (JD (Jd rfl) rfl (Ef (Ja (hK5 (Js (Er rfl (Res.tmp rfl) (Res.tmp rfl) fun w hH=>?_))))));replace hH:=hH.sublist (.cons _ (.cons_cons _ (List.Sublist.refl _)));rw [mon_cap most _ rfl] at hH ⊢;exact ⟨qo2,co2,by rw [take_dec],hH⟩
 ·
  refine Jo (Ja (hK3 (Je fun _ hK6 _=>(Eu foll0 (by kernel_rfl) (JD (Jc rfl) rfl (JD (JG rfl) rfl (JD (Ju u229 rfl sz92 rfl) rfl (JD (Jy rfl (.s .z) rfl pl92) rfl (JD (Jc rfl) rfl (JD (JG rfl) rfl (JD (Ju u229 rfl sz92 rfl) rfl (JD (Jy rfl (.s .z) rfl pl92) rfl (JD (Jm u92 rfl rfl) rfl (JD (Jc rfl) rfl (JD (PR.leq rfl rfl) rfl ?_)))))))))))))));refine JD (Jd rfl) rfl (JD (Jd rfl) rfl (Ef (Ja (hK6 (Js (Er rfl (Res.tmp rfl) (Res.tmp rfl) fun w hH=>?_))))));replace hH:=hH.sublist (.cons_cons _ (.cons _ (List.Sublist.refl _)));rw [monS_neg hd h8 (by omega)];exact ⟨none,0,rfl,hH⟩
theorem u172:Tryz.prog.underlying 172=some (TypeDesc.struct #[{name:="a",type:=81,offset:=0,embedded:=false,tag:="",pkgPath:="loop.example/g01219/impl",byteOffset:=0},{name:="levels",type:=170,offset:=1,embedded:=false,tag:="",pkgPath:="loop.example/g01219/impl",byteOffset:=8}]):=by kernel_rfl
theorem sz81:Size Tryz.prog 81 1:=by unfold Size;kernel_rfl
theorem fn136:Fn Tryz.prog 136:=⟨_,Tryz.func136,by kernel_rfl,rfl⟩
theorem fn167:Fn Tryz.prog 167:=⟨_,Tryz.func167,by kernel_rfl,rfl⟩
def fitB (ds:List Int) (n:Int):Bool:=decide ((monS ds n).length≤120)
def arB (ds:List Int) (n:Int):Bool:=fitB ds (n - 1) && (fitB ds n && fitB ds (n+1))
def upB (ds:List Int) (n:Int):Bool:=(List.range (n+2).toNat).all fun k:Nat=>fitB ds (k:Int)
def upC (ds:List Int) (n:Int):Int:=if upB ds n then 0 else 3
theorem upC_no {ds:List Int} {n:Int} {i:Nat} (hi:(i:Int)<n+2) (h:fitB ds (i:Int)=false):upC ds n=3:=by
 unfold upC upB;rw [if_neg];intro hh;have:=List.all_eq_true.1 hh i (List.mem_range.2 (by omega));rw [h] at this;exact absurd this (by decide)
theorem upC_yes {ds:List Int} {n:Int} (h : ∀i:Nat,(i:Int)<n+2→fitB ds (i:Int)=true):upC ds n=0:=by
 unfold upC upB;rw [if_pos];exact List.all_eq_true.2 fun i hi=>h i (by have:=List.mem_range.1 hi;omega)
theorem not_f {b:Bool} (h:(!b)=true):b=false:=by cases b <;> simp_all
theorem not_t {b:Bool} (h:(!b)=false):b=true:=by cases b <;> simp_all
theorem fits_c {B:World} {H0 H:HP} {L:List SA} {w:World} {bc lc:Nat} {bca:Nat} {qcad qcaf:Option Addr} {ccad ccaf:Nat} {cad:List Int} {caf:List (List Term)} {n:Int} (pc0:CellAt H bc 0 (.pointer (some ⟨bca,0,none⟩))) (pc1:CellAt H bc 1 (.map (some lc))) (pcad:CellAt H bca 0 (.slice qcad cad.length ccad)) (pcaf:CellAt H bca 1 (.slice qcaf caf.length ccaf)) (hcad:Ints H qcad cad) (hcaf:Forms H qcaf caf) (hd : ∀j,j<cad.length→1≤cad.getD j 0∧cad.getD j 0≤12) (h8:cad.length≤8) (hn : -1000000≤n∧n≤1000000) (hH:Hp B H0 H L w):Calls Tryz.prog 136 [.pointer (some ⟨bc,0,none⟩),.int .i64 n].toArray w fun e w'=>e = .returned (.bool (fitB cad n))∧Hp B H0 H L w':=by
 refine Jz Tryz.func136 rfl 20 rfl rfl [(0,.pointer (some ⟨bc,0,none⟩)),(1,.int .i64 n)] rfl hH ?_;clear hH;refine Je fun _ hK1 _=>(Jb (Jg (Jd rfl) rfl (Jf (Ja (hK1 (Je fun _ hK2 _=>(Jb (Jg (Jc rfl) rfl (Jg (JG rfl) rfl (Jg (Ju u172 rfl sz81 rfl) rfl (Jg (JB (q:=some ⟨bc,0,none⟩) (k:=0) rfl pc0 pl81) rfl (Jg (JG rfl) rfl (Jg (Ju u35 rfl sz22 rfl) rfl (Jg (JB (q:=some ⟨bca,0,none⟩) (k:=0) rfl pcad pl22) rfl (Jg (Jc rfl) rfl ?_)))))))))))))));refine Jw fn167 rfl rfl fun w hH=>(monomials_c (most:=120) hcad hd h8 (by omega) (by omega) hH).mono ?_;rintro _ w ⟨qo16,co16,rfl,hH⟩;refine ⟨_,rfl,fun a hF=>JL hF hH ?_⟩;refine Jg (Jc rfl) rfl (Jg (JM rfl rfl) rfl (Jg (JM rfl rfl) rfl (Jg (Jd rfl) rfl (Jg (Jd rfl) rfl (Jf (Ja (hK2 (Je fun _ hK3 _=>(Jb (Jg (Jc rfl) rfl (Jg (Jd rfl) rfl (Jf (Ja (hK3 (Js (Jq rfl (Res.tmp rfl) fun w hH=>?_))))))))))))))));replace hH:=hH.tail;exact ⟨rfl,hH⟩
theorem upTo_c {B:World} {H0 H:HP} {L:List SA} {w:World} {bc lc:Nat} {bca:Nat} {qcad qcaf:Option Addr} {ccad ccaf:Nat} {cad:List Int} {caf:List (List Term)} {n:Int} (pc0:CellAt H bc 0 (.pointer (some ⟨bca,0,none⟩))) (pc1:CellAt H bc 1 (.map (some lc))) (pcad:CellAt H bca 0 (.slice qcad cad.length ccad)) (pcaf:CellAt H bca 1 (.slice qcaf caf.length ccaf)) (hcad:Ints H qcad cad) (hcaf:Forms H qcaf caf) (hd : ∀j,j<cad.length→1≤cad.getD j 0∧cad.getD j 0≤12) (h8:cad.length≤8) (hn : -1≤n∧n≤99999) (hH:Hp B H0 H L w):Calls Tryz.prog 84 [.pointer (some ⟨bc,0,none⟩),.int .i64 n].toArray w fun e w'=>e = .returned (.int .i64 (upC cad n))∧Hp B H0 H L w':=by
 refine Jz Tryz.func84 rfl 16 rfl rfl [(0,.pointer (some ⟨bc,0,none⟩)),(1,.int .i64 n)] rfl hH ?_;clear hH;refine Je fun _ hK1 _=>(Jb (Jg (Jd rfl) rfl (Jf (Ja (hK1 (Je fun _ hK2 _=>(Je fun _ hK3 _=>(Jb (Jg (Jc rfl) rfl (Jg (JC rfl rfl (nw _ (by omega))) rfl (Jg (Jc rfl) rfl (Jf (Ja (hK3 (Jn (JE (σ:=Nat) (fun (i:Nat)=>[(8,.int .i64 (i:Int))]) (fun (i:Nat)=>H) (fun (i:Nat)=>L) (fun (i:Nat)=>(i:Int)≤n+2∧∀j:Nat,j<i→fitB cad (j:Int)=true) (fun (i:Nat)=>(n+2 - i).toNat) 0 ⟨by omega,fun j hj=>by omega⟩ ⟨rfl,trivial⟩ rfl rfl ?_))))))))))))))));rintro i ⟨hi,hI⟩ _ hAg0;refine Je fun _ hK4 _=>(Jb (Jg (JR rfl rfl) rfl (Jf (Ja (hK4 (Je fun _ hK5 _=>(Jp rfl (fun h9=>?_) (fun h9=>?_))))))))
 ·
  refine Jo (Ja (hK5 (Je fun _ hK6 _=>(Jn (Je fun _ hK7 _=>(Jb (Jg (Jc rfl) rfl (Jg (Jd rfl) rfl (Jf (Ja (hK7 (Je fun _ hK8 _=>(Jb (Jg (Jc rfl) rfl (Jg (Jc rfl) rfl (Jw fn136 rfl rfl fun w hH=>(fits_c pc0 pc1 pcad pcaf hcad hcaf hd h8 (by omega) hH).mono ?_))))))))))))))));rintro _ w ⟨rfl,hH⟩;refine ⟨_,rfl,fun a hF=>JL hF hH ?_⟩;refine Jg (Em rfl) rfl (Jf (Ja (hK8 (Eg rfl (fun h14=>?_) (fun h14=>?_)))))
  ·
   refine Je fun _ hK9 _=>(Jb (Jg (Jd rfl) rfl (Jf (Ja (hK9 (Js (JT (Jk (Jk (JT (Jk (Jq rfl (Res.tmp rfl) fun w hH=>?_))))))))))));exact ⟨by rw [upC_no (i:=i) (by omega) (not_f h14)],hH⟩
  ·
   refine Jo (JF (Ja (hK6 (Jb (Jg (JC rfl rfl (by first | exact nw _ (by omega) | rfl)) rfl (Jg (Jc rfl) rfl (Jf (Ja ?_))))))));exact hAg0 (i+1) ⟨by omega,upto hI (not_t h14)⟩ (by show (n+2 - ((i+1:Nat):Int)).toNat<(n+2 - (i:Int)).toNat;omega) 10 rfl rfl ⟨rfl,trivial⟩ rfl rfl
 ·
  refine JH (Jl (Jl (JQ (Ja (hK2 (Je fun _ hK10 _=>(Jb (Jg (Jd rfl) rfl (Jf (Ja (hK10 (Js (Jq rfl (Res.tmp rfl) fun w hH=>?_)))))))))))));exact ⟨by rw [upC_yes (fun j hj=>hI j (by omega))],hH⟩
structure Sl where
 q:Option Addr
 k:Nat
 c:Nat
structure Lv where
 b:Nat
 p:Nat
 l:Sl
 m:Sl
 z:Sl
 d:Sl
 s:Sl
abbrev Lv.cells (x:Lv):List Value:=[.slice x.l.q x.l.k x.l.c,.map (some x.p),.slice x.m.q x.m.k x.m.c,.slice x.z.q x.z.k x.z.c,.slice x.d.q x.d.k x.d.c,.slice x.s.q x.s.k x.s.c]
abbrev lvB (x:Lv):SA:=obj x.b (.cells x.cells.toArray 95 (0,0))
def lvO:List (Int × Lv)→SA
 | []=>emp
 | x::xs=>star (lvB x.2) (lvO xs)
abbrev ekI (n:Int):Value:=.int .i64 n
abbrev evB (b:Nat):Value:=.pointer (some ⟨b,0,none⟩)
def okI (n:Int):Prop:=-9223372036854775808≤n∧n≤9223372036854775807
def lvK (ls:List (Int × Lv)):List (Int × Nat):=ls.map fun x=>(x.1,x.2.b)
abbrev lvM (lb:Nat) (xs:List (Int × Nat)):SA:=omap ekI evB okI lb xs
def cpx (lb:Nat) (ls:List (Int × Lv)):SA:=star (lvM lb (lvK ls)) (lvO ls)
section
variable {P : Program} {ops : Array Oper} {Q : Exit → Act → World → Prop} {n : Nat} {B : World} {H0 H : HP} {rest : List Oper} {us : List (Nat × Value)} {L L' : List SA} {t : TypeId} {p : String} {af : Array Edge} {d : Nat} {x y : Operand} {w : World}
theorem Hp.lvPerm {ls ls':List (Int × Lv)} (hp:ls.Perm ls') : ∀{L:List SA},Hp B H0 H (lvO ls::L) w→Hp B H0 H (lvO ls'::L) w:=by
 induction hp with
 | nil=>exact fun h=>h
 | cons x _ ih=>exact fun h=>((ih (h.unstar.front (.s .z))).front (.s .z)).star
 | swap x y l=>exact fun h=>
  have h1:=(h.unstar.front (.s .z)).unstar
  (((h1.front (.s .z)).front (.s (.s .z))).star.front (.s .z)).star
 | trans _ _ ih1 ih2=>exact fun h=>ih2 (ih1 h)
theorem Hp.lvmPerm {lb:Nat} {xs ys:List (Int × Nat)} (hp:xs.Perm ys) (h:Hp B H0 H (lvM lb xs::L) w):Hp B H0 H (lvM lb ys::L) w:=by
 obtain ⟨es,clock,h1,h2⟩:=(h.objs (lvM lb xs) (by simp)).1;exact h.reAt .z ⟨es,clock,h1,h2.perm hp⟩ fun b hb=>hb
theorem Hp.lvOut {lb:Nat} {ls rest:List (Int × Lv)} {x:Int × Lv} (hp:ls.Perm (x::rest)) (h:Hp B H0 H (cpx lb ls::L) w):Hp B H0 H (lvB x.2::lvO rest::lvM lb ((x.1,x.2.b)::lvK rest)::L) w:=by
 have h1:=(h.unstar.front (.s .z)).lvPerm hp;have h2:=h1.unstar;have h3:=(h2.front (.s (.s .z))).lvmPerm (hp.map fun x=>(x.1,x.2.b));exact (h3.front (.s (.s .z))).front (.s (.s .z))
theorem Hp.lvIn {lb:Nat} {rest:List (Int × Lv)} {x:Int × Lv} (h:Hp B H0 H (lvB x.2::lvO rest::lvM lb ((x.1,x.2.b)::lvK rest)::L) w):Hp B H0 H (cpx lb (x::rest)::L) w:=
 (h.star.front (.s .z)).star
end
theorem lvK_mem {ls:List (Int × Lv)} {n:Int} {b:Nat} (h:look (lvK ls) n=some b) : ∃x,(n,x)∈ls∧x.b=b:=by
 unfold look at h;obtain ⟨y,h1,h2⟩:=Option.map_eq_some_iff.1 h;have h3:=List.mem_of_find?_eq_some h1;have h4:=List.find?_some h1;obtain ⟨z,hz,rfl⟩:=List.mem_map.1 h3;obtain ⟨k,x⟩:=z
 have h5:k=n:=by simpa using h4
 subst h5;exact ⟨x,hz,h2⟩
theorem lvK_not {ls:List (Int × Lv)} {n:Int} (h:look (lvK ls) n=none) : ∀x∈ls,x.1≠n:=fun x hx e=>by
 unfold look at h
 have h1:=Option.map_eq_none_iff.1 h
 have:=List.find?_eq_none.1 h1 (x.1,x.2.b) (List.mem_map.2 ⟨x,hx,rfl⟩)
 simp [e] at this
theorem lvK_put {ls:List (Int × Lv)} {n:Int} {b:Nat} (h:look (lvK ls) n=none):putM (lvK ls) n b=(n,b)::lvK ls:=by
 unfold putM
 congr 1
 refine List.filter_eq_self.2 fun y hy=>?_;obtain ⟨x,hx,rfl⟩:=List.mem_map.1 hy
 simpa using lvK_not h x hx
def plM (ps:List Pw):Sm:=ps.zipIdx.map fun x=>(x.1,(x.2:Int))
theorem plM_snoc (ps:List Pw) (p:Pw):plM (ps++[p])=plM ps++[(p,(ps.length:Int))]:=by
 unfold plM;rw [List.zipIdx_append,List.map_append]
 simp
theorem plM_keys (ps:List Pw):(plM ps).map (·.1)=ps:=by
 unfold plM;rw [List.map_map]
 conv=>rhs;rw [← List.zipIdx_map_fst 0 ps]
 rfl
theorem plM_put {ps:List Pw} {p:Pw} {v:Int} (hv:v=(ps.length:Int)) (h:p ∉ ps):(putM (plM ps) p v).Perm (plM (ps++[p])):=by
 subst hv;rw [plM_snoc];unfold putM;rw [List.filter_eq_self.2 fun y hy=>?_]
 ·exact List.perm_append_comm (l₁:=[_])
 ·have:y.1∈ps:=by rw [← plM_keys ps];exact List.mem_map.2 ⟨y,hy,rfl⟩
  simp only [decide_eq_true_eq];exact fun e=>h (e ▸ this)
theorem plM_at {ps:List Pw} (hn:ps.Nodup) {i:Nat} (hi:i<ps.length):look (plM ps) (rw_ ps i)=some (i:Int):=by
 refine look_some (by rw [plM_keys];exact hn) ?_;unfold plM;refine List.mem_map.2 ⟨(ps[i],i),?_,?_⟩
 ·exact List.mem_zipIdx_iff_getElem?.2 (by simp)
 ·have:rw_ ps i=ps[i]:=by simp [rw_,List.getD_eq_getElem?_getD,List.getElem?_eq_getElem hi]
  rw [this]
def monL (ds:List Int) (n:Int):List Pw:=(monS ds n).take 121
theorem monL_fit {ds:List Int} {n:Int} (h:fitB ds n=true):monL ds n=monS ds n:=List.take_of_length_le (by have:=of_decide_eq_true h;omega)
theorem monL_8 {ds:List Int} {n:Int} (h8:ds.length≤8) : ∀p∈monL ds n,p.length=8:=fun p hp=>(enumF_mem (by omega) rfl (List.mem_of_mem_take hp)).1
theorem mon_8 {ds:List Int} {n:Int} {m:Nat} (h8:ds.length≤8) : ∀p∈(monS ds n).take m,p.length=8:=fun p hp=>(enumF_mem (by omega) rfl (List.mem_of_mem_take hp)).1
theorem mon_small {ds:List Int} {n:Int} (h8:ds.length≤8) {p:Pw} (hp:p∈monS ds n):pwOk p:=by
 have h:=enumF_mem (by omega) rfl hp;refine ⟨h.1,fun j=>?_⟩
 by_cases hj:j<ds.length
 ·have:=h.2.2.1 j hj;rw [Nat.zero_add] at this
  omega
 ·have:=h.2.1 j (.inr (by omega));rw [this,show zP=List.replicate 8 0 from rfl,rep_get];omega
theorem mon_nodup (ds:List Int) (n:Int) (h8:ds.length≤8):(monS ds n).Nodup:=by
 refine (enumF_srt (by omega) rfl).imp fun h e=>?_;subst e;rw [before_irr] at h
 cases h
theorem mon_fresh {ds:List Int} {n:Int} {m k:Nat} (h8:ds.length≤8) (hk:k<((monS ds n).take m).length):rw_ ((monS ds n).take m) k ∉ ((monS ds n).take m).take k:=fun h=>by
 have hn:=(List.take_sublist m (monS ds n)).nodup (mon_nodup ds n h8)
 have hk':=hk
 have e:rw_ ((monS ds n).take m) k=((monS ds n).take m)[k]:=by simp [rw_,List.getD_eq_getElem?_getD,List.getElem?_eq_getElem hk']
 rw [e] at h
 obtain ⟨j,hj,hje⟩:=List.getElem_of_mem h
 rw [List.getElem_take] at hje
 rw [List.length_take] at hj
 have:=(List.getElem_inj hn).1 hje
 omega
theorem kI:KeyT Tryz.prog 2 ekI okI:=KeyT.of (Go.Maps.int_keyed u2) (fun x y h=>by injection h) fun x hx=>⟨_,Go.Maps.keyOf_int_mk u2 (by
 obtain ⟨h1,h2⟩:=hx
 simp [Lit.wf,IntKind.min,IntKind.max,IntKind.signed,IntKind.bits]
 omega)⟩
def matS (ds:List Int) (fs:List (List Term)) (n:Int):List (List Int):=(monL ds n).map fun p=>(monL ds (n+1)).map (cf (dS ds fs [(p,1)]))
def clS (ds:List Int) (fs:List (List Term)) (n:Int):List (List Int):=kerS (matS ds fs n) (monL ds (n+1)).length
def bdS (ds:List Int) (fs:List (List Term)) (n:Int):List (List Int):=if 0<n then redS (matS ds fs (n - 1)) else []
def csS (ds:List Int) (fs:List (List Term)) (n:Int):List (List Int):=redS ((clS ds fs n).map fun r=>byS r (bdS ds fs n))
def fit2 (ds:List Int) (n:Int):Prop:=fitB ds n=true∧fitB ds (n+1)=true
def fit3 (ds:List Int) (n:Int):Prop:=fit2 ds n∧(0<n→fitB ds (n - 1)=true)
structure Lv1 (H:HP) (ds:List Int) (n:Int) (x:Lv):Prop where
 len:x.l.k=(monL ds n).length
 pw:Pows H x.l.q (monL ds n)
 pl:SumH H (.map (some x.p)) (plM (monL ds n))
 z:n≤0→x.d.k=0
def SlIs (H:HP) (s:Sl) (rs:List (List Int)):Prop:=s.k=rs.length∧RowsR H s.q rs
theorem SlIs.le {H H':HP} {s:Sl} {rs:List (List Int)} (h:SlIs H s rs) (hle:Le H H'):SlIs H' s rs:=⟨h.1,h.2.le hle⟩
def Lv2 (H:HP) (ds:List Int) (fs:List (List Term)) (n:Int) (x:Lv):Prop:=SlIs H x.m (matS ds fs n)
def Lv3 (H:HP) (ds:List Int) (fs:List (List Term)) (n:Int) (x:Lv):Prop:=SlIs H x.z (clS ds fs n)∧SlIs H x.d (bdS ds fs n)∧SlIs H x.s (csS ds fs n)
structure LvOk (H:HP) (ds:List Int) (fs:List (List Term)) (X:Int→Prop) (n:Int) (x:Lv):Prop where
 one:Lv1 H ds n x
 two : ¬X n→x.m.q.isSome=true→fit2 ds n→Lv2 H ds fs n x
 three : ¬X n→x.z.q.isSome=true→fit3 ds n→Lv3 H ds fs n x
theorem Lv1.le {H H':HP} {ds:List Int} {n:Int} {x:Lv} (h:Lv1 H ds n x) (hle:Le H H'):Lv1 H' ds n x:=⟨h.len,h.pw.le hle,h.pl.le hle,h.z⟩
theorem Lv2.le {H H':HP} {ds:List Int} {fs:List (List Term)} {n:Int} {x:Lv} (h:Lv2 H ds fs n x) (hle:Le H H'):Lv2 H' ds fs n x:=SlIs.le h hle
theorem Lv3.le {H H':HP} {ds:List Int} {fs:List (List Term)} {n:Int} {x:Lv} (h:Lv3 H ds fs n x) (hle:Le H H'):Lv3 H' ds fs n x:=⟨h.1.le hle,h.2.1.le hle,h.2.2.le hle⟩
theorem LvOk.le {H H':HP} {ds:List Int} {fs:List (List Term)} {X:Int→Prop} {n:Int} {x:Lv} (h:LvOk H ds fs X n x) (hle:Le H H'):LvOk H' ds fs X n x:=⟨h.one.le hle,fun h0 h1 h2=>(h.two h0 h1 h2).le hle,fun h0 h1 h2=>(h.three h0 h1 h2).le hle⟩
structure CpxOk (H:HP) (ds:List Int) (fs:List (List Term)) (X:Int→Prop) (ls:List (Int × Lv)):Prop where
 nd:(ls.map (·.1)).Nodup
 ok : ∀x∈ls,LvOk H ds fs X x.1 x.2
theorem CpxOk.le {H H':HP} {ds:List Int} {fs:List (List Term)} {X:Int→Prop} {ls:List (Int × Lv)} (h:CpxOk H ds fs X ls) (hle:Le H H'):CpxOk H' ds fs X ls:=⟨h.nd,fun x hx=>(h.ok x hx).le hle⟩
theorem CpxOk.nil {H:HP} {ds:List Int} {fs:List (List Term)} {X:Int→Prop}:CpxOk H ds fs X []:=⟨by simp,fun x hx=>by simp at hx⟩
theorem CpxOk.cons {H:HP} {ds:List Int} {fs:List (List Term)} {X:Int→Prop} {ls:List (Int × Lv)} {n:Int} {x:Lv} (h:CpxOk H ds fs X ls) (hn : ∀y∈ls,y.1≠n) (hx:LvOk H ds fs X n x):CpxOk H ds fs X ((n,x)::ls):=
 ⟨by rw [List.map_cons,List.nodup_cons];exact ⟨fun hm=>by obtain ⟨y,hy,e⟩:=List.mem_map.1 hm;exact hn y hy e,h.nd⟩,fun y hy=>by
  rcases List.mem_cons.1 hy with rfl | hy
  ·exact hx
  ·exact h.ok y hy⟩
def Nxt (X:Int→Prop) (ls:List (Int × Lv)):Prop:=∀x∈ls,¬X x.1→x.2.m.q.isSome=true→x.1+1∈ls.map (·.1)
theorem Nxt.nil (X:Int→Prop):Nxt X []:=fun x hx=>by simp at hx
theorem Nxt.perm {X:Int→Prop} {ls ls':List (Int × Lv)} (h:Nxt X ls) (hp:ls.Perm ls'):Nxt X ls':=fun x hx hn hm=>(hp.map _).subset (h x (hp.symm.subset hx) hn hm)
theorem Nxt.fresh {X:Int→Prop} {ls:List (Int × Lv)} {n:Int} {x:Lv} (h:Nxt X ls) (hx:x.m.q=none):Nxt X ((n,x)::ls):=fun y hy hn hm=>by
 rcases List.mem_cons.1 hy with rfl | hy
 ·rw [hx] at hm
  cases hm
 ·exact List.mem_cons_of_mem _ (h y hy hn hm)
theorem key_mem {ls:List (Int × Lv)} {n:Int} (h:n∈ls.map (·.1)) : ∃x,(n,x)∈ls:=by
 obtain ⟨y,hy,rfl⟩:=List.mem_map.1 h;exact ⟨y.2,hy⟩
theorem mem_key {ls:List (Int × Lv)} {n:Int} {x:Lv} (h:(n,x)∈ls):n∈ls.map (·.1):=List.mem_map.2 ⟨_,h,rfl⟩
theorem Nxt.swap {X Y:Int→Prop} {ls:List (Int × Lv)} {n:Int} {x x':Lv} (h:Nxt X ((n,x)::ls)) (hne : ∀z∈ls,z.1≠n) (hXY : ∀m,¬Y m→m≠n→¬X m) (hx : ¬Y n→x'.m.q.isSome=true→n+1∈n::ls.map (·.1)):Nxt Y ((n,x')::ls):=fun y hy hn hm=>by
 rcases List.mem_cons.1 hy with rfl | hy
 ·exact hx hn hm
 ·exact h y (List.mem_cons_of_mem _ hy) (hXY _ hn (hne y hy)) hm
theorem CpxOk.out {H:HP} {ds:List Int} {fs:List (List Term)} {X:Int→Prop} {ls:List (Int × Lv)} {n:Int} {x:Lv} (h:CpxOk H ds fs X ls) (hx:(n,x)∈ls) : ∃rest,ls.Perm ((n,x)::rest)∧CpxOk H ds fs X rest∧(∀y∈rest,y.1≠n)∧LvOk H ds fs X n x:=by
 obtain ⟨l1,l2,rfl⟩:=List.append_of_mem hx;have hp:(l1++(n,x)::l2).Perm ((n,x)::(l1++l2)):=List.perm_middle;have hnd:=(hp.map (·.1)).nodup_iff.1 h.nd;rw [List.map_cons,List.nodup_cons] at hnd;exact ⟨l1++l2,hp,⟨hnd.2,fun y hy=>h.ok y (hp.symm.subset (by simp only [List.mem_cons];exact .inr hy))⟩,fun y hy e=>hnd.1 (List.mem_map.2 ⟨y,hy,e⟩),h.ok _ hx⟩
theorem monL_len (ds:List Int) (n:Int):(monL ds n).length≤121:=by unfold monL;rw [List.length_take];omega
theorem monL_fresh {ds:List Int} {n:Int} {k:Nat} (h8:ds.length≤8) (hk:k<(monL ds n).length):rw_ (monL ds n) k ∉ (monL ds n).take k:=mon_fresh h8 hk
theorem monL_small {ds:List Int} {n:Int} {k:Nat} (h8:ds.length≤8) (hk:k<(monL ds n).length):pwOk (rw_ (monL ds n) k):=mon_small h8 (List.mem_of_mem_take (rw_mem hk))
theorem mon121_c {B:World} {H0 H:HP} {L:List SA} {w:World} {qds:Option Addr} {cds:Nat} {ds:List Int} {n:Int} (hds:Ints H qds ds) (hd : ∀j,j<ds.length→1≤ds.getD j 0∧ds.getD j 0≤12) (h8:ds.length≤8) (hn : -1000000≤n∧n≤1000000) (hH:Hp B H0 H L w) :
 Calls Tryz.prog 167 [.slice qds ds.length cds,.int .i64 n,.int .i64 120].toArray w fun e w'=>∃q c,e = .returned (.tuple #[.slice q (monL ds n).length c,.bool (fitB ds n)])∧Hp B H0 H (own 160 8 q (monL ds n).length c (psC (monL ds n))::L) w':=monomials_c (most:=120) hds hd h8 hn (by omega) hH
theorem u170:Tryz.prog.underlying 170=some (TypeDesc.map 2 96):=by kernel_rfl
theorem u93:Tryz.prog.underlying 93=some (TypeDesc.map 160 3):=by kernel_rfl
theorem u95:Tryz.prog.underlying 95=some (TypeDesc.struct #[{name:="list",type:=92,offset:=0,embedded:=false,tag:="",pkgPath:="loop.example/g01219/impl",byteOffset:=0},{name:="place",type:=93,offset:=1,embedded:=false,tag:="",pkgPath:="loop.example/g01219/impl",byteOffset:=24},{name:="matrix",type:=57,offset:=2,embedded:=false,tag:="",pkgPath:="loop.example/g01219/impl",byteOffset:=32},{name:="closed",type:=57,offset:=3,embedded:=false,tag:="",pkgPath:="loop.example/g01219/impl",byteOffset:=56},{name:="boundaries",type:=57,offset:=4,embedded:=false,tag:="",pkgPath:="loop.example/g01219/impl",byteOffset:=80},{name:="classes",type:=57,offset:=5,embedded:=false,tag:="",pkgPath:="loop.example/g01219/impl",byteOffset:=104}]):=by kernel_rfl
theorem sz170:Size Tryz.prog 170 1:=by unfold Size;kernel_rfl
theorem sz93:Size Tryz.prog 93 1:=by unfold Size;kernel_rfl
theorem zv96:ZeroV Tryz.prog 96 (.pointer none):=fun _=>by kernel_rfl
theorem pl170:Plain Tryz.prog 170:=⟨_,u170,rfl⟩
theorem pl93:Plain Tryz.prog 93:=⟨_,u93,rfl⟩
theorem bd95_1 : ∀(b1:Nat) w,(Instr.build 95 #[(1,.map (some b1))]).run Tryz.prog w = .ok (.agg [.slice none 0 0,.map (some b1),.slice none 0 0,.slice none 0 0,.slice none 0 0,.slice none 0 0].toArray) w:=fun b1 _=>by kernel_rfl
theorem bareX_c {B:World} {H0 H:HP} {L:List SA} {w:World} {bc lc:Nat} {bca:Nat} {qcad qcaf:Option Addr} {ccad ccaf:Nat} {cad:List Int} {caf:List (List Term)} {n:Int} {ls:List (Int × Lv)} {X:Int→Prop} (pc0:CellAt H bc 0 (.pointer (some ⟨bca,0,none⟩))) (pc1:CellAt H bc 1 (.map (some lc))) (pcad:CellAt H bca 0 (.slice qcad cad.length ccad)) (pcaf:CellAt H bca 1 (.slice qcaf caf.length ccaf)) (hcad:Ints H qcad cad) (hcaf:Forms H qcaf caf) (hd : ∀j,j<cad.length→1≤cad.getD j 0∧cad.getD j 0≤12) (h8:cad.length≤8) (hn : -1000000≤n∧n≤1000000) (hC:CpxOk H cad caf X ls) (hH:Hp B H0 H (lvM lc (lvK ls)::lvO ls::L) w):Calls Tryz.prog 124 [.pointer (some ⟨bc,0,none⟩),.int .i64 n].toArray w fun e w'=>∃H' ls' x,Le H H' ∧CpxOk H' cad caf X ls' ∧(n,x)∈ls' ∧(∀y∈ls,y∈ls')∧(∀Y,Nxt Y ls→Nxt Y ls')∧e = .returned (.pointer (some ⟨x.b,0,none⟩))∧Hp B H0 H' (cpx lc ls'::L) w':=by
 refine Jz Tryz.func124 rfl 63 rfl rfl [(0,.pointer (some ⟨bc,0,none⟩)),(1,.int .i64 n)] rfl hH ?_;clear hH;refine Je fun _ hK1 _=>(Jb (Jg (Jd rfl) rfl (Jf (Ja (hK1 (Je fun _ hK2 _=>(Je fun _ hK3 _=>(Jb (Jg (Jc rfl) rfl (Jg (JG rfl) rfl (Jg (Ju u172 rfl sz170 rfl) rfl (Jg (JB (q:=some ⟨bc,0,none⟩) (k:=1) rfl pc1 pl170) rfl (Jg (Jc rfl) rfl (Jg (PR.lookO2 u170 kI zv96 rfl At.z rfl ⟨by omega,by omega⟩) rfl (Jg (Jc rfl) rfl ?_)))))))))))))));refine Jg (JM rfl rfl) rfl (Jg (JM rfl rfl) rfl (Jg (Jd rfl) rfl (Jg (Jd rfl) rfl (Jf (Ja (hK3 (Je fun _ hK4 _=>(Jb (Jg (Jc rfl) rfl (Jf (Ja (hK4 (Eg rfl (fun h19=>?_) (fun h19=>?_))))))))))))))
 ·
  refine Je fun _ hK5 _=>(Jb (Jg (Jc rfl) rfl (Jg (Jd rfl) rfl (Jf (Ja (hK5 (Js (Jk (Jq rfl (Res.tmp rfl) fun w hH=>?_)))))))));replace hH:=hH.sublist (.cons_cons _ (.cons_cons _ (List.Sublist.refl _)));obtain ⟨b,hb⟩:=Option.isSome_iff_exists.1 h19;obtain ⟨x,hx,rfl⟩:=lvK_mem hb;exact ⟨_,ls,x,(Le.refl _),hC,hx,fun y hy=>hy,fun _ h=>h,by rw [hb];rfl,hH.star⟩
 ·
  refine Jo (Ja (hK2 (Je fun _ hK6 _=>(Jb (EI pwE (Value.int .i64) pwOk rfl fun bm21=>(Jg (PR.build1 rfl (fun w=>bd95_1 _ w)) rfl (Ee rfl rfl rfl fun g23=>(Jg (Jd rfl) rfl (Jf (Ja (hK6 (Je fun _ hK7 _=>(Jb (Jg (Jc rfl) rfl (Jg (Jc rfl) rfl (Jg (JG rfl) rfl ?_))))))))))))))));refine Jg (Ju u172 rfl sz81 rfl) rfl (Jg (JB (q:=some ⟨bc,0,none⟩) (k:=0) rfl pc0 pl81) rfl (Jg (JG rfl) rfl (Jg (Ju u35 rfl sz22 rfl) rfl (Jg (JB (q:=some ⟨bca,0,none⟩) (k:=0) rfl pcad pl22) rfl (Jg (Jc rfl) rfl (Jw fn167 rfl rfl fun w hH=>(mon121_c hcad hd h8 (by omega) hH).mono ?_))))));rintro _ w ⟨qo34,co34,rfl,hH⟩;refine ⟨_,rfl,fun a hF=>JL hF hH ?_⟩;refine EA .z fun Ho34 hleo34 hAo34=>?_;replace pc0:=pc0.le hleo34;replace pc1:=pc1.le hleo34;replace pcad:=pcad.le hleo34;replace pcaf:=pcaf.le hleo34;replace hcad:=hcad.le hleo34;replace hcaf:=hcaf.le hleo34;replace hC:=hC.le hleo34;have hxo34:=own_pows (monL_8 h8) hAo34;have hco34:=own_le hAo34;refine Jg (Jc rfl) rfl (Jg (JM rfl rfl) rfl (Jg (JM rfl rfl) rfl (Jg (JG rfl) rfl (Jg (Ju u95 rfl sz92 rfl) rfl (Ez rfl rfl rfl rfl sz92 (by simp [*]) At.z (Jf (Ja (hK7 (Je fun _ hK8 _=>(Je fun _ hK9 _=>(Jb (Jg (Jc rfl) rfl (Jg (JG rfl) rfl (Jg (Ju u95 rfl sz92 rfl) rfl (Jg (Jy rfl At.z rfl pl92) rfl ?_)))))))))))))));refine Jg (Jm u92 rfl rfl) rfl (Jg (Jc rfl) rfl (Jf (Ja (hK9 (Jn (JE (σ:=Nat) (fun (k:Nat)=>[(44,.int .i64 (k:Int))]) (fun (k:Nat)=>Ho34) (fun (k:Nat)=>obj g23 (.cells [.slice qo34 (monL cad n).length co34,.map (some bm21),.slice none 0 0,.slice none 0 0,.slice none 0 0,.slice none 0 0].toArray 95 (0,0))::osum bm21 (plM ((monL cad n).take k))::lvM lc (lvK ls)::lvO ls::L) (fun (k:Nat)=>k≤(monL cad n).length) (fun (k:Nat)=>(monL cad n).length - k) 0 (by omega) ⟨rfl,trivial⟩ rfl rfl ?_))))));rintro k hk _ hAg0;refine Je fun _ hK10 _=>(Jb (Jg (JR rfl rfl) rfl (Jf (Ja (hK10 (Je fun _ hK11 _=>(Jp rfl (fun h45=>?_) (fun h45=>?_))))))))
  ·
   have hml:=monL_len cad n
   have hk1:k<(monL cad n).length:=by omega
   have h8r:=hxo34.len _ hk1;refine Jo (Ja (hK11 (Je fun _ hK12 _=>(Jn (Je fun _ hK13 _=>(Jb (Jg (Jc rfl) rfl (Jg (Ep u92 sz160 rfl rfl rfl hk1 hxo34.sm) rfl (Jg (JO rfl (hxo34.cell _ hk1) (hxo34.sm (i:=k) hk1) (by rw [intsC_length,hxo34.len _ hk1];exact ag160)) rfl (JV ze160 rfl fun g9=>(Jg (Jd rfl) rfl (JJ rfl rfl (by first | exact bytesC_one _ | exact intsC_one _ | exact Term.c_one _ | simp [Value.oneCell']) (by simpa [*] using sz160) (by simp [*]) At.z (Jf (Ja (hK13 (Ej (Rs:=[_,_,_,_,_]) 7 [[], [0], [0,1], [0,1,2], [], [], [0,1,2,3,4,5]] [[], [], [], [8], [7], [], []] [[], [], [], [], [], [], [9]] rfl rfl (by kernel_rfl) ?_))))))))))))))));apply Jj 1 rfl
   iterate 3 focus (intros;(conv=>lhs;simp only [Jh,Jt,JN,Jv,JI,eq_self,reduceEqDiff,reduceIte,reduceSub,reduceAdd,JxA,JxB]);all_goals rfl)
   ·
    intro gh X K zq zc zq2 zc2 zb zv hK;refine Jg (Jc rfl) rfl (Ji ?_);exact hK zq zc zq2 zc2 zb zv
   ·
    intro gh gh' h
    rfl
   apply Jj 2 rfl
   iterate 3 focus (intros;(conv=>lhs;simp only [Jh,Jt,JN,Jv,JI,eq_self,reduceEqDiff,reduceIte,reduceSub,reduceAdd,JxA,JxB]);all_goals rfl)
   ·
    intro gh X K zq zc zq2 zc2 zb zv hK;refine Jg (JG rfl) rfl (Ji ?_);exact hK zq zc zq2 zc2 zb zv
   ·
    intro gh gh' h
    rfl
   apply Jj 3 rfl
   iterate 3 focus (intros;(conv=>lhs;simp only [Jh,Jt,JN,Jv,JI,eq_self,reduceEqDiff,reduceIte,reduceSub,reduceAdd,JxA,JxB]);all_goals rfl)
   ·
    intro gh X K zq zc zq2 zc2 zb zv hK;refine Jg (Ju u95 rfl sz93 rfl) rfl (Ji ?_);exact hK zq zc zq2 zc2 zb zv
   ·
    intro gh gh' h
    rfl
   apply Jj 4 rfl
   iterate 3 focus (intros;(conv=>lhs;simp only [Jh,Jt,JN,Jv,JI,eq_self,reduceEqDiff,reduceIte,reduceSub,reduceAdd,JxA,JxB]);all_goals rfl)
   ·
    intro gh X K zq zc zq2 zc2 zb zv hK;refine Jg (Jy rfl At.z rfl pl93) rfl (Ji ?_);exact hK zq zc zq2 zc2 zb zv
   ·
    intro gh gh' h
    rfl
   apply Jj 5 rfl
   iterate 3 focus (intros;(conv=>lhs;simp only [Jh,Jt,JN,Jv,JI,eq_self,reduceEqDiff,reduceIte,reduceSub,reduceAdd,JxA,JxB]);all_goals rfl)
   ·
    intro gh X K zq zc zq2 zc2 zb zv hK;refine Jg (Jx rfl At.z (by simpa [*] using ag160)) rfl (Ji ?_);exact hK zq zc zq2 zc2 zb zv
   ·
    intro gh gh' h
    rfl
   apply Jj 6 rfl
   iterate 3 focus (intros;(conv=>lhs;simp only [Jh,Jt,JN,Jv,JI,eq_self,reduceEqDiff,reduceIte,reduceSub,reduceAdd,JxA,JxB]);all_goals rfl)
   ·
    intro gh X K zq zc zq2 zc2 zb zv hK;refine Jg (Jc rfl) rfl (Ji ?_);exact hK zq zc zq2 zc2 zb zv
   ·
    intro gh gh' h
    rfl
   apply ET 7 rfl
   iterate 3 focus (intros;(conv=>lhs;simp only [Jh,Jt,JN,Jv,JI,eq_self,reduceEqDiff,reduceIte,reduceSub,reduceAdd,JxA,JxB]);all_goals rfl)
   ·
    intro gh X K hK;refine J.putP pwK u93 rfl rfl rfl (monL_small h8 hk1) (show (putM _ _ _).Perm (plM ((monL cad n).take (k+1))) from by rw [rw_take hk1];exact plM_put (by rw [List.length_take];omega) (monL_fresh h8 hk1)) At.z (Ji ?_);exact hK
   ·
    intro gh gh' h
    rfl
   apply Ek [0,1,2,3,4,5,6] [0,1,2,3,4,5,6,7,8,10,11] foll0 rfl rfl rfl (by rfl)
   iterate 2 focus (intros;(conv=>lhs;simp only [Jh,Jt,JN,Jv,JI,eq_self,reduceEqDiff,reduceIte,reduceSub,reduceAdd,JxA,JxB]);all_goals rfl)
   intro gh;clear gh;refine JF (Ja (hK12 (Jb (Jg (JC rfl rfl (by first | exact nw _ (by omega) | rfl)) rfl (Jg (Jc rfl) rfl (Jf (Ja (JK (.s .z) (Jr (.s (.s (.s .z))) (Jr (.s (.s (.s .z))) (Jr (.s (.s .z)) (Jr (.s (.s (.s .z))) ?_))))))))))));exact hAg0 (k+1) (by omega) (by omega) 15 rfl rfl ⟨rfl,trivial⟩ rfl (by rfl)
  ·
   refine JH (Jl (Jl (JQ (Ja (hK8 (Je fun _ hK14 _=>(Jb (Jg (Jc rfl) rfl (Jg (JG rfl) rfl (Jg (Ju u172 rfl sz170 rfl) rfl (Jg (JB (q:=some ⟨bc,0,none⟩) (k:=1) rfl pc1 pl170) rfl (Jg (Jc rfl) rfl (Jg (Jc rfl) rfl (EA (.s .z) fun Hm21 hlem21 hAm21=>?_))))))))))))));replace pc0:=pc0.le hlem21;replace pc1:=pc1.le hlem21;replace pcad:=pcad.le hlem21;replace pcaf:=pcaf.le hlem21;replace hcad:=hcad.le hlem21;replace hcaf:=hcaf.le hlem21;replace hC:=hC.le hlem21;replace hxo34:=hxo34.le hlem21;have hxm21:=omap_H hAm21;refine J.mapUpdate (ek:=ekI) (ev:=evB) (ok:=okI) (v:=g23) u170 kI rfl rfl rfl ⟨by omega,by omega⟩ (.s .z) (Jf (Ja (hK14 (Je fun _ hK15 _=>(Jb (Jg (Jc rfl) rfl (Jg (Jd rfl) rfl (Jf (Ja (hK15 (Js (Jq rfl (Res.tmp rfl) fun w hH=>?_))))))))))));replace hH:=hH.sublist (.cons_cons _ (.cons_cons _ (.cons_cons _ (List.Sublist.refl _))))
   have hkk:k=(monL cad n).length:=by omega
   have hnk:look (lvK ls) n=none:=by simpa using h19
   rw [lvK_put hnk] at hH;refine ⟨_,(n,⟨g23,bm21,⟨qo34,(monL cad n).length,co34⟩,⟨none,0,0⟩,⟨none,0,0⟩,⟨none,0,0⟩,⟨none,0,0⟩⟩)::ls,_,(hleo34.trans hlem21),hC.cons (lvK_not hnk) ⟨⟨rfl,hxo34,?_,fun _=>rfl⟩,fun _ h=>(by cases h),fun _ h=>(by cases h)⟩,List.mem_cons_self,fun y hy=>List.mem_cons_of_mem _ hy,fun _ h=>h.fresh rfl,rfl,Hp.lvIn ((hH.front (.s (.s .z))).front (.s .z))⟩;rw [hkk,List.take_length] at hxm21;exact hxm21
theorem bareK_c {B:World} {H0 H:HP} {L:List SA} {w:World} {bc lc:Nat} {bca:Nat} {qcad qcaf:Option Addr} {ccad ccaf:Nat} {cad:List Int} {caf:List (List Term)} {n:Int} {xs:List (Int × Nat)} {b:Nat} (pc0:CellAt H bc 0 (.pointer (some ⟨bca,0,none⟩))) (pc1:CellAt H bc 1 (.map (some lc))) (pcad:CellAt H bca 0 (.slice qcad cad.length ccad)) (pcaf:CellAt H bca 1 (.slice qcaf caf.length ccaf)) (hcad:Ints H qcad cad) (hcaf:Forms H qcaf caf) (hn : -1000000≤n∧n≤1000000) (hb:look xs n=some b) (hH:Hp B H0 H (lvM lc xs::L) w):Calls Tryz.prog 124 [.pointer (some ⟨bc,0,none⟩),.int .i64 n].toArray w fun e w'=>e = .returned (.pointer (some ⟨b,0,none⟩))∧Hp B H0 H (lvM lc xs::L) w':=by
 refine Jz Tryz.func124 rfl 63 rfl rfl [(0,.pointer (some ⟨bc,0,none⟩)),(1,.int .i64 n)] rfl hH ?_;clear hH;refine Je fun _ hK1 _=>(Jb (Jg (Jd rfl) rfl (Jf (Ja (hK1 (Je fun _ hK2 _=>(Je fun _ hK3 _=>(Jb (Jg (Jc rfl) rfl (Jg (JG rfl) rfl (Jg (Ju u172 rfl sz170 rfl) rfl (Jg (JB (q:=some ⟨bc,0,none⟩) (k:=1) rfl pc1 pl170) rfl (Jg (Jc rfl) rfl (Jg (PR.lookO2 u170 kI zv96 rfl At.z rfl ⟨by omega,by omega⟩) rfl (Jg (Jc rfl) rfl ?_)))))))))))))));refine Jg (JM rfl rfl) rfl (Jg (JM rfl rfl) rfl (Jg (Jd rfl) rfl (Jg (Jd rfl) rfl (Jf (Ja (hK3 (Je fun _ hK4 _=>(Jb (Jg (Jc rfl) rfl (Jf (Ja (hK4 (Eg rfl (fun h19=>?_) (fun h19=>?_))))))))))))))
 ·
  refine Je fun _ hK5 _=>(Jb (Jg (Jc rfl) rfl (Jg (Jd rfl) rfl (Jf (Ja (hK5 (Js (Jk (Jq rfl (Res.tmp rfl) fun w hH=>?_)))))))));replace hH:=hH.sublist (.cons_cons _ (List.Sublist.refl _));exact ⟨by rw [hb];rfl,hH⟩
 ·
  exact absurd h19 (by rw [hb];simp)
theorem look_z {xs:List (Int × Nat)} {n:Int} {b:Nat}:look ((n,b)::xs) n=some b:=by simp [look,List.find?]
theorem look_s {xs:List (Int × Nat)} {n m:Int} {b b':Nat} (h:n≠m) (hl:look xs m=some b):look ((n,b')::xs) m=some b:=by
 unfold look at hl ⊢;rw [List.find?_cons_of_neg (by simpa using h)];exact hl
theorem zv3:ZeroV Tryz.prog 3 (.int .i64 0):=fun _=>by kernel_rfl
theorem bare_c {B:World} {H0 H:HP} {L:List SA} {w:World} {bc lc:Nat} {bca:Nat} {qcad qcaf:Option Addr} {ccad ccaf:Nat} {cad:List Int} {caf:List (List Term)} {n:Int} {ls:List (Int × Lv)} {X:Int→Prop} (pc0:CellAt H bc 0 (.pointer (some ⟨bca,0,none⟩))) (pc1:CellAt H bc 1 (.map (some lc))) (pcad:CellAt H bca 0 (.slice qcad cad.length ccad)) (pcaf:CellAt H bca 1 (.slice qcaf caf.length ccaf)) (hcad:Ints H qcad cad) (hcaf:Forms H qcaf caf) (hd : ∀j,j<cad.length→1≤cad.getD j 0∧cad.getD j 0≤12) (h8:cad.length≤8) (hn : -1000000≤n∧n≤1000000) (hC:CpxOk H cad caf X ls) (hH:Hp B H0 H (cpx lc ls::L) w) :
 Calls Tryz.prog 124 [.pointer (some ⟨bc,0,none⟩),.int .i64 n].toArray w fun e w'=>∃H' ls' x,Le H H' ∧CpxOk H' cad caf X ls' ∧(n,x)∈ls' ∧(∀y∈ls,y∈ls')∧(∀Y,Nxt Y ls→Nxt Y ls')∧e = .returned (.pointer (some ⟨x.b,0,none⟩))∧Hp B H0 H' (cpx lc ls'::L) w':=bareX_c pc0 pc1 pcad pcaf hcad hcaf hd h8 hn hC hH.unstar
theorem row_set {ps:List Pw} (hn:ps.Nodup) {g g':Pw→Int} {i:Nat} {v:Int} (hi:i<ps.length) (h1:g' (rw_ ps i)=v) (h2 : ∀p,p≠rw_ ps i→g' p=g p):(ps.map g).set i v=ps.map g':=by
 have e:rw_ ps i=ps[i]:=by simp [rw_,List.getD_eq_getElem?_getD,List.getElem?_eq_getElem hi]
 rw [e] at h1 h2;refine List.ext_getElem (by simp) fun j hj hj'=>?_;rw [List.getElem_set];simp only [List.length_map] at hj'
 split
 ·rename_i e
  subst e
  simp [h1]
 ·rename_i e
  rw [List.getElem_map,List.getElem_map,h2];exact fun h=>e ((List.getElem_inj hn).1 h).symm
def RowI (s:Sm) (ls:Sm) (g:Pw→Int):Prop:=(∀x∈ls,x∈s)∧(ls.map (·.1)).Nodup∧∀p,g p=if p∈ls.map (·.1) then 0 else cf s p
theorem cf_mem0 : ∀{s:Sm} {p:Pw},p ∉ s.map (·.1)→cf s p=0
 | [],_,_=>rfl
 | x::s,p,h=>by
  simp only [List.map_cons,List.mem_cons,not_or] at h
  simp only [cf]
  rw [if_neg (fun e=>h.1 e.symm)]
  exact cf_mem0 h.2
theorem RowI.start {M:Int} {s:Sm} (hs:Sok M s):RowI s s fun _=>0:=⟨fun _ h=>h,hs.nodup,fun p=>by
 split
 ·rfl
 ·rename_i h
  exact (cf_mem0 h).symm⟩
theorem cf_in {M:Int} : ∀{s:Sm},Sok M s→∀{x:Pw × Int},x∈s→cf s x.1=x.2
 | [],_,_,h=>by simp at h
 | y::s,hs,x,h=>by
  simp only [cf]
  rcases List.mem_cons.1 h with rfl | h
  ·rw [if_pos rfl]
  ·have:y.1≠x.1:=before_ne ((List.pairwise_cons.1 hs.srt).1 x h)
   rw [if_neg this]
   exact cf_in hs.tail h
def putG (g:Pw→Int) (x:Pw × Int):Pw→Int:=fun p=>if p=x.1 then x.2 else g p
theorem RowI.next {M:Int} {s:Sm} (hs:Sok M s) {la lb:Sm} {x:Pw × Int} {g:Pw→Int} (h:RowI s (la++x::lb) g):RowI s (la++lb) (putG g x):=by
 have hp:((la++x::lb).map (·.1)).Perm (x.1::(la++lb).map (·.1)):=(List.perm_middle (a:=x)).map _;have hnd:=List.nodup_cons.1 (hp.nodup_iff.1 h.2.1);refine ⟨fun y hy=>h.1 y (by simp at hy ⊢;rcases hy with h | h <;> simp [h]),hnd.2,fun p=>?_⟩;unfold putG
 by_cases e:p=x.1
 ·subst e;rw [if_pos rfl,if_neg hnd.1,cf_in hs (h.1 x (by simp))]
 ·rw [if_neg e,h.2.2 p]
  have:p∈(la++x::lb).map (·.1)↔p∈(la++lb).map (·.1):=by
   rw [hp.mem_iff,List.mem_cons];exact ⟨fun h=>h.resolve_left e,.inr⟩
  simp only [this]
theorem RowI.end {s:Sm} {g:Pw→Int} (h:RowI s [] g):g=cf s:=funext fun p=>by rw [h.2.2 p];simp
theorem RowI.set {ps:List Pw} (hn:ps.Nodup) {g:Pw→Int} {x:Pw × Int} {i:Nat} (hi:i<ps.length) (hx:rw_ ps i=x.1):(ps.map g).set i x.2=ps.map (putG g x):=
 row_set hn hi (by rw [hx];unfold putG;rw [if_pos rfl]) fun p hp=>by unfold putG;rw [if_neg (hx ▸ hp)]
theorem map_zero (ps:List Pw):List.replicate ps.length (0:Int)=ps.map fun _=>0:=by
 induction ps with
 | nil=>rfl
 | cons p ps ih=>rw [List.length_cons,List.replicate_succ,ih];rfl
theorem look_at {ps:List Pw} (hn:ps.Nodup) {i:Nat} {p:Pw} (hi:i<ps.length) (hx:rw_ ps i=p):(look (plM ps) p).elim (Value.int .i64 0) (Value.int .i64) = .int .i64 (i:Int):=by
 rw [← hx,plM_at hn hi]
 rfl
def rowK (ps:List Pw) (row:List Int) (k:Nat):Sm:=(List.range k).map fun i=>(rw_ ps i,row.getD i 0)
theorem rowK_succ (ps:List Pw) (row:List Int) (k:Nat):rowK ps row (k+1)=rowK ps row k++[(rw_ ps k,row.getD k 0)]:=by
 unfold rowK;rw [List.range_succ,List.map_append]
 rfl
def sumR (ps:List Pw) (row:List Int):Sm:=acc [] (rowK ps row row.length)
theorem rowK_sok {M:Int} {ps:List Pw} (h : ∀p∈ps,Pok M p) {row:List Int} {k:Nat} (hk:k≤ps.length):Sok M (acc [] (rowK ps row k)):=Sok.nil.acc fun x hx=>by
 obtain ⟨i,hi,rfl⟩:=List.mem_map.1 hx
 exact h _ (rw_mem (by have:=List.mem_range.1 hi;omega))
theorem sumR_sok {M:Int} {ps:List Pw} (h : ∀p∈ps,Pok M p) {row:List Int} (hk:row.length≤ps.length):Sok M (sumR ps row):=rowK_sok h hk
theorem row_c {B:World} {H0 H:HP} {L:List SA} {w:World} {bl plb:Nat} {ql:Option Addr} {cl:Nat} {ps:List Pw} {vs:Value} {Ms:Int} {s:Sm} (pl0:CellAt H bl 0 (.slice ql ps.length cl)) (pl1:CellAt H bl 1 (.map (some plb))) (hs:SumH H vs s) (ks:Sok Ms s) (hps:Pows H ql ps) (hpl:SumH H (.map (some plb)) (plM ps)) (hnd:ps.Nodup) (hM:Ms≤1000000) (hin : ∀x∈s,x.1∈ps) (hpl1:ps.length≤1000000) (hH:Hp B H0 H L w):Calls Tryz.prog 117 [.pointer (some ⟨bl,0,none⟩),vs].toArray w fun e w'=>∃q c,e = .returned (.slice q (ps.map (cf s)).length c)∧Hp B H0 H (own 2 1 q (ps.map (cf s)).length c (intsC (ps.map (cf s)))::L) w':=by
 refine Jz Tryz.func117 rfl 31 rfl rfl [(0,.pointer (some ⟨bl,0,none⟩)),(1,vs)] rfl hH ?_;clear hH;obtain ⟨bs,ess,cls,rfl,hbs,hes⟩:=hs;have hs:SumH H (.map (some bs)) s:=⟨bs,ess,cls,rfl,hbs,hes⟩;refine Je fun _ hK1 _=>(Jb (Jg (Jd rfl) rfl (Jf (Ja (hK1 (Je fun _ hK2 _=>(Jb (Jg (Jc rfl) rfl (Jg (JG rfl) rfl (Jg (Ju u95 rfl sz92 rfl) rfl (Jg (JB (q:=some ⟨bl,0,none⟩) (k:=0) rfl pl0 pl92) rfl (Jg (Jm u92 rfl rfl) rfl (EK (MK.makeI (m:=ps.length) u22 ze2 sz2 by2 rfl rfl rfl rfl (by omega)) rfl fun qo13 co13=>(Jg (EN (v':=.slice qo13 ps.length co13) (by rw [List.length_replicate]) (Jd rfl)) rfl (Jf ?_)))))))))))))));refine Ja (hK2 (Je fun _ hK3 _=>(Je fun _ hK4 _=>(Jb (Jg (Jc rfl) rfl (J.range u84 rfl hbs hes rfl fun r15=>(Jf (Ja (hK4 (Jn (JE (σ:=Option (Pw × Int) × Sm × (Pw→Int)) (fun ⟨la,ls,g⟩=>[]) (fun ⟨la,ls,g⟩=>H) (fun ⟨la,ls,g⟩=>itr pwE (Value.int .i64) bs ess cls r15 la ls::own 2 1 qo13 ps.length co13 (intsC (ps.map g))::L) (fun ⟨la,ls,g⟩=>RowI s ls g) (fun ⟨la,ls,g⟩=>ls.length) (none,s,fun _=>0) (RowI.start ks) trivial rfl (by dsimp only;rw [← map_zero,List.length_replicate]) ?_)))))))))));rintro ⟨la,ls,g⟩ hI _ hAg0;refine Je fun _ hK5 _=>(Jb (J.next rfl hbs hes (fun _ _=>At.z) rfl (fun hE16=>?_) (fun nx16 la16 lb16 hL16=>?_)))
 ·
  refine Jg (JM rfl rfl) rfl (Jf (Ja (hK5 (Je fun _ hK6 _=>(Et rfl (JH (Jl (Jl (JQ (Ja (hK3 (Je fun _ hK7 _=>(Jb (Jg (Jc rfl) rfl (Jg (Jd rfl) rfl (Jf ?_))))))))))))))));refine Ja (hK7 (Js (Jq rfl (Res.tmp rfl) fun w hH=>?_)));replace hH:=hH.sublist (.cons _ (.cons_cons _ (List.Sublist.refl _)));have hI2:RowI s ls g:=hI;rw [hE16] at hI2;rw [hI2.end] at hH;exact ⟨_,_,by rw [List.length_map],by rw [List.length_map];exact hH⟩
 ·
  subst hL16;have hu:=hI.1 nx16 (by simp);obtain ⟨i,hi,hie⟩:=mem_rw.1 (hin nx16 hu);have hu8:=(ks.key nx16 hu).len;refine Jg (JM rfl rfl) rfl (Jf (Ja (hK5 (Je fun _ hK8 _=>(Ey rfl (Jo (Ja (hK8 (Jn (Je fun _ hK9 _=>(Jb (Jg (PR.entry rfl hbs hes At.z) rfl (Jg (JM rfl rfl) rfl (Jg (JM rfl rfl) rfl (JV ze160 rfl fun g6=>(JJ rfl rfl (by first | exact bytesC_one _ | exact intsC_one _ | exact Term.c_one _ | simp [Value.oneCell']) (by simpa [*] using sz160) (by simp [*]) At.z ?_))))))))))))))));refine Jg (Jd rfl) rfl (Jf (Ja (hK9 (Ej (Rs:=[_,_,_]) 10 [[], [], [1], [1,2], [1,2,3], [], [1,2,3,4,5], [], [0,1,2,3,4,5,6,7], [0,1,2,3,4,5,6,7,8]] [[], [], [], [], [], [10], [], [], [12], []] [[], [], [], [], [], [], [], [], [], [12]] rfl rfl (by kernel_rfl) ?_))));apply Jj 1 rfl
  iterate 3 focus (intros;(conv=>lhs;simp only [Jh,Jt,JN,Jv,JI,eq_self,reduceEqDiff,reduceIte,reduceSub,reduceAdd,JxA,JxB]);all_goals rfl)
  ·
   intro gh X K zq zc zq2 zc2 zb zv hK;refine Jg (Jc rfl) rfl (Ji ?_);exact hK zq zc zq2 zc2 zb zv
  ·
   intro gh gh' h
   rfl
  apply Jj 2 rfl
  iterate 3 focus (intros;(conv=>lhs;simp only [Jh,Jt,JN,Jv,JI,eq_self,reduceEqDiff,reduceIte,reduceSub,reduceAdd,JxA,JxB]);all_goals rfl)
  ·
   intro gh X K zq zc zq2 zc2 zb zv hK;refine Jg (Jc rfl) rfl (Ji ?_);exact hK zq zc zq2 zc2 zb zv
  ·
   intro gh gh' h
   rfl
  apply Jj 3 rfl
  iterate 3 focus (intros;(conv=>lhs;simp only [Jh,Jt,JN,Jv,JI,eq_self,reduceEqDiff,reduceIte,reduceSub,reduceAdd,JxA,JxB]);all_goals rfl)
  ·
   intro gh X K zq zc zq2 zc2 zb zv hK;refine Jg (JG rfl) rfl (Ji ?_);exact hK zq zc zq2 zc2 zb zv
  ·
   intro gh gh' h
   rfl
  apply Jj 4 rfl
  iterate 3 focus (intros;(conv=>lhs;simp only [Jh,Jt,JN,Jv,JI,eq_self,reduceEqDiff,reduceIte,reduceSub,reduceAdd,JxA,JxB]);all_goals rfl)
  ·
   intro gh X K zq zc zq2 zc2 zb zv hK;refine Jg (Ju u95 rfl sz93 rfl) rfl (Ji ?_);exact hK zq zc zq2 zc2 zb zv
  ·
   intro gh gh' h
   rfl
  apply Jj 5 rfl
  iterate 3 focus (intros;(conv=>lhs;simp only [Jh,Jt,JN,Jv,JI,eq_self,reduceEqDiff,reduceIte,reduceSub,reduceAdd,JxA,JxB]);all_goals rfl)
  ·
   intro gh X K zq zc zq2 zc2 zb zv hK;refine Jg (JB (q:=some ⟨bl,0,none⟩) (k:=1) rfl pl1 pl93) rfl (Ji ?_);exact hK zq zc zq2 zc2 zb zv
  ·
   intro gh gh' h
   rfl
  apply Jj 6 rfl
  iterate 3 focus (intros;(conv=>lhs;simp only [Jh,Jt,JN,Jv,JI,eq_self,reduceEqDiff,reduceIte,reduceSub,reduceAdd,JxA,JxB]);all_goals rfl)
  ·
   intro gh X K zq zc zq2 zc2 zb zv hK;refine Jg (Jx rfl At.z (by simpa [*] using ag160)) rfl (Ji ?_);exact hK zq zc zq2 zc2 zb zv
  ·
   intro gh gh' h
   rfl
  apply Jj 7 rfl
  iterate 3 focus (intros;(conv=>lhs;simp only [Jh,Jt,JN,Jv,JI,eq_self,reduceEqDiff,reduceIte,reduceSub,reduceAdd,JxA,JxB]);all_goals rfl)
  ·
   intro gh X K zq zc zq2 zc2 zb zv hK;refine Jg (EN (v':=.int .i64 (i:Int)) (look_at hnd hi hie) (PR.lookH u93 pwK zv3 rfl hpl rfl (pwOk_of (ks.key nx16 hu) hM))) rfl (Ji ?_);exact hK zq zc zq2 zc2 zb zv
  ·
   intro gh gh' h
   rfl
  apply Jj 8 rfl
  iterate 3 focus (intros;(conv=>lhs;simp only [Jh,Jt,JN,Jv,JI,eq_self,reduceEqDiff,reduceIte,reduceSub,reduceAdd,JxA,JxB]);all_goals rfl)
  ·
   intro gh X K zq zc zq2 zc2 zb zv hK;refine Jg (Jc rfl) rfl (Ji ?_);exact hK zq zc zq2 zc2 zb zv
  ·
   intro gh gh' h
   rfl
  apply Jj 9 rfl
  iterate 3 focus (intros;(conv=>lhs;simp only [Jh,Jt,JN,Jv,JI,eq_self,reduceEqDiff,reduceIte,reduceSub,reduceAdd,JxA,JxB]);all_goals rfl)
  ·
   intro gh X K zq zc zq2 zc2 zb zv hK;refine Jg (Es u22 sz2 rfl rfl rfl (by omega) At.z) rfl (Ji ?_);exact hK zq zc zq2 zc2 zb zv
  ·
   intro gh gh' h
   rfl
  apply ET 10 rfl
  iterate 3 focus (intros;(conv=>lhs;simp only [Jh,Jt,JN,Jv,JI,eq_self,reduceEqDiff,reduceIte,reduceSub,reduceAdd,JxA,JxB]);all_goals rfl)
  ·
   intro gh X K hK;refine J.storeWI rfl rfl sz2 (by omega) At.z (Ji ?_);exact hK
  ·
   intro gh gh' h
   rfl
  apply Ek [0,1,2,3,4,5,6,7,8,9] [0,1,2,3,4,5,6,7,8,9,10,11] foll0 rfl rfl rfl (by rfl)
  iterate 2 focus (intros;(conv=>lhs;simp only [Jh,Jt,JN,Jv,JI,eq_self,reduceEqDiff,reduceIte,reduceSub,reduceAdd,JxA,JxB]);all_goals rfl)
  intro gh;clear gh;refine JF (Ja (JK (.s .z) (Jr .z (Jr (.s .z) ?_))));exact hAg0 (some nx16,la16++lb16,putG g nx16) (hI.next ks) (by simp) 16 rfl rfl trivial rfl (by rw [RowI.set hnd hi hie])
theorem sum_c {B:World} {H0 H:HP} {L:List SA} {w:World} {bl plb:Nat} {ql:Option Addr} {cl:Nat} {ps:List Pw} {qrow:Option Addr} {crow:Nat} {row:List Int} {M:Int} (pl0:CellAt H bl 0 (.slice ql ps.length cl)) (pl1:CellAt H bl 1 (.map (some plb))) (hrow:Ints H qrow row) (hps:Pows H ql ps) (hok : ∀p∈ps,Pok M p) (hM:M≤1000000) (hrl:row.length≤ps.length) (hrv : ∀j, -1000000000≤row.getD j 0∧row.getD j 0≤1000000000) (hpl1:ps.length≤1000000) (hH:Hp B H0 H L w):Calls Tryz.prog 137 [.pointer (some ⟨bl,0,none⟩),.slice qrow row.length crow].toArray w fun e w'=>∃b,e = .returned (.map (some b))∧Hp B H0 H (osum b (sumR ps row)::L) w':=by
 refine Jz Tryz.func137 rfl 28 rfl rfl [(0,.pointer (some ⟨bl,0,none⟩)),(1,.slice qrow row.length crow)] rfl hH ?_;clear hH;refine Je fun _ hK1 _=>(Jb (Jg (Jd rfl) rfl (Jf (Ja (hK1 (Je fun _ hK2 _=>(Jb (EI pwE (Value.int .i64) pwOk rfl fun bm8=>(Jg (Jd rfl) rfl (Jf (Ja (hK2 (Je fun _ hK3 _=>(Je fun _ hK4 _=>(Jb (Jg (Jc rfl) rfl ?_))))))))))))))));refine Jg (Jm u22 rfl rfl) rfl (Jg (Jc rfl) rfl (Jf (Ja (hK4 (Jn (JE (σ:=Nat) (fun (k:Nat)=>[(11,.int .i64 (k:Int))]) (fun (k:Nat)=>H) (fun (k:Nat)=>osum bm8 (acc [] (rowK ps row k))::L) (fun (k:Nat)=>k≤row.length) (fun (k:Nat)=>row.length - k) 0 (by omega) ⟨rfl,trivial⟩ rfl rfl ?_))))));rintro k hk _ hAg0;have ksn:Sok M (acc [] (rowK ps row k)):=rowK_sok hok (by omega);refine Je fun _ hK5 _=>(Jb (Jg (JR rfl rfl) rfl (Jf (Ja (hK5 (Je fun _ hK6 _=>(Jp rfl (fun h12=>?_) (fun h12=>?_))))))))
 ·
  have hkk:k<row.length:=by omega
  have hrk:=hrv k;have hpk:=hok _ (rw_mem (show k<ps.length by omega));refine Jo (Ja (hK6 (Je fun _ hK7 _=>(Jn (Je fun _ hK8 _=>(Jb (Jg (Jc rfl) rfl (Jg (JP u22 sz2 rfl rfl rfl (by omega) hrow.sm) rfl (Jg (JB rfl (hrow _ (by omega)) pl2) rfl (Jg (Jd rfl) rfl (Jg (Jd rfl) rfl (Jf (Ja (hK8 (Jb (Jg (Jc rfl) rfl ?_))))))))))))))));refine Jg (Jc rfl) rfl (Jg (JG rfl) rfl (Jg (Ju u95 rfl sz92 rfl) rfl (Jg (JB (q:=some ⟨bl,0,none⟩) (k:=0) rfl pl0 pl92) rfl (Jg (Jc rfl) rfl (Jg (Ep u92 sz160 rfl rfl rfl (by omega) hps.sm) rfl (Jg (JO rfl (hps.cell _ (by omega)) (hps.sm (i:=k) (by omega)) (by rw [intsC_length,hps.len _ (by omega)];exact ag160)) rfl (Jg (Jc rfl) rfl (Jw fn139 rfl rfl fun w hH=>(add_c ksn hpk (by omega) (by omega) (by omega) (hH.front .z)).mono ?_))))))));rintro _ w ⟨rfl,hH⟩;refine ⟨_,rfl,fun a hF=>JL hF hH ?_⟩;refine Jf (JF (Ja (hK7 (Jb (Jg (JC rfl rfl (by first | exact nw _ (by omega) | rfl)) rfl (Jg (Jc rfl) rfl (Jf (Ja ?_))))))));exact hAg0 (k+1) (by omega) (by omega) 19 rfl rfl ⟨rfl,trivial⟩ rfl (by rw [rowK_succ,acc_one])
 ·
  refine JH (Jl (Jl (JQ (Ja (hK3 (Je fun _ hK9 _=>(Jb (Jg (Jc rfl) rfl (Jg (Jd rfl) rfl (Jf (Ja (hK9 (Js (Jq rfl (Res.tmp rfl) fun w hH=>?_))))))))))))));replace hH:=hH.sublist (.cons_cons _ (List.Sublist.refl _));rw [show k=row.length by omega] at hH;exact ⟨_,rfl,hH⟩
theorem sz57:Size Tryz.prog 57 1:=by unfold Size;kernel_rfl
theorem pl57:Plain Tryz.prog 57:=⟨_,u57,rfl⟩
theorem fn117:Fn Tryz.prog 117:=⟨_,Tryz.func117,by kernel_rfl,rfl⟩
theorem fn124:Fn Tryz.prog 124:=⟨_,Tryz.func124,by kernel_rfl,rfl⟩
theorem CpxOk.mono {H:HP} {ds:List Int} {fs:List (List Term)} {X Y:Int→Prop} {ls:List (Int × Lv)} (h:CpxOk H ds fs X ls) (hXY : ∀x∈ls,X x.1→Y x.1):CpxOk H ds fs Y ls:=⟨h.nd,fun x hx=>⟨(h.ok x hx).one,fun hn=>(h.ok x hx).two fun h'=>hn (hXY x hx h'),fun hn=>(h.ok x hx).three fun h'=>hn (hXY x hx h')⟩⟩
theorem LvOk.mono {H:HP} {ds:List Int} {fs:List (List Term)} {X Y:Int→Prop} {n:Int} {x:Lv} (h:LvOk H ds fs X n x) (hXY:X n→Y n):LvOk H ds fs Y n x:=⟨h.one,fun hn=>h.two fun h'=>hn (hXY h'),fun hn=>h.three fun h'=>hn (hXY h')⟩
theorem CpxOk.out2 {H:HP} {ds:List Int} {fs:List (List Term)} {X:Int→Prop} {ls:List (Int × Lv)} {n m:Int} {x y:Lv} (h:CpxOk H ds fs X ls) (hx:(n,x)∈ls) (hy:(m,y)∈ls) (hnm:n≠m) : ∃rest,ls.Perm ((n,x)::(m,y)::rest)∧CpxOk H ds fs X rest∧(∀z∈rest,z.1≠n∧z.1≠m)∧LvOk H ds fs X n x∧LvOk H ds fs X m y:=by
 obtain ⟨r1,hp1,hC1,hn1,hL1⟩:=h.out hx
 have hy1:(m,y)∈r1:=by
  rcases List.mem_cons.1 (hp1.subset hy) with e | e
  ·exact absurd (congrArg Prod.fst e).symm hnm
  ·exact e
 obtain ⟨r2,hp2,hC2,hn2,hL2⟩:=hC1.out hy1;exact ⟨r2,hp1.trans (hp2.cons _),hC2,fun z hz=>⟨hn1 z (hp2.symm.subset (List.mem_cons_of_mem _ hz)),hn2 z hz⟩,hL1,hL2⟩
section
variable {B : World} {H0 H : HP} {L : List SA} {w : World}
theorem Hp.lvOut2 {lb:Nat} {ls rest:List (Int × Lv)} {x y:Int × Lv} (hp:ls.Perm (x::y::rest)) (h:Hp B H0 H (cpx lb ls::L) w):Hp B H0 H (lvB x.2::lvB y.2::lvO rest::lvM lb ((x.1,x.2.b)::(y.1,y.2.b)::lvK rest)::L) w:=by
 have h1:=h.lvOut hp;have h2:=(h1.front (.s .z)).unstar;exact (h2.front (.s (.s .z)))
theorem Hp.lvIn2 {lb:Nat} {rest:List (Int × Lv)} {x y:Int × Lv} (h:Hp B H0 H (lvB x.2::lvB y.2::lvO rest::lvM lb ((x.1,x.2.b)::(y.1,y.2.b)::lvK rest)::L) w):Hp B H0 H (cpx lb (x::y::rest)::L) w:=by
 have h1:=h.front (.s .z);have h2:=(h1.front (.s (.s .z))).front (.s .z);exact Hp.lvIn (x:=x) (rest:=y::rest) ((h2.star.front (.s .z)))
end
def matK (ds:List Int) (fs:List (List Term)) (n:Int) (k:Nat):List (List Int):=((monL ds n).take k).map fun p=>(monL ds (n+1)).map (cf (dS ds fs [(p,1)]))
theorem matK_succ {ds:List Int} {fs:List (List Term)} {n:Int} {k:Nat} (hk:k<(monL ds n).length):matK ds fs n (k+1)=matK ds fs n k++[(monL ds (n+1)).map (cf (dS ds fs [(rw_ (monL ds n) k,1)]))]:=by
 unfold matK;rw [rw_take hk,List.map_append]
 rfl
theorem matK_end {ds:List Int} {fs:List (List Term)} {n:Int} {k:Nat} (hk:k=(monL ds n).length):matK ds fs n k=matS ds fs n:=by
 subst hk;unfold matK matS;rw [List.take_length]
theorem matS_len (ds:List Int) (fs:List (List Term)) (n:Int):(matS ds fs n).length=(monL ds n).length:=by simp [matS]
theorem mon_pok {ds:List Int} {n:Int} (h8:ds.length≤8) {p:Pw} (hp:p∈monS ds n):Pok 20 p:=by
 have h:=enumF_mem (by omega) rfl hp;refine ⟨h.1,fun j=>?_⟩
 by_cases hj:j<ds.length
 ·have:=h.2.2.1 j hj;rw [Nat.zero_add] at this
  omega
 ·have:=h.2.1 j (.inr (by omega));rw [this,show zP=List.replicate 8 0 from rfl,rep_get];omega
theorem mon_ex {ds:List Int} {n:Int} (h8:ds.length≤8) {p:Pw} (hp:p∈monS ds n) (hd : ∀j,j<ds.length→1≤ds.getD j 0∧ds.getD j 0≤12):Ex ds p:=by
 have h:=enumF_mem (by omega) rfl hp;refine ⟨fun i hi=>?_,fun i hi ho=>?_⟩
 ·have:=h.2.1 i (.inr (by omega));rw [this,show zP=List.replicate 8 0 from rfl,rep_get]
 ·have h1:=h.2.2.1 i hi;rw [Nat.zero_add] at h1;refine h1.2.2 ?_;have:=hd i hi;have:=tmod_two (d:=ds.getD i 0) (by omega)
  omega
theorem mon_occ {ds:List Int} {n:Int} {k:Nat} (h8:ds.length≤8) {p:Pw} (hp:p∈monS ds n) (hd : ∀j,j<ds.length→1≤ds.getD j 0∧ds.getD j 0≤12) (hk:k=ds.length):Occ k [(p,1)]:=Ex.occ (fun x hx=>by rw [List.mem_singleton.1 hx];exact mon_ex h8 hp hd) hk
theorem monL_mem {ds:List Int} {n:Int} {k:Nat} (hk:k<(monL ds n).length):rw_ (monL ds n) k∈monS ds n:=List.mem_of_mem_take (rw_mem hk)
theorem monL_nodup {ds:List Int} (h8:ds.length≤8) (n:Int):(monL ds n).Nodup:=(List.take_sublist _ _).nodup (mon_nodup ds n h8)
def Fl (x:Lv):Prop:=x.m.q.isSome=true∧x.z.q.isSome=true
def Kp (ls ls':List (Int × Lv)):Prop:=∀y∈ls,Fl y.2→y∈ls'
theorem Kp.refl (ls:List (Int × Lv)):Kp ls ls:=fun _ h _=>h
theorem Kp.perm {a b c:List (Int × Lv)} (h:Kp a b) (hp:b.Perm c):Kp a c:=fun y hy hF=>hp.subset (h y hy hF)
def Hom1 (ds:List Int) (fs:List (List Term)) (n:Int):Prop:=∀p∈monL ds n,∀x∈dS ds fs [(p,1)],x.1∈monL ds (n+1)
theorem withMatrix_c {B:World} {H0 H:HP} {L:List SA} {w:World} {bc lc:Nat} {bca:Nat} {qcad qcaf:Option Addr} {ccad ccaf:Nat} {cad:List Int} {caf:List (List Term)} {n:Int} {ls:List (Int × Lv)} {X:Int→Prop} (pc0:CellAt H bc 0 (.pointer (some ⟨bca,0,none⟩))) (pc1:CellAt H bc 1 (.map (some lc))) (pcad:CellAt H bca 0 (.slice qcad cad.length ccad)) (pcaf:CellAt H bca 1 (.slice qcaf caf.length ccaf)) (hcad:Ints H qcad cad) (hcaf:Forms H qcaf caf) (hd : ∀j,j<cad.length→1≤cad.getD j 0∧cad.getD j 0≤12) (h8:cad.length≤8) (hn : -1≤n∧n≤100000) (hA:AlgOk cad caf) (hX : ¬X n) (hfit:fit2 cad n) (hom:Hom1 cad caf n) (hC:CpxOk H cad caf X ls) (hN:Nxt X ls) (hH:Hp B H0 H (cpx lc ls::L) w):Calls Tryz.prog 122 [.pointer (some ⟨bc,0,none⟩),.int .i64 n].toArray w fun e w'=>∃H' ls' x,Le H H' ∧CpxOk H' cad caf X ls' ∧(n,x)∈ls' ∧(∀y∈ls,y.1≠n→y∈ls')∧Nxt X ls' ∧n+1∈ls'.map (·.1)∧(Lv2 H' cad caf n x∧Kp ls ls')∧e = .returned (.pointer (some ⟨x.b,0,none⟩))∧Hp B H0 H' (cpx lc ls'::L) w':=by
 refine Jz Tryz.func122 rfl 55 rfl rfl [(0,.pointer (some ⟨bc,0,none⟩)),(1,.int .i64 n)] rfl hH ?_;have hw0:=hH.old;have hw1:=hH.le;clear hH;refine Je fun _ hK1 _=>(Jb (Jg (Jd rfl) rfl (Jf (Ja (hK1 (Je fun _ hK2 _=>(Jb (Jg (Jc rfl) rfl (Jg (Jc rfl) rfl (Jw fn124 rfl rfl fun w hH=>(bare_c (n:=n) pc0 pc1 pcad pcaf hcad hcaf hd h8 (by omega) hC hH).mono ?_))))))))));rintro _ w ⟨H11,ls11,⟨b11,p11,⟨ql11,kl11,cl11⟩,⟨qm11,km11,cm11⟩,⟨qz11,kz11,cz11⟩,⟨qy11,ky11,cy11⟩,⟨qx11,kx11,cx11⟩⟩,hle11,hC11,hx11,hsub11,hN11,rfl,hH⟩;refine ⟨_,rfl,fun a hF=>JL hF hH ?_⟩;replace pc0:=pc0.le hle11;replace pc1:=pc1.le hle11;replace pcad:=pcad.le hle11;replace pcaf:=pcaf.le hle11;replace hcad:=hcad.le hle11;replace hcaf:=hcaf.le hle11;replace hC:=hC.le hle11;obtain ⟨rs11,hp11,hCr11,hne11,hL11⟩:=hC11.out hx11;obtain rfl:kl11=(monL cad (n)).length:=hL11.one.len;have hpw11:Pows H11 ql11 (monL cad (n)):=hL11.one.pw;have hpl11:SumH H11 (.map (some p11)) (plM (monL cad (n))):=hL11.one.pl;refine J.reL (L':=obj b11 (.cells [.slice ql11 (monL cad (n)).length cl11,.map (some p11),.slice qm11 km11 cm11,.slice qz11 kz11 cz11,.slice qy11 ky11 cy11,.slice qx11 kx11 cx11].toArray 95 (0,0))::lvO rs11::lvM lc ((n,b11)::lvK rs11)::_) (fun w hH=>Hp.lvOut (x:=(n,⟨b11,p11,⟨ql11,(monL cad (n)).length,cl11⟩,⟨qm11,km11,cm11⟩,⟨qz11,kz11,cz11⟩,⟨qy11,ky11,cy11⟩,⟨qx11,kx11,cx11⟩⟩)) hp11 hH) (Jg (Jd rfl) rfl (Jf (Ja (hK2 (Je fun _ hK3 _=>(Je fun _ hK4 _=>(Jb (Jg (Jc rfl) rfl (Jg (JG rfl) rfl (Jg (Ju u95 rfl sz57 rfl) rfl (Jg (Jy rfl At.z rfl pl57) rfl (Jg (PR.eqlNil u57 rfl rfl) rfl (Jf (Ja (hK4 (Eg rfl (fun h16=>?_) (fun h16=>?_)))))))))))))))))
 ·
  refine Je fun _ hK5 _=>(Jb (Jg (Jc rfl) rfl (EK (EP u57 sz22) rfl fun qo18 co18=>(Jg (JG rfl) rfl (Jg (Ju u95 rfl sz57 rfl) rfl (Ez rfl rfl rfl rfl sz57 (by simp [*]) (.s .z) (Jf (Ja (hK5 (Je fun _ hK6 _=>(Jb (Jg (Jc rfl) rfl (Jg (Jc rfl) rfl (Jg (JC rfl rfl (by first | exact nw _ (by omega) | rfl)) rfl ?_))))))))))))));have hC0:CpxOk H11 cad caf (fun m=>X m∨m=n) ((n,⟨b11,p11,⟨ql11,(monL cad (n)).length,cl11⟩,⟨qo18,0,co18⟩,⟨qz11,kz11,cz11⟩,⟨qy11,ky11,cy11⟩,⟨qx11,kx11,cx11⟩⟩)::rs11):=(hCr11.mono fun x _ h=>.inl h).cons hne11 ⟨⟨rfl,hpw11,hpl11,hL11.one.z⟩,fun h=>absurd (.inr rfl) h,fun h=>absurd (.inr rfl) h⟩;refine J.reL (fun w hH=>Hp.lvIn (x:=(n,⟨b11,p11,⟨ql11,(monL cad (n)).length,cl11⟩,⟨qo18,0,co18⟩,⟨qz11,kz11,cz11⟩,⟨qy11,ky11,cy11⟩,⟨qx11,kx11,cx11⟩⟩)) (rest:=rs11) (((hH.front (.s (.s (.s .z)))).front (.s (.s (.s .z)))).front (.s (.s (.s .z))))) (Jw fn124 rfl rfl fun w hH=>(bare_c (n:=n+1) pc0 pc1 pcad pcaf hcad hcaf hd h8 (by omega) hC0 hH).mono ?_);rintro _ w ⟨H24,ls24,⟨b24,p24,⟨ql24,kl24,cl24⟩,⟨qm24,km24,cm24⟩,⟨qz24,kz24,cz24⟩,⟨qy24,ky24,cy24⟩,⟨qx24,kx24,cx24⟩⟩,hle24,hC24,hx24,hsub24,hN24,rfl,hH⟩;refine ⟨_,rfl,fun a hF=>JL hF hH ?_⟩;replace pc0:=pc0.le hle24;replace pc1:=pc1.le hle24;replace pcad:=pcad.le hle24;replace pcaf:=pcaf.le hle24;replace hcad:=hcad.le hle24;replace hcaf:=hcaf.le hle24;replace hC:=hC.le hle24;replace hCr11:=hCr11.le hle24;replace hL11:=hL11.le hle24;replace hpw11:=hpw11.le hle24;replace hpl11:=hpl11.le hle24;obtain ⟨rs24,hp24,hCr24,hne24,hM24,hL24⟩:=hC24.out2 (hsub24 (n,⟨b11,p11,⟨ql11,(monL cad (n)).length,cl11⟩,⟨qo18,0,co18⟩,⟨qz11,kz11,cz11⟩,⟨qy11,ky11,cy11⟩,⟨qx11,kx11,cx11⟩⟩) (by simp)) hx24 (by omega);obtain rfl:kl24=(monL cad (n+1)).length:=hL24.one.len;have hpw24:Pows H24 ql24 (monL cad (n+1)):=hL24.one.pw;have hpl24:SumH H24 (.map (some p24)) (plM (monL cad (n+1))):=hL24.one.pl;refine J.reL (L':=obj b11 (.cells [.slice ql11 (monL cad (n)).length cl11,.map (some p11),.slice qo18 0 co18,.slice qz11 kz11 cz11,.slice qy11 ky11 cy11,.slice qx11 kx11 cx11].toArray 95 (0,0))::obj b24 (.cells [.slice ql24 (monL cad (n+1)).length cl24,.map (some p24),.slice qm24 km24 cm24,.slice qz24 kz24 cz24,.slice qy24 ky24 cy24,.slice qx24 kx24 cx24].toArray 95 (0,0))::lvO rs24::lvM lc ((n,b11)::(n+1,b24)::lvK rs24)::_) (fun w hH=>Hp.lvOut2 (x:=(n,⟨b11,p11,⟨ql11,(monL cad (n)).length,cl11⟩,⟨qo18,0,co18⟩,⟨qz11,kz11,cz11⟩,⟨qy11,ky11,cy11⟩,⟨qx11,kx11,cx11⟩⟩)) (y:=(n+1,⟨b24,p24,⟨ql24,(monL cad (n+1)).length,cl24⟩,⟨qm24,km24,cm24⟩,⟨qz24,kz24,cz24⟩,⟨qy24,ky24,cy24⟩,⟨qx24,kx24,cx24⟩⟩)) hp24 hH) (Jg (Jd rfl) rfl (Jf (Ja (hK6 (Je fun _ hK7 _=>(Jb (Jg (Jc rfl) rfl (Jg (JG rfl) rfl (Jg (Ju u95 rfl sz92 rfl) rfl (Jg (Jy rfl At.z rfl pl92) rfl (Jg (Jm u92 rfl rfl) rfl (Jg (Jc rfl) rfl (Jf (Ja (hK7 (Jn ?_))))))))))))))));refine JE (σ:=HP × Option Addr × Nat × List Value × Nat) (fun ⟨Hk,q,c,vals,k⟩=>[(30,.int .i64 (k:Int))]) (fun ⟨Hk,q,c,vals,k⟩=>Hk) (fun ⟨Hk,q,c,vals,k⟩=>obj b11 (.cells [.slice ql11 (monL cad (n)).length cl11,.map (some p11),.slice q k c,.slice qz11 kz11 cz11,.slice qy11 ky11 cy11,.slice qx11 kx11 cx11].toArray 95 (0,0))::obj b24 (.cells [.slice ql24 (monL cad (n+1)).length cl24,.map (some p24),.slice qm24 km24 cm24,.slice qz24 kz24 cz24,.slice qy24 ky24 cy24,.slice qx24 kx24 cx24].toArray 95 (0,0))::lvO rs24::lvM lc ((n,b11)::(n+1,b24)::lvK rs24)::own 22 1 q k c vals::L) (fun ⟨Hk,q,c,vals,k⟩=>Le H24 Hk∧SlF Hk vals (matK cad caf n k)∧k≤(monL cad n).length) (fun ⟨Hk,q,c,vals,k⟩=>(monL cad n).length - k) (H24,qo18,co18, [],0) ⟨Le.refl _,SlF.nil _,by omega⟩ ⟨rfl,trivial⟩ rfl rfl ?_;rintro ⟨Hk,q,c,vals,k⟩ ⟨hlk,hS,hk⟩ _ hAg0;replace pc0:=pc0.le hlk;replace pc1:=pc1.le hlk;replace pcad:=pcad.le hlk;replace pcaf:=pcaf.le hlk;replace hcad:=hcad.le hlk;replace hcaf:=hcaf.le hlk;replace hC:=hC.le hlk;replace hCr11:=hCr11.le hlk;replace hL11:=hL11.le hlk;replace hpw11:=hpw11.le hlk;replace hpl11:=hpl11.le hlk;replace hCr24:=hCr24.le hlk;replace hL24:=hL24.le hlk;replace hM24:=hM24.le hlk;replace hpw24:=hpw24.le hlk;replace hpl24:=hpl24.le hlk;refine Je fun _ hK8 _=>(Jb (Jg (JR rfl rfl) rfl (Jf (Ja (hK8 (Je fun _ hK9 _=>(Jp rfl (fun h31=>?_) (fun h31=>?_))))))))
  ·
   have hml:=monL_len cad n
   have hk1:k<(monL cad n).length:=by omega
   have hpm:=monL_mem hk1;have hpk:=mon_pok h8 hpm;have h8r:=hpk.len;have hocc:=mon_occ h8 hpm hd hA.hl;have hds:=dS_sok (ds:=cad) (Sok.one (k:=1) hpk (by omega)) hA.fok hocc;have hinx : ∀x∈dS cad caf [(rw_ (monL cad n) k,1)],x.1∈monL cad (n+1):=hom _ (rw_mem hk1);refine Jo (Ja (hK9 (Je fun _ hK10 _=>(Jn (Je fun _ hK11 _=>(Jb (Jg (Ep u92 sz160 rfl rfl rfl hk1 hpw11.sm) rfl (Jg (JO rfl (hpw11.cell _ hk1) (hpw11.sm (i:=k) hk1) (by rw [intsC_length,hpw11.len _ hk1];exact ag160)) rfl (JV ze160 rfl fun g8=>(JJ rfl rfl (by first | exact bytesC_one _ | exact intsC_one _ | exact Term.c_one _ | simp [Value.oneCell']) (by simpa [*] using sz160) (by simp [*]) At.z (Jf (Ja (hK11 (Ej (Rs:=[_,_,_,_,_,_]) 21 [[], [], [1], [1,2], [1,2,3], [], [], [6], [6,7], [6,7,8], [], [], [10,11], [10,11,12], [6,7,8,9,10,11,12,13], [5,6,7,8,9,10,11,12,13,14], [5,6,7,8,9,10,11,12,13,14,15], [1,2,3,4,5,6,7,8,9,10,11,12,13,14,15,16], [0,1,2,3,4,5,6,7,8,9,10,11,12,13,14,15,16,17], [0,1,2,3,4,5,6,7,8,9,10,11,12,13,14,15,16,17,18], [0,1,2,3,4,5,6,7,8,9,10,11,12,13,14,15,16,17,18,19]] [[], [], [], [], [22], [], [], [], [], [], [], [21], [], [], [12], [14,23], [], [16], [], [], []] [[], [], [], [], [], [], [], [], [], [], [], [], [10], [], [], [], [], [26], [], [], [22]] rfl rfl (by kernel_rfl) ?_))))))))))))));apply Jj 1 rfl
   iterate 3 focus (intros;(conv=>lhs;simp only [Jh,Jt,JN,Jv,JI,eq_self,reduceEqDiff,reduceIte,reduceSub,reduceAdd,JxA,JxB]);all_goals rfl)
   ·
    intro gh X K zq zc zq2 zc2 zb zv hK;refine Jg (Jc rfl) rfl (Ji ?_);exact hK zq zc zq2 zc2 zb zv
   ·
    intro gh gh' h
    rfl
   apply Jj 2 rfl
   iterate 3 focus (intros;(conv=>lhs;simp only [Jh,Jt,JN,Jv,JI,eq_self,reduceEqDiff,reduceIte,reduceSub,reduceAdd,JxA,JxB]);all_goals rfl)
   ·
    intro gh X K zq zc zq2 zc2 zb zv hK;refine Jg (Jc rfl) rfl (Ji ?_);exact hK zq zc zq2 zc2 zb zv
   ·
    intro gh gh' h
    rfl
   apply Jj 3 rfl
   iterate 3 focus (intros;(conv=>lhs;simp only [Jh,Jt,JN,Jv,JI,eq_self,reduceEqDiff,reduceIte,reduceSub,reduceAdd,JxA,JxB]);all_goals rfl)
   ·
    intro gh X K zq zc zq2 zc2 zb zv hK;refine Jg (JG rfl) rfl (Ji ?_);exact hK zq zc zq2 zc2 zb zv
   ·
    intro gh gh' h
    rfl
   apply Jj 4 rfl
   iterate 3 focus (intros;(conv=>lhs;simp only [Jh,Jt,JN,Jv,JI,eq_self,reduceEqDiff,reduceIte,reduceSub,reduceAdd,JxA,JxB]);all_goals rfl)
   ·
    intro gh X K zq zc zq2 zc2 zb zv hK;refine Jg (Ju u95 rfl sz57 rfl) rfl (Ji ?_);exact hK zq zc zq2 zc2 zb zv
   ·
    intro gh gh' h
    rfl
   apply Jj 5 rfl
   iterate 3 focus (intros;(conv=>lhs;simp only [Jh,Jt,JN,Jv,JI,eq_self,reduceEqDiff,reduceIte,reduceSub,reduceAdd,JxA,JxB]);all_goals rfl)
   ·
    intro gh X K zq zc zq2 zc2 zb zv hK;refine Jg (Jy rfl At.z rfl pl57) rfl (Ji ?_);exact hK zq zc zq2 zc2 zb zv
   ·
    intro gh gh' h
    rfl
   apply Jj 6 rfl
   iterate 3 focus (intros;(conv=>lhs;simp only [Jh,Jt,JN,Jv,JI,eq_self,reduceEqDiff,reduceIte,reduceSub,reduceAdd,JxA,JxB]);all_goals rfl)
   ·
    intro gh X K zq zc zq2 zc2 zb zv hK;refine Jg (Jc rfl) rfl (Ji ?_);exact hK zq zc zq2 zc2 zb zv
   ·
    intro gh gh' h
    rfl
   apply Jj 7 rfl
   iterate 3 focus (intros;(conv=>lhs;simp only [Jh,Jt,JN,Jv,JI,eq_self,reduceEqDiff,reduceIte,reduceSub,reduceAdd,JxA,JxB]);all_goals rfl)
   ·
    intro gh X K zq zc zq2 zc2 zb zv hK;refine Jg (Jc rfl) rfl (Ji ?_);exact hK zq zc zq2 zc2 zb zv
   ·
    intro gh gh' h
    rfl
   apply Jj 8 rfl
   iterate 3 focus (intros;(conv=>lhs;simp only [Jh,Jt,JN,Jv,JI,eq_self,reduceEqDiff,reduceIte,reduceSub,reduceAdd,JxA,JxB]);all_goals rfl)
   ·
    intro gh X K zq zc zq2 zc2 zb zv hK;refine Jg (JG rfl) rfl (Ji ?_);exact hK zq zc zq2 zc2 zb zv
   ·
    intro gh gh' h
    rfl
   apply Jj 9 rfl
   iterate 3 focus (intros;(conv=>lhs;simp only [Jh,Jt,JN,Jv,JI,eq_self,reduceEqDiff,reduceIte,reduceSub,reduceAdd,JxA,JxB]);all_goals rfl)
   ·
    intro gh X K zq zc zq2 zc2 zb zv hK;refine Jg (Ju u172 rfl sz81 rfl) rfl (Ji ?_);exact hK zq zc zq2 zc2 zb zv
   ·
    intro gh gh' h
    rfl
   apply Jj 10 rfl
   iterate 3 focus (intros;(conv=>lhs;simp only [Jh,Jt,JN,Jv,JI,eq_self,reduceEqDiff,reduceIte,reduceSub,reduceAdd,JxA,JxB]);all_goals rfl)
   ·
    intro gh X K zq zc zq2 zc2 zb zv hK;refine Jg (JB (q:=some ⟨bc,0,none⟩) (k:=0) rfl pc0 pl81) rfl (Ji ?_);exact hK zq zc zq2 zc2 zb zv
   ·
    intro gh gh' h
    rfl
   apply Ea 11 rfl
   iterate 3 focus (intros;(conv=>lhs;simp only [Jh,Jt,JN,Jv,JI,eq_self,reduceEqDiff,reduceIte,reduceSub,reduceAdd,JxA,JxB]);all_goals rfl)
   ·
    intro gh X K zq zc zq2 zc2 zb zv hK;refine EI pwE (Value.int .i64) pwOk rfl fun bm44=>(Ji ?_);exact hK zq zc zq2 zc2 bm44 zv
   ·
    intro gh gh' h;refine ⟨?_,?_⟩ <;> rfl
   apply Jj 12 rfl
   iterate 3 focus (intros;(conv=>lhs;simp only [Jh,Jt,JN,Jv,JI,eq_self,reduceEqDiff,reduceIte,reduceSub,reduceAdd,JxA,JxB]);all_goals rfl)
   ·
    intro gh X K zq zc zq2 zc2 zb zv hK;refine Jg (Jx rfl At.z (by simpa [*] using ag160)) rfl (Ji ?_);exact hK zq zc zq2 zc2 zb zv
   ·
    intro gh gh' h
    rfl
   apply ET 13 rfl
   iterate 3 focus (intros;(conv=>lhs;simp only [Jh,Jt,JN,Jv,JI,eq_self,reduceEqDiff,reduceIte,reduceSub,reduceAdd,JxA,JxB]);all_goals rfl)
   ·
    intro gh X K hK;refine J.putOne pwK u84 rfl rfl rfl (pwOk_of hpk (by omega)) At.z (Ji ?_);exact hK
   ·
    intro gh gh' h
    first | simp only [h 10 rfl] | rfl
   apply Jj 14 rfl
   iterate 3 focus (intros;(conv=>lhs;simp only [Jh,Jt,JN,Jv,JI,eq_self,reduceEqDiff,reduceIte,reduceSub,reduceAdd,JxA,JxB]);all_goals rfl)
   ·
    intro gh X K zq zc zq2 zc2 zb zv hK;refine Jg (Jc rfl) rfl (Ji ?_);exact hK zq zc zq2 zc2 zb zv
   ·
    intro gh gh' h
    first | simp only [h 10 rfl] | rfl
   apply Ea 15 rfl
   iterate 3 focus (intros;(conv=>lhs;simp only [Jh,Jt,JN,Jv,JI,eq_self,reduceEqDiff,reduceIte,reduceSub,reduceAdd,JxA,JxB]);all_goals rfl)
   ·
    intro gh X K zq zc zq2 zc2 zb zv hK;refine Jw fn164 rfl rfl fun w hH=>hH.lend .z fun Hl1 hle1 hA1 hB1 hH=>(d_c (pcad.le hle1) (pcaf.le hle1) (hcad.le hle1) (hcaf.le hle1) (omap_H hA1) (Sok.one hpk (by omega)) h8 hA.hd hA.fok hA.hl hocc (by omega) hH).mono ?_;rintro _ w ⟨bo47,rfl,hH⟩;replace hH:=hB1 _ _ hH;refine ⟨_,rfl,fun a hF=>JL hF hH ?_⟩;refine Jr .z (Jr (.s .z) (Ji ?_));exact hK zq zc zq2 zc2 bo47 zv
   ·
    intro gh gh' h;refine ⟨?_,?_⟩ <;> (first | simp only [h 10 rfl] | rfl)
   apply Ea 16 rfl
   iterate 3 focus (intros;(conv=>lhs;simp only [Jh,Jt,JN,Jv,JI,eq_self,reduceEqDiff,reduceIte,reduceSub,reduceAdd,JxA,JxB]);all_goals rfl)
   ·
    intro gh X K zq zc zq2 zc2 zb zv hK;refine Jw fn117 rfl rfl fun w hH=>hH.lend (.s .z) fun Hl1 hle1 hA1 hB1 hH=>hH.lend .z fun Hl2 hle2 hA2 hB2 hH=>(row_c (cellO_le hle2 (obj_cell hA1 rfl)) (cellO_le hle2 (obj_cell hA1 rfl)) (omap_H hA2) hds ((hpw24.le hle1).le hle2) ((hpl24.le hle1).le hle2) (monL_nodup h8 _) (by omega) hinx (by have:=monL_len cad (n+1);omega) hH).mono ?_;rintro _ w ⟨qo48,co48,rfl,hH⟩;replace hH:=hB2 _ _ hH;replace hH:=hB1 _ _ hH;refine ⟨_,rfl,fun a hF=>JL hF hH ?_⟩;refine Jr .z (Jr (.s .z) (Jr (.s (.s .z)) (Ji ?_)));exact hK qo48 co48 zq2 zc2 zb zv
   ·
    intro gh gh' h;refine ⟨?_,?_⟩ <;> (first | simp only [h 10 rfl,h 14 rfl] | rfl)
   apply Ea 17 rfl
   iterate 3 focus (intros;(conv=>lhs;simp only [Jh,Jt,JN,Jv,JI,eq_self,reduceEqDiff,reduceIte,reduceSub,reduceAdd,JxA,JxB]);all_goals rfl)
   ·
    intro gh X K zq zc zq2 zc2 zb zv hK;refine EK (EM u57 ze22 sz22 rfl rfl) rfl fun qo49 co49=>(Ji ?_);exact hK qo49 co49 zq2 zc2 zb zv
   ·
    intro gh gh' h;refine ⟨?_,?_⟩ <;> (first | simp only [h 10 rfl,h 14 rfl,h 15 rfl] | rfl)
   apply Ea 18 rfl
   iterate 3 focus (intros;(conv=>lhs;simp only [Jh,Jt,JN,Jv,JI,eq_self,reduceEqDiff,reduceIte,reduceSub,reduceAdd,JxA,JxB]);all_goals rfl)
   ·
    intro gh X K zq zc zq2 zc2 zb zv hK;refine EF u57 ze22 sz22 by22 rfl rfl rfl rfl (by omega) (.s .z) At.z (fun _ _=>At.z) rfl fun qo50 co50=>(Jr .z (Jr (.s .z) (Ji ?_)));exact hK qo50 co50 zq2 zc2 zb zv
   ·
    intro gh gh' h;refine ⟨?_,?_⟩ <;> (first | simp only [h 10 rfl,h 14 rfl,h 15 rfl,h 16 rfl] | rfl)
   apply Jj 19 rfl
   iterate 3 focus (intros;(conv=>lhs;simp only [Jh,Jt,JN,Jv,JI,eq_self,reduceEqDiff,reduceIte,reduceSub,reduceAdd,JxA,JxB]);all_goals rfl)
   ·
    intro gh X K zq zc zq2 zc2 zb zv hK;refine Jg (JG rfl) rfl (Ji ?_);exact hK zq zc zq2 zc2 zb zv
   ·
    intro gh gh' h
    first | simp only [h 10 rfl,h 14 rfl,h 15 rfl,h 16 rfl,h 17 rfl] | rfl
   apply Jj 20 rfl
   iterate 3 focus (intros;(conv=>lhs;simp only [Jh,Jt,JN,Jv,JI,eq_self,reduceEqDiff,reduceIte,reduceSub,reduceAdd,JxA,JxB]);all_goals rfl)
   ·
    intro gh X K zq zc zq2 zc2 zb zv hK;refine Jg (Ju u95 rfl sz57 rfl) rfl (Ji ?_);exact hK zq zc zq2 zc2 zb zv
   ·
    intro gh gh' h
    first | simp only [h 10 rfl,h 14 rfl,h 15 rfl,h 16 rfl,h 17 rfl] | rfl
   apply ET 21 rfl
   iterate 3 focus (intros;(conv=>lhs;simp only [Jh,Jt,JN,Jv,JI,eq_self,reduceEqDiff,reduceIte,reduceSub,reduceAdd,JxA,JxB]);all_goals rfl)
   ·
    intro gh X K hK;refine Ez rfl rfl rfl rfl sz57 (by simp [*]) At.z (Ji ?_);exact hK
   ·
    intro gh gh' h
    first | simp only [h 10 rfl,h 14 rfl,h 15 rfl,h 16 rfl,h 17 rfl] | rfl
   apply Ek [0,1,2,3,4,5,6,7,8,9,10,11,12,13,14,15,16,17,18,19,20] [0,1,2,3,4,5,6,7,8,9,11,12,13,14,15,16,17,18,19,20,21,23,24,25] foll0 rfl rfl rfl (by rfl)
   iterate 2 focus (intros;(conv=>lhs;simp only [Jh,Jt,JN,Jv,JI,eq_self,reduceEqDiff,reduceIte,reduceSub,reduceAdd,JxA,JxB]);all_goals rfl)
   intro gh;generalize (gh 10).b=bm44;generalize (gh 14).b=bo47;generalize (gh 15).c=co48;generalize (gh 15).q=qo48;generalize (gh 16).c=co49;generalize (gh 16).q=qo49;generalize (gh 17).c=co50;generalize (gh 17).q=qo50;clear gh;refine EV (.s (.s .z)) fun Ho48 hleo48 hAo48=>?_;replace pc0:=pc0.le hleo48;replace pc1:=pc1.le hleo48;replace pcad:=pcad.le hleo48;replace pcaf:=pcaf.le hleo48;replace hcad:=hcad.le hleo48;replace hcaf:=hcaf.le hleo48;replace hC:=hC.le hleo48;replace hCr11:=hCr11.le hleo48;replace hL11:=hL11.le hleo48;replace hpw11:=hpw11.le hleo48;replace hpl11:=hpl11.le hleo48;replace hCr24:=hCr24.le hleo48;replace hL24:=hL24.le hleo48;replace hM24:=hM24.le hleo48;replace hpw24:=hpw24.le hleo48;replace hpl24:=hpl24.le hleo48;replace hS:=hS.le hleo48;have hxo48:=own_ints hAo48;have hco48:=own_le hAo48;have hS2:=hS.snoc hxo48 rfl hco48;refine JF (Ja (hK10 (Jb (Jg (JC rfl rfl (by first | exact nw _ (by omega) | rfl)) rfl (Jg (Jc rfl) rfl (Jf (Ja (JK .z (JK .z (JK .z (JK (.s (.s .z)) (Jr .z (Jr (.s (.s (.s (.s .z)))) (Jr (.s (.s (.s (.s .z)))) (Jr (.s (.s (.s (.s .z)))) ?_)))))))))))))));refine Jr (.s (.s (.s (.s .z)))) ?_;exact hAg0 (Ho48,qo50,co50,_,k+1) ⟨(hlk.trans hleo48),by rw [matK_succ hk1];exact hS2,by omega⟩ (by show (monL cad n).length - (k+1)<(monL cad n).length - k;omega) 26 rfl rfl ⟨rfl,trivial⟩ rfl rfl
  ·
   refine JH (Jl (Jl (JQ (Ja (hK3 (Je fun _ hK12 _=>(Jb (Jg (Jc rfl) rfl (EA (.s (.s (.s (.s .z)))) fun Ho18 hleo18 hAo18=>?_)))))))));replace pc0:=pc0.le hleo18;replace pc1:=pc1.le hleo18;replace pcad:=pcad.le hleo18;replace pcaf:=pcaf.le hleo18;replace hcad:=hcad.le hleo18;replace hcaf:=hcaf.le hleo18;replace hC:=hC.le hleo18;replace hCr11:=hCr11.le hleo18;replace hL11:=hL11.le hleo18;replace hpw11:=hpw11.le hleo18;replace hpl11:=hpl11.le hleo18;replace hCr24:=hCr24.le hleo18;replace hL24:=hL24.le hleo18;replace hM24:=hM24.le hleo18;replace hpw24:=hpw24.le hleo18;replace hpl24:=hpl24.le hleo18;replace hS:=hS.le hleo18;have hxo18:=hS.rows (Le.refl _) hAo18;have hco18:=own_le hAo18;refine Jg (Jd rfl) rfl (Jf (Ja (hK12 (Js (Jq rfl (Res.tmp rfl) fun w hH=>?_)))));replace hH:=hH.sublist (.cons_cons _ (.cons_cons _ (.cons_cons _ (.cons_cons _ (List.Sublist.refl _)))))
   have hke:k=(monL cad n).length:=by omega
   rw [matK_end hke] at hxo18;have hm2:SlIs Ho18 ⟨q,k,c⟩ (matS cad caf n):=⟨by rw [matS_len];exact hke,hxo18⟩;have hN0:Nxt (fun m=>X m∨m=n) ((n,⟨b11,p11,⟨ql11,(monL cad (n)).length,cl11⟩,⟨qo18,0,co18⟩,⟨qz11,kz11,cz11⟩,⟨qy11,ky11,cy11⟩,⟨qx11,kx11,cx11⟩⟩)::rs11):=((hN11 _ hN).perm hp11).swap hne11 (fun m h _ hX=>h (.inl hX)) fun h=>absurd (.inr rfl) h
   have hne2 : ∀z∈(n+1,⟨b24,p24,⟨ql24,(monL cad (n+1)).length,cl24⟩,⟨qm24,km24,cm24⟩,⟨qz24,kz24,cz24⟩,⟨qy24,ky24,cy24⟩,⟨qx24,kx24,cx24⟩⟩)::rs24,z.1≠n:=fun z hz=>by
    rcases List.mem_cons.1 hz with rfl | hz
    ·show n+1≠n
     omega
    ·exact (hne24 z hz).1
   have hNf:Nxt X ((n,⟨b11,p11,⟨ql11,(monL cad (n)).length,cl11⟩,⟨q,k,c⟩,⟨qz11,kz11,cz11⟩,⟨qy11,ky11,cy11⟩,⟨qx11,kx11,cx11⟩⟩)::(n+1,⟨b24,p24,⟨ql24,(monL cad (n+1)).length,cl24⟩,⟨qm24,km24,cm24⟩,⟨qz24,kz24,cz24⟩,⟨qy24,ky24,cy24⟩,⟨qx24,kx24,cx24⟩⟩)::rs24):=((hN24 _ hN0).perm hp24).swap hne2 (fun m h1 h2 h3=>h3.elim h1 h2) fun _ _=>by simp
   have hq0:qm11=none:=by cases qm11 <;> simp_all
   have hKp:Kp ls ((n,⟨b11,p11,⟨ql11,(monL cad (n)).length,cl11⟩,⟨q,k,c⟩,⟨qz11,kz11,cz11⟩,⟨qy11,ky11,cy11⟩,⟨qx11,kx11,cx11⟩⟩)::(n+1,⟨b24,p24,⟨ql24,(monL cad (n+1)).length,cl24⟩,⟨qm24,km24,cm24⟩,⟨qz24,kz24,cz24⟩,⟨qy24,ky24,cy24⟩,⟨qx24,kx24,cx24⟩⟩)::rs24):=fun y hy hF=>by
    have h1:y∈rs11:=by
     rcases List.mem_cons.1 (hp11.subset (hsub11 y hy)) with rfl | h1
     ·have h2:qm11.isSome=true:=hF.1;rw [hq0] at h2
      cases h2
     ·exact h1
    rcases List.mem_cons.1 (hp24.subset (hsub24 y (List.mem_cons_of_mem _ h1))) with rfl | h2
    ·exact absurd rfl (hne11 _ h1)
    ·exact List.mem_cons_of_mem _ h2
   refine ⟨_,(n,⟨b11,p11,⟨ql11,(monL cad (n)).length,cl11⟩,⟨q,k,c⟩,⟨qz11,kz11,cz11⟩,⟨qy11,ky11,cy11⟩,⟨qx11,kx11,cx11⟩⟩)::(n+1,⟨b24,p24,⟨ql24,(monL cad (n+1)).length,cl24⟩,⟨qm24,km24,cm24⟩,⟨qz24,kz24,cz24⟩,⟨qy24,ky24,cy24⟩,⟨qx24,kx24,cx24⟩⟩)::rs24,_,(((hle11.trans hle24).trans hlk).trans hleo18),?_,List.mem_cons_self,fun y hy hyn=>?_,hNf,by simp,⟨hm2,hKp⟩,rfl,Hp.lvIn2 (x:=(n,⟨b11,p11,⟨ql11,(monL cad (n)).length,cl11⟩,⟨q,k,c⟩,⟨qz11,kz11,cz11⟩,⟨qy11,ky11,cy11⟩,⟨qx11,kx11,cx11⟩⟩)) (y:=(n+1,⟨b24,p24,⟨ql24,(monL cad (n+1)).length,cl24⟩,⟨qm24,km24,cm24⟩,⟨qz24,kz24,cz24⟩,⟨qy24,ky24,cy24⟩,⟨qx24,kx24,cx24⟩⟩)) hH⟩
   ·have hC1:=hCr24.mono (Y:=X) fun z hz h=>h.resolve_right (hne24 z hz).1;refine ((hC1.cons (fun z hz=>(hne24 z hz).2) (hL24.mono fun h=>h.resolve_right (by omega))).cons hne2 ⟨⟨rfl,hpw11,hpl11,hL11.one.z⟩,fun _ _ _=>hm2,hL11.three⟩)
   ·have h1:y∈rs11:=by
     rcases List.mem_cons.1 (hp11.subset (hsub11 y hy)) with rfl | h1
     ·exact absurd rfl hyn
     ·exact h1
    rcases List.mem_cons.1 (hp24.subset (hsub24 y (List.mem_cons_of_mem _ h1))) with rfl | h2
    ·exact absurd rfl hyn
    ·exact List.mem_cons_of_mem _ h2
 ·
  refine Jo (Ja (hK3 (Je fun _ hK13 _=>(Jb (Jg (Jc rfl) rfl (Jg (Jd rfl) rfl (Jf (Ja (hK13 (Js (Jq rfl (Res.tmp rfl) fun w hH=>?_)))))))))));replace hH:=hH.sublist (.cons_cons _ (.cons_cons _ (.cons_cons _ (List.Sublist.refl _))))
  have hq:qm11.isSome=true:=by cases qm11 <;> simp_all
  exact ⟨_,(n,⟨b11,p11,⟨ql11,(monL cad (n)).length,cl11⟩,⟨qm11,km11,cm11⟩,⟨qz11,kz11,cz11⟩,⟨qy11,ky11,cy11⟩,⟨qx11,kx11,cx11⟩⟩)::rs11,_,hle11,hCr11.cons hne11 hL11,List.mem_cons_self,fun y hy _=>hp11.subset (hsub11 y hy),(hN11 _ hN).perm hp11,(hN11 _ hN).perm hp11 _ List.mem_cons_self hX hq,⟨hL11.two hX hq hfit,fun y hy _=>hp11.subset (hsub11 y hy)⟩,rfl,Hp.lvIn (x:=(n,⟨b11,p11,⟨ql11,(monL cad (n)).length,cl11⟩,⟨qm11,km11,cm11⟩,⟨qz11,kz11,cz11⟩,⟨qy11,ky11,cy11⟩,⟨qx11,kx11,cx11⟩⟩)) hH⟩
end Go.Proofs.YthenedanhcnccaaGreat.G
