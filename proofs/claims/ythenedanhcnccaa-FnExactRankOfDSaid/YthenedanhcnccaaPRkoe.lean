/- A part of the walk of one law: what the functions compute. No condition. -/
import Derived.Test.YthenedanhcnccaaRows
import Derived.Test.YthenedanhcnccaaProg
import Derived.WalkKit
import Derived.KernelRfl
import Derived.JoinedOf
import Derived.Maps.AppendAt
import Derived.Still
import Derived.ProofKit
import Derived.OpenShut
import Derived.StillTail
import Derived.Deep.Upon
import Derived.WalkSpells
import Derived.Maps.Range
import Derived.DeepKeys4
import Derived.Maps.Keyed
import Derived.ChangeOld
import Derived.Below
import Derived.SizedLaws
import Derived.Test.YthenedanhcnccaaPRkod
set_option linter.unusedVariables false
set_option linter.unusedSimpArgs false
set_option maxRecDepth 10000
set_option maxHeartbeats 8000000
namespace Go.Proofs.Ythenedanhcnccaa.G
open Go Go.RowKit
theorem mem_rw {rs:List (List Int)} {r:List Int}:r∈rs↔∃i,i<rs.length∧rw_ rs i=r:=by
 constructor
 ·intro h;obtain ⟨i,hi,rfl⟩:=List.mem_iff_getElem.1 h;exact ⟨i,hi,by simp [rw_,List.getD_eq_getElem?_getD,hi]⟩
 ·rintro ⟨i,hi,rfl⟩
  simp [rw_,List.getD_eq_getElem?_getD,hi]
structure GaJ (W:Nat) (rows work:List (List Int)) (d c:Nat):Prop where
 row : ∀i,i<work.length→RowOk W (rw_ work i)
 hd:d≤work.length
 hc:c≤W
 one : ∀i,i<d→ldR (rw_ work i)<c∧(rw_ work i).getD (ldR (rw_ work i)) 0=1
 zer : ∀i,i<d→∀j,j<work.length→j≠i→(rw_ work j).getD (ldR (rw_ work i)) 0=0
 srt : ∀i j,i<j→j<d→ldR (rw_ work i)<ldR (rw_ work j)
 low : ∀i,d≤i→i<work.length→∀k,k<c→(rw_ work i).getD k 0=0
 spn : ∀v,Spn work v↔Spn rows v
theorem GaJ.start {W:Nat} {rows:List (List Int)} (h : ∀r∈rows,RowOk W r):GaJ W rows rows 0 0:=
 ⟨fun i hi=>h _ (mem_rw.2 ⟨i,hi,rfl⟩),by omega,by omega,fun i hi=>by omega,fun i hi=>by omega,fun i j _ hj=>by omega,fun i _ _ k hk=>by omega,fun v=>Iff.rfl⟩
theorem GaJ.skip {W:Nat} {rows work:List (List Int)} {d c:Nat} (h:GaJ W rows work d c) (hc:c<W) (hz : ∀i,d≤i→i<work.length→(rw_ work i).getD c 0=0):GaJ W rows work d (c+1):=
 ⟨h.row,h.hd,by omega,fun i hi=>⟨by have:=(h.one i hi).1;omega,(h.one i hi).2⟩,h.zer,h.srt,fun i h1 h2 k hk=>by
  by_cases e:k=c
  ·rw [e];exact hz i h1 h2
  ·exact h.low i h1 h2 k (by omega),h.spn⟩
def swp (d j i:Nat):Nat:=if i=d then j else if i=j then d else i
theorem GaJ.ld_q {W:Nat} {rows work:List (List Int)} {d c j:Nat} (h:GaJ W rows work d c) (hj:d≤j) (hjn:j<work.length) (hq:(rw_ work j).getD c 0≠0):ldR (rw_ work j)=c:=ldR_of (fun k hk=>h.low j hj hjn k hk) hq
theorem GaJ.step {W:Nat} {rows work work':List (List Int)} {d c j:Nat} (h:GaJ W rows work d c) (hj:d≤j) (hjn:j<work.length) (hq:(rw_ work j).getD c 0≠0) (hl:work'.length=work.length) (hu:rw_ work' d=unitS (rw_ work j)) (ho : ∀i,i<work.length→i≠d→rw_ work' i=oneBy (rw_ work (swp d j i)) (unitS (rw_ work j))):GaJ W rows work' (d+1) (c+1):=by
 have hqr:=h.row j hjn;have hld:=h.ld_q hj hjn hq
 have hcW:c<W:=by
  rcases Nat.lt_or_ge c W with h1 | h1
  ·exact h1
  ·exact absurd (getD_out (by rw [hqr.len];omega)) hq
 have hll:ldR (rw_ work j)<(rw_ work j).length:=by rw [hld,hqr.len];exact hcW
 have hur:=hqr.unit;have hul:=unitS_ld hqr hll;have hua:=unitS_at hqr hll;rw [hld] at hul hua;have huz : ∀k,k<c→(unitS (rw_ work j)).getD k 0=0:=fun k hk=>ldR_lt (by omega)
 have hsw : ∀i,i<work.length→swp d j i<work.length:=fun i hi=>by unfold swp;split <;> (try split) <;> omega
 have hget : ∀i,i<work.length→i≠d→∀k,k<c→(rw_ work' i).getD k 0=(rw_ work (swp d j i)).getD k 0:=fun i hi hne k hk=>by
  rw [ho i hi hne,oneBy_get (h.row _ (hsw i hi)) hur,huz k hk,Int.mul_zero,Int.sub_zero];have:=(h.row _ (hsw i hi)).val k;exact fld_id (by omega)
 have hgc : ∀i,i<work.length→i≠d→(rw_ work' i).getD c 0=0:=fun i hi hne=>by
  rw [ho i hi hne,oneBy_get (h.row _ (hsw i hi)) hur,hul,hua,Int.mul_one,Int.sub_self,fld_0]
 have hld' : ∀i,i<d→ldR (rw_ work' i)=ldR (rw_ work i):=fun i hi=>by
  have h1:=h.one i hi
  have hs:swp d j i=i:=by unfold swp;rw [if_neg (by omega),if_neg (by omega)]
  refine ldR_of (fun k hk=>?_) ?_
  ·rw [hget i (by have:=h.hd;omega) (by omega) k (by omega),hs];exact ldR_lt hk
  ·rw [hget i (by have:=h.hd;omega) (by omega) _ h1.1,hs,h1.2]
   omega
 have hrow : ∀i,i<work'.length→RowOk W (rw_ work' i):=fun i hi=>by
  by_cases e:i=d
  ·rw [e,hu];exact hur
  ·rw [ho i (by omega) e];exact (h.row _ (hsw i (by omega))).one hur
 refine ⟨hrow,by omega,by omega,fun i hi=>?_,fun i hi m hm hne=>?_,fun i m him hm=>?_,fun i hi hin k hk=>?_,fun v=>?_⟩
 ·by_cases e:i=d
  ·rw [e,hu,hul,hua];exact ⟨by omega,rfl⟩
  ·have h1:=h.one i (by omega)
   have hs:swp d j i=i:=by unfold swp;rw [if_neg e,if_neg (by omega)]
   rw [hld' i (by omega),hget i (by have:=h.hd;omega) e _ h1.1,hs];exact ⟨by omega,h1.2⟩
 ·by_cases e:i=d
  ·subst e;rw [hu,hul];exact hgc m (by omega) hne
  ·have h1:=h.one i (by omega);rw [hld' i (by omega)]
   by_cases em:m=d
   ·subst em;rw [hu];exact huz _ h1.1
   ·rw [hget m (by omega) em _ h1.1];refine h.zer i (by omega) _ (hsw m (by omega)) ?_;unfold swp
    split <;> (try split) <;> omega
 ·by_cases em:m=d
  ·subst em;rw [hu,hul,hld' i him];exact (h.one i him).1
  ·rw [hld' i (by omega),hld' m (by omega)];exact h.srt i m him (by omega)
 ·by_cases ek:k=c
  ·rw [ek];exact hgc i (by omega) (by omega)
  ·rw [hget i (by omega) (by omega) k (by omega)];refine h.low _ ?_ (hsw i (by omega)) k (by omega);unfold swp
   split <;> (try split) <;> omega
 ·refine Iff.trans ⟨fun hv=>hv.sub fun x hx=>?_,fun hv=>hv.sub fun x hx=>?_⟩ (h.spn v)
  ·obtain ⟨i,hi,rfl⟩:=mem_rw.1 hx;have hus:Spn work (vR (unitS (rw_ work j))):=(unitS_spn hqr hll).2 (.row (mem_rw.2 ⟨j,hjn,rfl⟩))
   by_cases e:i=d
   ·rw [e,hu];exact hus
   ·rw [ho i (by omega) e];exact oneBy_spn (h.row _ (hsw i (by omega))) hur (.row (mem_rw.2 ⟨_,hsw i (by omega),rfl⟩)) hus
  ·obtain ⟨i,hi,rfl⟩:=mem_rw.1 hx
   have hdn:d<work'.length:=by omega
   have hus:Spn work' (vR (unitS (rw_ work j))):=by rw [← hu];exact .row (mem_rw.2 ⟨d,hdn,rfl⟩)
   by_cases e:i=j
   ·rw [e];exact (unitS_spn hqr hll).1 hus
   ·have hne:swp d j i≠d:=by unfold swp;split <;> (try split) <;> omega
    have hss:swp d j (swp d j i)=i:=by unfold swp;split <;> (try split) <;> (try split) <;> (try split) <;> (try split) <;> omega
    refine oneBy_back (h.row i hi) hur ?_ hus;have:=ho (swp d j i) (hsw i hi) hne;rw [hss] at this;rw [← this];exact .row (mem_rw.2 ⟨_,by rw [hl];exact hsw i hi,rfl⟩)
theorem GaJ.done {W:Nat} {rows work:List (List Int)} {d c:Nat} (h:GaJ W rows work d c) (hrows : ∀r∈rows,RowOk W r) (he:d=work.length∨c=W):work.take d=redS rows:=by
 have hgt : ∀i,i<d→rw_ (work.take d) i=rw_ work i:=fun i hi=>by simp [rw_,List.getD_eq_getElem?_getD,List.getElem?_take,hi]
 have htl:(work.take d).length=d:=List.length_take_of_le h.hd;refine redS_eq hrows ⟨fun r hr=>?_,?_,fun r hr=>?_,fun r hr s hs hne=>?_⟩ fun v=>Iff.trans ⟨fun hv=>hv.sub fun x hx=>.row (List.mem_of_mem_take hx),fun hv=>hv.sub fun x hx=>?_⟩ (h.spn v)
 ·obtain ⟨i,hi,rfl⟩:=mem_rw.1 hr;rw [hgt i (by omega)];exact h.row i (by have:=h.hd;omega)
 ·rw [List.pairwise_iff_getElem];intro i j hi hj hij;have h1:=h.srt i j hij (by omega);rw [← hgt i (by omega),← hgt j (by omega)] at h1;rw [rw_eq hi,rw_eq hj];exact h1
 ·obtain ⟨i,hi,rfl⟩:=mem_rw.1 hr;rw [hgt i (by omega)];have:=h.one i (by omega);exact ⟨by have:=h.hc;omega,this.2⟩
 ·obtain ⟨i,hi,rfl⟩:=mem_rw.1 hr;obtain ⟨j,hj,rfl⟩:=mem_rw.1 hs;rw [hgt i (by omega)] at hne ⊢;rw [hgt j (by omega)] at hne ⊢;exact h.zer i (by omega) j (by have:=h.hd;omega) fun e=>hne (by rw [e])
 ·obtain ⟨i,hi,rfl⟩:=mem_rw.1 hx
  by_cases hid:i<d
  ·rw [← hgt i hid];exact .row (mem_rw.2 ⟨i,by omega,rfl⟩)
  ·refine .zero fun k=>?_
   show Mo ((rw_ work i).getD k 0) 0
   have:(rw_ work i).getD k 0=0:=by
    rcases he with he | he
    ·omega
    ·rcases Nat.lt_or_ge k W with hk | hk
     ·exact h.low i (by omega) hi k (by omega)
     ·exact getD_out (by rw [(h.row i hi).len];omega)
   rw [this];exact Mo.refl _
def dnL (t:Int):List Int:=((List.range (t+1).toNat).map fun k:Nat=>(k:Int)).reverse
theorem dnL_neg {t:Int} (h:t<0):dnL t=[]:=by
 unfold dnL;rw [show (t+1).toNat=0 by omega]
 rfl
theorem dnL_succ {t:Int} (h:0≤t):dnL t=t::dnL (t - 1):=by
 obtain ⟨n,rfl⟩ : ∃n:Nat,t=n:=⟨t.toNat,by omega⟩;unfold dnL;rw [show ((n:Int)+1).toNat=n+1 by omega,show ((n:Int) - 1+1).toNat=n by omega,List.range_succ,List.map_append,List.reverse_append]
 rfl
theorem dnL_mem {k t:Int}:k∈dnL t↔0≤k∧k≤t:=by
 unfold dnL;simp only [List.mem_reverse,List.mem_map,List.mem_range]
 constructor
 ·rintro ⟨a,h1,rfl⟩
  omega
 ·intro h;exact ⟨k.toNat,by omega,by omega⟩
theorem dnL_srt (t:Int):(dnL t).Pairwise fun a b=>b<a:=by
 unfold dnL;rw [List.pairwise_reverse,List.pairwise_map]
 exact List.pairwise_lt_range.imp fun h=>by omega
def topM (d n:Int):Int:=if d.tmod 2=1 then min (min (n.tdiv d) 20) 1 else min (n.tdiv d) 20
theorem topM_le {d n k:Int} (hd:1≤d) (hn:k * d≤n) (hk:0≤k∧k≤20) (ho:d.tmod 2=1→k≤1):k≤topM d n:=by
 have h0:0≤k * d:=Int.mul_nonneg hk.1 (by omega)
 have h1:k≤n.tdiv d:=by
  rw [Int.tdiv_eq_ediv_of_nonneg (by omega)];exact (Int.le_ediv_iff_mul_le (by omega)).2 hn
 unfold topM
 split
 ·rename_i h
  have:=ho h
  omega
 ·omega
theorem topM_bd {d n k:Int} (h:k≤topM d n):k≤20∧(d.tmod 2=1→k≤1):=by
 unfold topM at h
 split at h
 ·omega
 ·exact ⟨by omega,fun e=>absurd e (by assumption)⟩
def enumF:List Int→Nat→List Int→Int→List (List Int)
 | [],_,m,n=>if n=0 then [m] else []
 | d::ds,i,m,n=>(dnL (topM d n)).flatMap fun k=>enumF ds (i+1) (m.set i k) (n - k * d)
def wsF:List Int→List Int→Nat→Int
 | [],_,_=>0
 | d::ds,p,i=>d * p.getD i 0+wsF ds p (i+1)
theorem enumF_mem : ∀{ds:List Int} {i:Nat} {m p:List Int} {n:Int},i+ds.length≤8→m.length=8→p∈enumF ds i m n→p.length=8∧(∀j,j<i∨i+ds.length≤j→p.getD j 0=m.getD j 0)∧(∀t,t<ds.length→0≤p.getD (i+t) 0∧p.getD (i+t) 0≤20∧((ds.getD t 0).tmod 2=1→p.getD (i+t) 0≤1))∧wsF ds p i=n
 | [],i,m,p,n,_,hm,h=>by
  simp only [enumF] at h
  split at h
  ·rw [List.mem_singleton.1 h]
   exact ⟨hm,fun j _=>rfl,fun t ht=>by simp at ht,by simp [wsF, *]⟩
  ·simp at h
 | d::ds,i,m,p,n,hi,hm,h=>by
  simp only [enumF,List.mem_flatMap] at h
  obtain ⟨k,hk,h⟩:=h
  simp only [List.length_cons] at hi
  obtain ⟨h1,h2,h3,h4⟩:=enumF_mem (ds:=ds) (by omega) (by simpa using hm) h
  have hpi:p.getD i 0=k:=by
   rw [h2 i (.inl (by omega)),getD_set8,if_pos ⟨rfl,by omega⟩]
  have hk2:=dnL_mem.1 hk
  have hk3:=topM_bd hk2.2
  refine ⟨h1,fun j hj=>?_,fun t ht=>?_,?_⟩
  ·simp only [List.length_cons] at hj
   rw [h2 j (by omega),getD_set8,if_neg (by omega)]
  ·cases t with
   | zero=>rw [Nat.add_zero,hpi];exact ⟨hk2.1,hk3.1,hk3.2⟩
   | succ t=>
    have:=h3 t (by simpa using ht)
    rw [show i+1+t=i+(t+1) by omega] at this
    exact this
  ·simp only [wsF]
   rw [h4,hpi,Int.mul_comm]
   omega
theorem wsF_nn {p:List Int} (hp : ∀j,0≤p.getD j 0) : ∀{ds:List Int} {i:Nat},(∀t,t<ds.length→1≤ds.getD t 0)→0≤wsF ds p i
 | [],_,_=>by simp [wsF]
 | d::ds,i,h=>by
  have h1:=wsF_nn hp (ds:=ds) (i:=i+1) fun t ht=>by have:=h (t+1) (by simpa using ht);simpa using this
  have h2:=h 0 (by simp)
  simp only [List.getD_cons_zero] at h2
  have h3:0≤d * p.getD i 0:=Int.mul_nonneg (by omega) (hp i)
  simp only [wsF]
  omega
theorem enumF_in : ∀{ds:List Int} {i:Nat} {m p:List Int} {n:Int},i+ds.length≤8→m.length=8→p.length=8→(∀t,t<ds.length→1≤ds.getD t 0)→(∀j,j<i∨i+ds.length≤j→p.getD j 0=m.getD j 0)→(∀j,0≤p.getD j 0)→
 (∀t,t<ds.length→p.getD (i+t) 0≤20∧((ds.getD t 0).tmod 2=1→p.getD (i+t) 0≤1))→wsF ds p i=n→p∈enumF ds i m n
 | [],i,m,p,n,_,hm,hp,_,ha,_,_,hw=>by
  have e:n=0:=by rw [← hw];rfl
  simp only [enumF]
  rw [if_pos e,List.mem_singleton]
  exact list_eq_of (by omega) fun j _=>ha j (by simp;omega)
 | d::ds,i,m,p,n,hi,hm,hp,hd,ha,h0,hb,hw=>by
  simp only [List.length_cons] at hi
  simp only [wsF] at hw
  simp only [enumF,List.mem_flatMap]
  have hd0:=hd 0 (by simp)
  simp only [List.getD_cons_zero] at hd0
  have hb0:=hb 0 (by simp)
  simp only [Nat.add_zero,List.getD_cons_zero] at hb0
  have hds : ∀t,t<ds.length→1≤ds.getD t 0:=fun t ht=>by have:=hd (t+1) (by simpa using ht);simpa using this
  have hnn:=wsF_nn h0 (i:=i+1) hds
  have hc:p.getD i 0 * d=d * p.getD i 0:=Int.mul_comm _ _
  refine ⟨p.getD i 0,dnL_mem.2 ⟨h0 i,topM_le hd0 (by omega) ⟨h0 i,hb0.1⟩ hb0.2⟩,enumF_in (by omega) (by simpa using hm) hp hds (fun j hj=>?_) h0 (fun t ht=>?_) (by omega)⟩
  ·rw [getD_set8]
   split
   ·rename_i e;rw [e.1]
   ·rename_i e
    exact ha j (by simp only [List.length_cons];omega)
  ·have:=hb (t+1) (by simpa using ht)
   rw [show i+(t+1)=i+1+t by omega] at this
   simpa using this
theorem enumF_srt : ∀{ds:List Int} {i:Nat} {m:List Int} {n:Int},i+ds.length≤8→m.length=8→(enumF ds i m n).Pairwise fun p q=>before p q=true
 | [],i,m,n,_,_=>by
  simp only [enumF]
  split <;> simp
 | d::ds,i,m,n,hi,hm=>by
  simp only [List.length_cons] at hi
  simp only [enumF]
  rw [List.pairwise_flatMap]
  refine ⟨fun k _=>enumF_srt (by omega) (by simpa using hm),(dnL_srt _).imp fun {a b} hab p hp q hq=>?_⟩
  obtain ⟨_,p2,_,_⟩:=enumF_mem (by omega) (by simpa using hm) hp
  obtain ⟨_,q2,_,_⟩:=enumF_mem (by omega) (by simpa using hm) hq
  refine before_iff.2 ⟨i,by omega,fun j hj=>?_,?_⟩
  ·rw [p2 j (.inl (by omega)),q2 j (.inl (by omega)),getD_set8,getD_set8,if_neg (by omega),if_neg (by omega)]
  ·rw [p2 i (.inl (by omega)),q2 i (.inl (by omega)),getD_set8,getD_set8,if_pos ⟨rfl,by omega⟩,if_pos ⟨rfl,by omega⟩]
   exact hab
def monS (ds:List Int) (n:Int):List Pw:=enumF ds 0 zP n
theorem invL_0 : ∀(f:Nat) (o s:Int),invL f 0 o s=o
 | 0,_,_=>rfl
 | f+1,_,_=>by simp [invL]
theorem invL_odd {f:Nat} {k o s:Int} (hk:0<k) (h:k.tmod 2=1):invL f (k.tdiv 2) ((o * s).tmod 10007) ((s * s).tmod 10007)=invL (f+1) k o s∨¬(0≤o∧0≤s):=by
 by_cases hb:0≤o∧0≤s
 ·left
  have e1:k.tmod 2=k % 2:=Int.tmod_eq_emod_of_nonneg (by omega);simp only [invL];rw [if_neg (by omega),if_pos (by omega),Int.tdiv_eq_ediv_of_nonneg (by omega),Int.tmod_eq_emod_of_nonneg (Int.mul_nonneg hb.1 hb.2),Int.tmod_eq_emod_of_nonneg (Int.mul_nonneg hb.2 hb.2)]
 ·exact .inr hb
theorem invL_even {f:Nat} {k o s:Int} (hk:0<k) (h : ¬k.tmod 2=1):invL f (k.tdiv 2) o ((s * s).tmod 10007)=invL (f+1) k o s∨¬0≤s:=by
 by_cases hb:0≤s
 ·left
  have e1:k.tmod 2=k % 2:=Int.tmod_eq_emod_of_nonneg (by omega);simp only [invL];rw [if_neg (by omega),if_neg (by omega),Int.tdiv_eq_ediv_of_nonneg (by omega),Int.tmod_eq_emod_of_nonneg (Int.mul_nonneg hb hb)]
 ·exact .inr hb
structure InvI (x:Int) (f:Nat) (k o s:Int):Prop where
 kb:0≤k∧k<2 ^ f
 kl:k≤10005
 ob:0≤o∧o≤10006
 sb:0≤s∧s≤10006
 eq:invL f k o s=ivZ x
theorem InvI.start {x:Int} (h:0≤x∧x≤10006):InvI x 14 10005 1 x:=⟨⟨by omega,by decide⟩,by omega,by omega,h,rfl⟩
theorem InvI.pos {x k o s:Int} {f:Nat} (h:InvI x f k o s) (hk:k>0) : ∃f',f=f'+1:=by
 cases f with
 | zero=>have:=h.kb;simp at this;omega
 | succ f=>exact ⟨f,rfl⟩
theorem InvI.prod {x k o s:Int} {f:Nat} (h:InvI x f k o s):0≤o * s∧o * s≤100120036∧0≤s * s∧s * s≤100120036:=by
 have ho:=h.ob;have hs:=h.sb;refine ⟨Int.mul_nonneg ho.1 hs.1,?_,Int.mul_nonneg hs.1 hs.1,?_⟩
 ·exact (Int.mul_le_mul ho.2 hs.2 hs.1 (by omega):o * s≤10006 * 10006)
 ·exact (Int.mul_le_mul hs.2 hs.2 hs.1 (by omega):s * s≤10006 * 10006)
theorem InvI.odd {x k o s:Int} {f:Nat} (h:InvI x (f+1) k o s) (hk:k>0) (h1:k.tmod 2=1):InvI x f (k.tdiv 2) ((o * s).tmod 10007) ((s * s).tmod 10007):=by
 have hp:=h.prod;have hk2:=h.kb;have hkl:=h.kl;rw [Int.pow_succ] at hk2;refine ⟨by rw [Int.tdiv_eq_ediv_of_nonneg (by omega)];omega,by rw [Int.tdiv_eq_ediv_of_nonneg (by omega)];omega,by rw [Int.tmod_eq_emod_of_nonneg (by omega)];omega,by rw [Int.tmod_eq_emod_of_nonneg (by omega)];omega,?_⟩;rw [← h.eq];exact (invL_odd hk h1).resolve_right fun hn=>hn ⟨h.ob.1,h.sb.1⟩
theorem InvI.even {x k o s:Int} {f:Nat} (h:InvI x (f+1) k o s) (hk:k>0) (h1 : ¬k.tmod 2=1):InvI x f (k.tdiv 2) o ((s * s).tmod 10007):=by
 have hp:=h.prod;have hk2:=h.kb;have hkl:=h.kl;rw [Int.pow_succ] at hk2;refine ⟨by rw [Int.tdiv_eq_ediv_of_nonneg (by omega)];omega,by rw [Int.tdiv_eq_ediv_of_nonneg (by omega)];omega,h.ob,by rw [Int.tmod_eq_emod_of_nonneg (by omega)];omega,?_⟩;rw [← h.eq];exact (invL_even hk h1).resolve_right fun hn=>hn h.sb.1
theorem InvI.end {x k o s:Int} {f:Nat} (h:InvI x f k o s) (hk : ¬k>0):o=ivZ x:=by
 have:k=0:=by have:=h.kb;omega
 subst this;rw [← h.eq,invL_0]
def lsK (row other:List Int) (f:Int) (k:Nat):List Int:=(List.range row.length).map fun i=>if i<k then fld (row.getD i 0 - f * other.getD i 0) else row.getD i 0
@[simp] theorem lsK_len (row other:List Int) (f:Int) (k:Nat):(lsK row other f k).length=row.length:=by simp [lsK]
theorem lsK_get {row other:List Int} {f:Int} {k i:Nat} (h:i<row.length):(lsK row other f k).getD i 0=if i<k then fld (row.getD i 0 - f * other.getD i 0) else row.getD i 0:=by simp [lsK,List.getD_eq_getElem?_getD,h]
theorem lsK_zero (row other:List Int) (f:Int):lsK row other f 0=row:=list_eq_of (by simp) fun j hj=>by rw [lsK_get (by simpa using hj),if_neg (by omega)]
theorem lsK_set {row other:List Int} {f:Int} {k:Nat} (hk:k<row.length):(lsK row other f k).set k (fld (row.getD k 0 - f * other.getD k 0))=lsK row other f (k+1):=list_eq_of (by simp) fun j hj=>by
 have hj':j<row.length:=by simpa using hj
 rw [getD_set8,lsK_get hj',lsK_get hj']
 by_cases e:k=j
 ·subst e
  rw [if_pos ⟨rfl,by simpa using hk⟩,if_pos (by omega)]
 ·rw [if_neg fun h=>e h.1]
  by_cases h:j<k
  ·rw [if_pos h,if_pos (by omega)]
  ·rw [if_neg h,if_neg (by omega)]
theorem lsK_end (row other:List Int) (f:Int):lsK row other f row.length=lessS row other f:=list_eq_of (by simp) fun j hj=>by
 have hj':j<row.length:=by simpa using hj
 rw [lsK_get hj',if_pos hj',lessS_get hj']
theorem fld_subt (a b:Int):fld (a - b.tmod 10007)=fld (a - b):=by
 obtain ⟨r,hr⟩:=tmod_p b;rw [fld_eq,fld_eq]
 omega
def nzI (x:Int):Bool:=decide (x≠0)
theorem idxOf_ld {r:List Int} (h:ldR r<r.length):idxOf r nzI=ldR r:=by
 have h1:=idxOf_hit (p:=nzI) h (fun j hj=>by unfold nzI;rw [ldR_lt hj];rfl) (by unfold nzI;exact decide_eq_true (ldR_ne h));exact h1
theorem idxOf_nl {r:List Int} (h : ¬ldR r<r.length):idxOf r nzI = -1:=idxOf_miss fun j _=>by unfold nzI;rw [ldR_end h j];rfl
def zR (r:List Int):Bool:=decide (¬ldR r<r.length)
theorem zR_eq (r:List Int):decide (idxOf r nzI<0)=zR r:=by
 unfold zR
 by_cases h:ldR r<r.length
 ·rw [idxOf_ld h];exact decide_eq_decide.2 (by omega)
 ·rw [idxOf_nl h];exact decide_eq_decide.2 (by omega)
theorem mulb {a b:Int} (ha:0≤a∧a≤10006) (hb:0≤b∧b≤10006):0≤a * b∧a * b≤100120036:=
 ⟨Int.mul_nonneg ha.1 hb.1,(Int.mul_le_mul ha.2 hb.2 hb.1 (by omega):a * b≤10006 * 10006)⟩
theorem byS_app (row:List Int) (a:List (List Int)) (r:List Int):byS row (a++[r])=oneBy (byS row a) r:=by unfold byS;rw [List.foldl_append];rfl
theorem rw_take {rs:List (List Int)} {k:Nat} (hk:k<rs.length):rs.take (k+1)=rs.take k++[rw_ rs k]:=by
 rw [List.take_succ_eq_append_getElem hk]
 simp [rw_,List.getD_eq_getElem?_getD,List.getElem?_eq_getElem hk]
theorem rw_mem {rs:List (List Int)} {k:Nat} (hk:k<rs.length):rw_ rs k∈rs:=mem_rw.2 ⟨k,hk,rfl⟩
theorem byS_take {row:List Int} {rs:List (List Int)} {k:Nat} (hk:k<rs.length):byS row (rs.take (k+1))=oneBy (byS row (rs.take k)) (rw_ rs k):=by rw [rw_take hk,byS_app]
theorem inverse_c {B:World} {H0 H:HP} {L:List SA} {w:World} {x:Int} (hx:0≤x∧x≤10006) (hH:Hp B H0 H L w):Calls Try.prog 83 [.int .i64 x].toArray w fun e w'=>e = .returned (.int .i64 (ivZ x))∧Hp B H0 H L w':=by
 refine Jv Try.func83 rfl 21 rfl rfl [(0,.int .i64 x)] rfl hH ?_;clear hH;refine Je fun _ hK1 _=>(Jb (Jg (Jd rfl) rfl (Jf (Ja (hK1 (Je fun _ hK2 _=>(Jb (Jg (Jd rfl) rfl (Jf (Ja (hK2 (Je fun _ hK3 _=>(Je fun _ hK4 _=>(Jb (Jg (Jd rfl) rfl (Jf ?_))))))))))))))));refine Ja (hK4 (Jm (JE (σ:=Nat × Int × Int × Int) (fun ⟨f,k,o,s⟩=>[(4,.int .i64 k),(3,.int .i64 o),(0,.int .i64 s)]) (fun ⟨f,k,o,s⟩=>H) (fun ⟨f,k,o,s⟩=>L) (fun ⟨f,k,o,s⟩=>InvI x f k o s) (fun ⟨f,k,o,s⟩=>f) (14,10005,1,x) (InvI.start hx) ⟨rfl,⟨rfl,⟨rfl,trivial⟩⟩⟩ rfl rfl ?_)));rintro ⟨f,k,o,s⟩ hI _ hAg0;have hpr:=hI.prod;have hkk:=hI.kb;have hkl:=hI.kl;have ho9:=hI.ob;have hs9:=hI.sb;refine Je fun _ hK5 _=>(Je fun _ hK6 _=>(Jb (Jg (Jc rfl) rfl (Jg (EE rfl rfl) rfl (Jf (Ja (hK6 (Jn rfl (fun h6=>?_) (fun h6=>?_)))))))))
 ·
  obtain ⟨f,rfl⟩:=hI.pos h6;refine Jl (Ja (hK5 (Je fun _ hK7 _=>(Jm (Je fun _ hK8 _=>(Je fun _ hK9 _=>(Jb (Jg (Jc rfl) rfl (Jg (Er rfl rfl (by decide) rfl) rfl (Jg (EC rfl rfl) rfl (Jf (Ja (hK9 (Jn rfl (fun h11=>?_) (fun h11=>?_)))))))))))))))
  ·
   refine Jb (Jg (Jc rfl) rfl (Jg (Jc rfl) rfl (Jg (EA rfl rfl (by first | exact nw _ (by omega) | rfl)) rfl (Jg (Er rfl rfl (by decide) rfl) rfl (Jg (Jd rfl) rfl (Jf (Ja (hK8 (Jb (Jg (Jc rfl) rfl (Jg (Jc rfl) rfl (Jg (EA rfl rfl (by first | exact nw _ (by omega) | rfl)) rfl (Jg (Er rfl rfl (by decide) rfl) rfl (Jg (Jd rfl) rfl (Jf ?_)))))))))))))));refine JD (Ja (hK7 (Jb (Jg (Jc rfl) rfl (Jg (PR.quo rfl rfl (by decide) (nw _ (by rw [Int.tdiv_eq_ediv_of_nonneg (by omega)];omega))) rfl (Jg (Jd rfl) rfl (Jf (Ja ?_))))))));exact hAg0 (f,k.tdiv 2,(o * s).tmod 10007,(s * s).tmod 10007) (hI.odd h6 h11) (by show f<f+1;omega) 21 rfl rfl ⟨rfl,⟨rfl,⟨rfl,trivial⟩⟩⟩ rfl rfl
  ·
   refine Jl (Ja (hK8 (Jb (Jg (Jc rfl) rfl (Jg (Jc rfl) rfl (Jg (EA rfl rfl (by first | exact nw _ (by omega) | rfl)) rfl (Jg (Er rfl rfl (by decide) rfl) rfl (Jg (Jd rfl) rfl (Jf (JD (Ja (hK7 (Jb (Jg (Jc rfl) rfl (Jg (PR.quo rfl rfl (by decide) (nw _ (by rw [Int.tdiv_eq_ediv_of_nonneg (by omega)];omega))) rfl (Jg (Jd rfl) rfl ?_))))))))))))))));refine Jf (Ja ?_);exact hAg0 (f,k.tdiv 2,o,(s * s).tmod 10007) (hI.even h6 h11) (by show f<f+1;omega) 16 rfl rfl ⟨rfl,⟨rfl,⟨rfl,trivial⟩⟩⟩ rfl rfl
 ·
  refine JG (Jk (Jk (JN (Ja (hK3 (Je fun _ hK10 _=>(Jb (Jg (Jc rfl) rfl (Jg (Jd rfl) rfl (Jf (Ja (hK10 (Jq (Jp rfl (Res.tmp rfl) fun w hH=>?_))))))))))))));exact ⟨ri (hI.end h6),hH⟩
theorem l01Inverse_c {B:World} {H0 H:HP} {L:List SA} {w:World} {x:Int} (hx:0≤x∧x≤10006) (hH:Hp B H0 H L w):Calls Try.prog 105 [.int .i64 x].toArray w fun e w'=>e = .returned (.int .i64 (ivZ x))∧Hp B H0 H L w':=by
 refine Jv Try.func105 rfl 23 rfl rfl [(0,.int .i64 x)] rfl hH ?_;clear hH;refine Je fun _ hK1 _=>(Jb (Jg (Jd rfl) rfl (Jf (Ja (hK1 (Je fun _ hK2 _=>(Jb (Jg (Jc rfl) rfl (Jg (Jd rfl) rfl (Jg (Jd rfl) rfl (Jf (Ja (hK2 (Je fun _ hK3 _=>(Je fun _ hK4 _=>(Jb ?_))))))))))))))));refine Jg (Jd rfl) rfl (Jf (Ja (hK4 (Jm (JE (σ:=Nat × Int × Int × Int) (fun ⟨f,k,o,s⟩=>[(5,.int .i64 k),(3,.int .i64 o),(4,.int .i64 s)]) (fun ⟨f,k,o,s⟩=>H) (fun ⟨f,k,o,s⟩=>L) (fun ⟨f,k,o,s⟩=>InvI x f k o s) (fun ⟨f,k,o,s⟩=>f) (14,10005,1,x) (InvI.start hx) ⟨rfl,⟨rfl,⟨rfl,trivial⟩⟩⟩ rfl rfl ?_)))));rintro ⟨f,k,o,s⟩ hI _ hAg0;have hpr:=hI.prod;have hkk:=hI.kb;have hkl:=hI.kl;have ho9:=hI.ob;have hs9:=hI.sb;refine Je fun _ hK5 _=>(Je fun _ hK6 _=>(Jb (Jg (Jc rfl) rfl (Jg (EE rfl rfl) rfl (Jf (Ja (hK6 (Jn rfl (fun h8=>?_) (fun h8=>?_)))))))))
 ·
  obtain ⟨f,rfl⟩:=hI.pos h8;refine Jl (Ja (hK5 (Je fun _ hK7 _=>(Jm (Je fun _ hK8 _=>(Je fun _ hK9 _=>(Jb (Jg (Jc rfl) rfl (Jg (Er rfl rfl (by decide) rfl) rfl (Jg (EC rfl rfl) rfl (Jf (Ja (hK9 (Jn rfl (fun h13=>?_) (fun h13=>?_)))))))))))))))
  ·
   refine Jb (Jg (Jc rfl) rfl (Jg (Jc rfl) rfl (Jg (EA rfl rfl (by first | exact nw _ (by omega) | rfl)) rfl (Jg (Er rfl rfl (by decide) rfl) rfl (Jg (Jd rfl) rfl (Jf (Ja (hK8 (Jb (Jg (Jc rfl) rfl (Jg (Jc rfl) rfl (Jg (EA rfl rfl (by first | exact nw _ (by omega) | rfl)) rfl (Jg (Er rfl rfl (by decide) rfl) rfl (Jg (Jd rfl) rfl (Jf ?_)))))))))))))));refine JD (Ja (hK7 (Jb (Jg (Jc rfl) rfl (Jg (PR.quo rfl rfl (by decide) (nw _ (by rw [Int.tdiv_eq_ediv_of_nonneg (by omega)];omega))) rfl (Jg (Jd rfl) rfl (Jf (Ja ?_))))))));exact hAg0 (f,k.tdiv 2,(o * s).tmod 10007,(s * s).tmod 10007) (hI.odd h8 h13) (by show f<f+1;omega) 21 rfl rfl ⟨rfl,⟨rfl,⟨rfl,trivial⟩⟩⟩ rfl rfl
  ·
   refine Jl (Ja (hK8 (Jb (Jg (Jc rfl) rfl (Jg (Jc rfl) rfl (Jg (EA rfl rfl (by first | exact nw _ (by omega) | rfl)) rfl (Jg (Er rfl rfl (by decide) rfl) rfl (Jg (Jd rfl) rfl (Jf (JD (Ja (hK7 (Jb (Jg (Jc rfl) rfl (Jg (PR.quo rfl rfl (by decide) (nw _ (by rw [Int.tdiv_eq_ediv_of_nonneg (by omega)];omega))) rfl (Jg (Jd rfl) rfl ?_))))))))))))))));refine Jf (Ja ?_);exact hAg0 (f,k.tdiv 2,o,(s * s).tmod 10007) (hI.even h8 h13) (by show f<f+1;omega) 16 rfl rfl ⟨rfl,⟨rfl,⟨rfl,trivial⟩⟩⟩ rfl rfl
 ·
  refine JG (Jk (Jk (JN (Ja (hK3 (Je fun _ hK10 _=>(Jb (Jg (Jc rfl) rfl (Jg (Jd rfl) rfl (Jf (Ja (hK10 (Jq (Jp rfl (Res.tmp rfl) fun w hH=>?_))))))))))))));exact ⟨ri (hI.end h8),hH⟩
theorem takeAway_c {B:World} {H0 H:HP} {L:List SA} {w:World} {qrow:Option Addr} {crow mrow:Nat} {row:List Int} {qr:Option Addr} {cr:Nat} {r:List Int} {f:Int} (erow:row.length=mrow) (hr:Ints H qr r) (hl:r.length=row.length) (hrb : ∀k,0≤r.getD k 0∧r.getD k 0≤10006) (hwb : ∀k,0≤row.getD k 0∧row.getD k 0≤10006) (hf:0≤f∧f≤10006) (hn:row.length≤1048576) (hH:Hp B H0 H (own 2 1 qrow mrow crow (intsC row)::L) w):Calls Try.prog 84 [.slice qrow mrow crow,.slice qr r.length cr,.int .i64 f].toArray w fun e w'=>e = .returned (.tuple #[])∧Hp B H0 H (own 2 1 qrow mrow crow (intsC (lessS row r f))::L) w':=by
 refine Jv Try.func84 rfl 29 rfl rfl [(0,.slice qrow mrow crow),(1,.slice qr r.length cr),(2,.int .i64 f)] rfl hH ?_;clear hH;subst erow;refine Je fun _ hK1 _=>(Jb (Jg (Jc rfl) rfl (Jg (Jo u22 rfl rfl) rfl (Jg (Jc rfl) rfl (Jf (Ja (hK1 (Jm (JE (σ:=Nat) (fun (k:Nat)=>[(10,.int .i64 (k:Int))]) (fun (k:Nat)=>H) (fun (k:Nat)=>own 2 1 qrow row.length crow (intsC (lsK row r f k))::L) (fun (k:Nat)=>k≤r.length) (fun (k:Nat)=>r.length - k) 0 (by omega) ⟨rfl,trivial⟩ rfl (by rw [lsK_zero]) ?_)))))))));rintro k hk _ hAg0;refine Je fun _ hK2 _=>(Jb (Jg (JP rfl rfl) rfl (Jf (Ja (hK2 (Je fun _ hK3 _=>(Jn rfl (fun h11=>?_) (fun h11=>?_))))))))
 ·
  have hkl:k<row.length:=by omega
  have hg9:(lsK row r f k).getD k 0=row.getD k 0:=by rw [lsK_get hkl,if_neg (by omega)]
  have hrk:=hrb k;have hwk:=hwb k;have hmk:=mulb hf hrk;have htk:=tmod_bd (f * r.getD k 0);refine Jl (Ja (hK3 (Je fun _ hK4 _=>(Jm (Je fun _ hK5 _=>(Jb (Jg (Jc rfl) rfl (Jg (JU u22 sz2 rfl rfl rfl (by omega) hr.sm) rfl (Jg (JF rfl (hr _ (by omega)) pl2) rfl (Jg (Jd rfl) rfl (Jg (Jd rfl) rfl (Jf (Ja (hK5 (Jb (Jg (Jc rfl) rfl ?_))))))))))))))));refine Jg (Jc rfl) rfl (Jg (Jc rfl) rfl (Jg (Jc rfl) rfl (Jg (Ey u22 sz2 rfl rfl rfl (by omega) At.z) rfl (Jg (EF rfl At.z ((intsC_get (by simp;omega)).trans (congrArg (fun x=>some (Value.int .i64 x)) hg9)) pl2) rfl (Jg (Jc rfl) rfl (Jg (Jc rfl) rfl (Jg (EA rfl rfl (nw _ (by omega))) rfl (Jg (Er rfl rfl (by decide) rfl) rfl (Jg (EH rfl rfl (nw _ (by omega))) rfl (JB fn78 rfl rfl fun w hH=>(field_c (by omega) hH).mono ?_))))))))));rintro _ w ⟨rfl,hH⟩;refine ⟨_,rfl,fun a hF=>JT hF hH ?_⟩;refine Jg (Ey u22 sz2 rfl rfl rfl (by omega) At.z) rfl (J.storeWI rfl rfl sz2 (by omega) At.z (Jf (JD (Ja (hK4 (Jb (Jg (JC rfl rfl (by first | exact nw _ (by omega) | rfl)) rfl (Jg (Jc rfl) rfl (Jf (Ja ?_))))))))));exact hAg0 (k+1) (by omega) (by omega) 22 rfl rfl ⟨rfl,trivial⟩ rfl (by rw [fld_subt,lsK_set (by omega)])
 ·
  refine JG (Jk (Jk (JN (EJ.ret0 rfl fun w hH=>?_))));replace hH:=hH.sublist (.cons_cons _ (List.Sublist.refl _))
  obtain rfl:k=row.length:=by omega
  rw [lsK_end] at hH;exact ⟨rfl,hH⟩
theorem rows_ext {a b:List (List Int)} (hl:a.length=b.length) (h : ∀i,i<b.length→rw_ a i=rw_ b i):a=b:=by
 refine List.ext_getElem hl fun i h1 h2=>?_;have:=h i h2;unfold rw_ at this;rw [List.getD_eq_getElem?_getD,List.getD_eq_getElem?_getD,List.getElem?_eq_getElem h1,List.getElem?_eq_getElem h2] at this;exact this
theorem rw_map {n:Nat} {f:Nat→List Int} {i:Nat} (hi:i<n):rw_ ((List.range n).map f) i=f i:=by simp [rw_,List.getD_eq_getElem?_getD,hi]
def swR (rs:List (List Int)) (d j:Nat):List (List Int):=(List.range rs.length).map fun i=>rw_ rs (swp d j i)
@[simp] theorem swR_len (rs:List (List Int)) (d j:Nat):(swR rs d j).length=rs.length:=by simp [swR]
theorem swR_get {rs:List (List Int)} {d j i:Nat} (hi:i<rs.length):rw_ (swR rs d j) i=rw_ rs (swp d j i):=rw_map hi
theorem swp_d (d j:Nat):swp d j d=j:=by unfold swp;rw [if_pos rfl]
theorem swp_if (d j i:Nat):(if i=j then d else if i=d then j else i)=swp d j i:=by unfold swp;split <;> split <;> omega
theorem swp_lt {d j i n:Nat} (hd:d<n) (hj:j<n) (hi:i<n):swp d j i<n:=by unfold swp;split <;> (try split) <;> omega
theorem swp_inj {d j i k:Nat} (h:i≠k):swp d j i≠swp d j k:=by unfold swp;split <;> (try split) <;> (try split) <;> (try split) <;> omega
def scK (r:List Int) (b:Int) (k:Nat):List Int:=(List.range r.length).map fun i=>if i<k then (r.getD i 0 * b).tmod 10007 else r.getD i 0
@[simp] theorem scK_len (r:List Int) (b:Int) (k:Nat):(scK r b k).length=r.length:=by simp [scK]
theorem scK_get {r:List Int} {b:Int} {k i:Nat} (h:i<r.length):(scK r b k).getD i 0=if i<k then (r.getD i 0 * b).tmod 10007 else r.getD i 0:=by simp [scK,List.getD_eq_getElem?_getD,h]
theorem scK_zero (r:List Int) (b:Int):scK r b 0=r:=list_eq_of (by simp) fun j hj=>by rw [scK_get (by simpa using hj),if_neg (by omega)]
theorem scK_set {r:List Int} {b:Int} {k:Nat} (hk:k<r.length):(scK r b k).set k ((r.getD k 0 * b).tmod 10007)=scK r b (k+1):=list_eq_of (by simp) fun j hj=>by
 have hj':j<r.length:=by simpa using hj
 rw [getD_set8,scK_get hj',scK_get hj']
 by_cases e:k=j
 ·subst e
  rw [if_pos ⟨rfl,by simpa using hk⟩,if_pos (by omega)]
 ·rw [if_neg fun h=>e h.1]
  by_cases h:j<k
  ·rw [if_pos h,if_pos (by omega)]
  ·rw [if_neg h,if_neg (by omega)]
theorem scK_end {W c:Nat} {r:List Int} (h:RowOk W r) (hl:ldR r=c) (hc:c<W):scK r (ivZ (r.getD c 0)) r.length=unitS r:=by
 subst hl;have hu:=h.unit;refine list_eq_of (by rw [scK_len,h.len,hu.len]) fun j hj=>?_
 have hj':j<r.length:=by simpa using hj
 rw [scK_get hj',if_pos hj'];have h1:=h.val j;have h2:=h.val (ldR r);have h3:=ivZ_bd h2.1;have h4:=mulb h1 h3;rw [Int.tmod_eq_emod_of_nonneg h4.1];refine Mo.val ?_ (by omega) (hu.val j);refine (show Mo (r.getD j 0 * ivZ (r.getD (ldR r) 0) % 10007) (r.getD j 0 * ivZ (r.getD (ldR r) 0)) by unfold Mo;omega).trans ?_;rw [Int.mul_comm];exact (unitS_mo r j).symm
def tkK (wk:List (List Int)) (u:List Int) (d i:Nat):List (List Int):=(List.range wk.length).map fun t=>if t=d then u else if t<i then oneBy (rw_ wk t) u else rw_ wk t
@[simp] theorem tkK_len (wk:List (List Int)) (u:List Int) (d i:Nat):(tkK wk u d i).length=wk.length:=by simp [tkK]
theorem tkK_get {wk:List (List Int)} {u:List Int} {d i t:Nat} (h:t<wk.length):rw_ (tkK wk u d i) t=if t=d then u else if t<i then oneBy (rw_ wk t) u else rw_ wk t:=rw_map h
theorem tkK_d {wk:List (List Int)} {u:List Int} {d i:Nat} (h:d<wk.length):rw_ (tkK wk u d i) d=u:=by rw [tkK_get h,if_pos rfl]
theorem tkK_i {wk:List (List Int)} {u:List Int} {d i:Nat} (h:i<wk.length) (hd:i≠d):rw_ (tkK wk u d i) i=rw_ wk i:=by rw [tkK_get h,if_neg hd,if_neg (by omega)]
theorem tkK_zero {wk:List (List Int)} {u:List Int} {d:Nat}:tkK wk u d 0=wk.set d u:=rows_ext (by simp) fun i hi=>by
 have hi':i<wk.length:=by simpa using hi
 rw [tkK_get hi',rw_set]
 by_cases e:i=d
 ·rw [if_pos e,if_pos ⟨e.symm,by omega⟩]
 ·rw [if_neg e,if_neg (by omega),if_neg fun h=>e h.1.symm]
theorem tkK_set {wk:List (List Int)} {u:List Int} {d i:Nat} (hi:i<wk.length) (hd:i≠d):(tkK wk u d i).set i (oneBy (rw_ wk i) u)=tkK wk u d (i+1):=rows_ext (by simp) fun t ht=>by
 have ht':t<wk.length:=by simpa using ht
 rw [rw_set,tkK_get ht',tkK_get ht']
 by_cases e:i=t
 ·subst e
  rw [if_pos ⟨rfl,by simpa using hi⟩,if_neg hd,if_pos (by omega)]
 ·rw [if_neg fun h=>e h.1]
  by_cases e2:t=d
  ·rw [if_pos e2,if_pos e2]
  ·rw [if_neg e2,if_neg e2]
   by_cases h:t<i
   ·rw [if_pos h,if_pos (by omega)]
   ·rw [if_neg h,if_neg (by omega)]
theorem tkK_same {wk:List (List Int)} {u:List Int} {d i:Nat} (h:i<wk.length→i≠d→oneBy (rw_ wk i) u=rw_ wk i):tkK wk u d i=tkK wk u d (i+1):=rows_ext (by simp) fun t ht=>by
 have ht':t<wk.length:=by simpa using ht
 rw [tkK_get ht',tkK_get ht']
 by_cases e2:t=d
 ·rw [if_pos e2,if_pos e2]
 ·rw [if_neg e2,if_neg e2]
  by_cases h1:t<i
  ·rw [if_pos h1,if_pos (by omega)]
  ·rw [if_neg h1]
   by_cases h2:t=i
   ·subst h2
    rw [if_pos (by omega),h ht' e2]
   ·rw [if_neg (by omega)]
theorem idxR_neg {xs:List (List Int)} {p:List Int→Bool} (h:idxR xs p<0) : ∀i,i<xs.length→p (rw_ xs i)=false:=fun i hi=>by
 cases hp:p (rw_ xs i) with
 | false=>rfl
 | true=>
  exfalso
  unfold idxR at h
  rw [if_pos (List.any_eq_true.2 ⟨xs[i],List.getElem_mem hi,by rw [rw_eq];exact hp⟩)] at h
  omega
theorem idxR_pos {xs:List (List Int)} {p:List Int→Bool} (h : ¬idxR xs p<0) : ∃k,k<xs.length∧idxR xs p=(k:Nat)∧p (rw_ xs k)=true:=by
 unfold idxR at h ⊢
 by_cases ha:xs.any p=true
 ·rw [if_pos ha] at h ⊢;have hlt:xs.findIdx p<xs.length:=List.findIdx_lt_length.2 (List.any_eq_true.1 ha);refine ⟨_,hlt,rfl,?_⟩;rw [← rw_eq hlt];exact List.findIdx_getElem
 ·rw [if_neg ha] at h
  omega
theorem rw_drop {xs:List (List Int)} {d i:Nat}:rw_ (xs.drop d) i=rw_ xs (d+i):=by simp [rw_,List.getD_eq_getElem?_getD,List.getElem?_drop]
theorem GaJ.round {W:Nat} {rs work:List (List Int)} {d c j:Nat} (h:GaJ W rs work d c) (hj:d≤j) (hjn:j<work.length) (hq:(rw_ work j).getD c 0≠0):GaJ W rs (tkK (swR work d j) (unitS (rw_ work j)) d work.length) (d+1) (c+1):=
 h.step hj hjn hq (by simp) (tkK_d (by simpa using (by omega:d<work.length))) fun i hi hne=>by
  rw [tkK_get (by simpa using hi),if_neg hne,if_pos hi,swR_get hi]
theorem oneBy_zero {W:Nat} {r u:List Int} (hr:RowOk W r) (hu:RowOk W u) (h:r.getD (ldR u) 0=0):oneBy r u=r:=by
 unfold oneBy;rw [h];exact lessS_0 hr (by rw [hr.len,hu.len])
section
variable {B : World} {H0 H : HP} {L : List SA} {w : World} {T : TypeId} {vs : Vs} {wk : List (List Int)} {u : List Int} {d i : Nat}
theorem Hp.tk0 (h:Hp B H0 H (own T 1 (vs d).1 (rw_ wk d).length (vs d).2 (intsC u)::ownIx T vs wk (less1 (fun _=>true) d)::L) w) (hd:d<wk.length) (hu:u.length=(rw_ wk d).length):Hp B H0 H (rowA T vs (tkK wk u d 0) d::ownIx T vs (tkK wk u d 0) (less1 (fun _=>true) d)::L) w:=by
 rw [← hu] at h;have h1:=h.putRow hd rfl;rw [← tkK_zero] at h1;exact h1.pick (by simpa using hd) rfl
theorem Hp.tkPut (h:Hp B H0 H (rowA T vs wk d::ownIx T vs wk (less1 (fun _=>true) d)::L) w) (hd:d<wk.length):Hp B H0 H (ownIx T vs wk (fun _=>true)::L) w:=by
 have h1:=h.putRow hd rfl
 rw [show wk.set d (rw_ wk d)=wk from rows_ext (by simp) fun i hi=>by
  rw [rw_set]
  split
  ·rename_i e;rw [e.1]
  ·rfl] at h1
 exact h1
theorem Hp.tkStep {r:List Int} (h:Hp B H0 H (rowA T vs (tkK wk u d i) d::own T 1 (vs i).1 (rw_ (tkK wk u d i) i).length (vs i).2 (intsC r)::ownIx T vs (tkK wk u d i) (less1 (less1 (fun _=>true) d) i)::L) w) (hd:d<wk.length) (hi:i<wk.length) (hne:i≠d) (hr:r=oneBy (rw_ wk i) u) (hl:r.length=(rw_ (tkK wk u d i) i).length):Hp B H0 H (rowA T vs (tkK wk u d (i+1)) d::ownIx T vs (tkK wk u d (i+1)) (less1 (fun _=>true) d)::L) w:=by
 rw [← hl] at h;have h1:=(h.front (.s .z)).front (.s (.s .z));have h2:=(h1.front (.s .z)).putRow (by simpa using hi) (less1_iff.2 ⟨rfl,hne⟩);rw [hr,tkK_set hi hne] at h2;have h3:=h2.front (.s .z)
 have e:rowA T vs (tkK wk u d i) d=rowA T vs (tkK wk u d (i+1)) d:=by
  show own _ _ _ _ _ _=own _ _ _ _ _ _
  rw [tkK_d hd,tkK_d hd]
 rw [e] at h3;exact h3
end
theorem reduce1_c {B:World} {H0 H:HP} {L:List SA} {w:World} {qr:Option Addr} {cr:Nat} {r:List Int} {bc:Nat} {c:Int} (hr:Ints H qr r) (kc:cellO H (some ⟨bc,0,none⟩) 0=some (.int .i64 c)) (hc:0≤c∧c.toNat<r.length) (hH:Hp B H0 H L w):Calls Try.prog 82 [.slice qr r.length cr,.pointer (some ⟨bc,0,none⟩)].toArray w fun e w'=>e = .returned (.bool (decide (r.getD c.toNat 0≠0)))∧Hp B H0 H L w':=by
 refine Jv Try.func82 rfl 9 rfl rfl [(0,.slice qr r.length cr),(1,.pointer (some ⟨bc,0,none⟩))] rfl hH ?_;clear hH;refine Je fun _ hK1 _=>(Jb (Jg (Jd rfl) rfl (Jf (Ja (hK1 (Je fun _ hK2 _=>(Jb (Jg (Jc rfl) rfl (Jg (JF (q:=some ⟨bc,0,none⟩) (k:=0) rfl kc pl3) rfl (Jg (JU (i':=c.toNat) u22 sz2 rfl rfl (by omega) (by omega) hr.sm) rfl (Jg (JF rfl (hr _ (by omega)) pl2) rfl (Jg (Ej rfl rfl) rfl (Jg (Jd rfl) rfl (Jf (Ja (hK2 ?_))))))))))))))));refine Jq (Jp rfl (Res.tmp rfl) fun w hH=>?_);exact ⟨rfl,hH⟩
theorem by22:Bytes Try.prog 22 24:=by unfold Bytes;kernel_rfl
theorem ze22:Zero Try.prog 22 [.slice none 0 0]:=by unfold Zero;kernel_rfl
theorem ze3:Zero Try.prog 3 [.int .i64 0]:=by unfold Zero;kernel_rfl
theorem fn49:Fn Try.prog 49:=⟨_,Try.func49,by kernel_rfl,rfl⟩
theorem fn81:Fn Try.prog 81:=⟨_,Try.func81,by kernel_rfl,rfl⟩
theorem fn82:Fn Try.prog 82:=⟨_,Try.func82,by kernel_rfl,rfl⟩
theorem fn83:Fn Try.prog 83:=⟨_,Try.func83,by kernel_rfl,rfl⟩
theorem fn84:Fn Try.prog 84:=⟨_,Try.func84,by kernel_rfl,rfl⟩
theorem reduce_c {B:World} {H0 H:HP} {L:List SA} {w:World} {qrs:Option Addr} {crs:Nat} {rs:List (List Int)} {W:Nat} (hrs:RowsR H qrs rs) (hW : ∀r∈rs,RowOk W r) (hn:rs.length≤1048576) (hWn:W≤1048576) (hH:Hp B H0 H L w):Calls Try.prog 56 [.slice qrs rs.length crs].toArray w fun e w'=>∃q c vs,e = .returned (.slice q (redS rs).length c)∧Hp B H0 H (ownRs 22 2 q c vs (redS rs)::L) w':=by
 refine Jv Try.func56 rfl 132 rfl rfl [(0,.slice qrs rs.length crs)] rfl hH ?_;clear hH;refine Je fun _ hK1 _=>(Jb (Jg (Jd rfl) rfl (Jf (Ja (hK1 (Je fun _ hK2 _=>(Jb (J.mk (MK.lit0 u27 sz22) rfl fun qo13 co13=>(J.is0 2 (Jg (Jd rfl) rfl (Jf (Ja (hK2 (Je fun _ hK3 _=>(Je fun _ hK4 _=>(Jb ?_))))))))))))))));refine Jg (Jc rfl) rfl (Jg (Jo u27 rfl rfl) rfl (Jg (Jc rfl) rfl (Jf (Ja (hK4 (Jm (JE (σ:=Option Addr × Nat × Vs × Nat) (fun ⟨q0,c0,vsa,k⟩=>[(16,.int .i64 (k:Int)),(3,.slice q0 k c0)]) (fun ⟨q0,c0,vsa,k⟩=>H) (fun ⟨q0,c0,vsa,k⟩=>ownIs 2 vsa (rs.take k)::own 22 1 q0 k c0 (slicesI vsa (rs.take k))::L) (fun ⟨q0,c0,vsa,k⟩=>k≤rs.length) (fun ⟨q0,c0,vsa,k⟩=>rs.length - k) (qo13,co13,nilVs,0) (by show 0≤rs.length;omega) ⟨rfl,⟨rfl,trivial⟩⟩ rfl rfl ?_)))))));rintro ⟨q0,c0,vsa,k⟩ hI _ hAg0;have hk:=hI;have htk:(rs.take k).length=k:=List.length_take_of_le hk;refine Je fun _ hK5 _=>(Jb (Jg (JP rfl rfl) rfl (Jf (Ja (hK5 (Je fun _ hK6 _=>(Jn rfl (fun hc17=>?_) (fun hc17=>?_))))))))
 ·
  refine Jl (Ja (hK6 (Je fun _ hK7 _=>(Jm (Je fun _ hK8 _=>(Jb (Jg (JU u27 sz22 rfl rfl rfl (by omega) hrs.sm) rfl ?_)))))));obtain ⟨qe19,ce19,he19,le19,Fe19⟩:=hrs k (by omega);refine Jg (JF rfl he19 pl22) rfl (Jg (Jd rfl) rfl (Jf (Ja (hK8 (Jb (Jg (Jc rfl) rfl (Jg (Jc rfl) rfl (JB fn49 rfl rfl fun w hH=>(CloneI_c Fe19 (by have:=(hW _ (rw_mem (show k<rs.length by omega))).len;omega) hH).mono ?_))))))));rintro _ w ⟨qo22,co22,rfl,hH⟩;refine ⟨_,rfl,fun a hF=>JT hF hH ?_⟩;refine J.mk (MK.lit1S u27 ze22 sz22 rfl rfl) rfl fun qo23 co23=>(J.append1 u27 ze22 sz22 by22 rfl rfl rfl rfl (by omega) .z (.s (.s .z)) (fun _ _=>(.s (.s .z))) rfl fun qo24 co24=>(Jg (Jd rfl) rfl (Jf (JD (Ja (hK7 (Jb (Jg (JC rfl rfl (by first | exact nw _ (by omega) | rfl)) rfl (Jg (Jc rfl) rfl (Jf (Ja (Jw (.s (.s (.s .z))) (Jw (.s .z) (Jw (.s (.s (.s .z))) (Jw (.s (.s (.s .z))) ?_)))))))))))))));refine EJ.isSnoc (rs:=rs.take k) htk rfl (JO (.s .z) ?_);exact hAg0 (qo24,co24,setV vsa k (qo22,co22),k+1) (by show k+1≤rs.length;omega) (by show rs.length - (k+1)<rs.length - k;omega) 14 rfl rfl ⟨rfl,⟨rfl,trivial⟩⟩ rfl (by dsimp only;rw [rw_take (by omega),slicesI_set htk])
 ·
  refine JG (Jk (Jk (JN (Ja (hK3 (Je fun _ hK9 _=>(Jb (Jg (Jd rfl) rfl (Jf (Ja (hK9 (Je fun _ hK10 _=>(Je fun _ hK11 _=>(Jb (JW ze3 rfl fun g7=>(Ez rfl rfl rfl rfl sz3 (by simp [*]) At.z ?_))))))))))))))))
  obtain rfl:k=rs.length:=by omega
  refine J.reL (L':=ownIx 2 vsa rs (fun _=>true)::obj g7 (.cells [.int .i64 (0:Int)].toArray 3 (0,0))::own 22 1 q0 rs.length c0 (slicesI vsa rs)::L) (fun w hH=>by dsimp only at hH;rw [List.take_length] at hH;exact (hH.front (.s .z)).toIx) (Jf (Ja (hK11 (Jm (JE (σ:=Vs × List (List Int) × Nat × Nat × Nat) (fun ⟨vs,wk,d,c,g⟩=>[(6,.int .i64 (d:Int)),(7,.pointer (some ⟨g,0,none⟩))]) (fun ⟨vs,wk,d,c,g⟩=>H) (fun ⟨vs,wk,d,c,g⟩=>ownIx 2 vs wk (fun _=>true)::obj g (.cells [.int .i64 (c:Int)].toArray 3 (0,0))::own 22 1 q0 rs.length c0 (slicesI vs wk)::L) (fun ⟨vs,wk,d,c,g⟩=>GaJ W rs wk d c∧wk.length=rs.length) (fun ⟨vs,wk,d,c,g⟩=>W - c) (vsa,rs,0,0,g7) ⟨GaJ.start hW,rfl⟩ ⟨rfl,⟨rfl,trivial⟩⟩ rfl rfl ?_)))));rintro ⟨vs,wk,d,c,g⟩ ⟨hG,hwl⟩ _ hAg1;have hGd:=hG.hd;have hGc:=hG.hc;refine Je fun _ hK12 _=>(Je fun _ hK13 _=>(En foll0 (by kernel_rfl) (Jz (Jc rfl) rfl (Jz (Jc rfl) rfl (Jz (Jo u27 rfl rfl) rfl (Jz (JP rfl rfl) rfl (Jz (Jc rfl) rfl (JS.splitB (jd:=30) rfl (fun hg30=>?_) (fun hg30=>?_)))))))))
  ·
   try have hg30p:=of_decide_eq_true hg30
   refine JS.gy (Jt rfl (.s .z) rfl pl3) rfl rfl rfl hg30 (JS.gy (Jc rfl) rfl rfl rfl hg30 (JS.gy (Ey (i':=0) u27 sz22 rfl rfl rfl (by omega) (.s (.s .z))) rfl rfl rfl hg30 (JS.gy (EF rfl (.s (.s .z)) (slicesI_get (i:=0) (by omega)) pl22) rfl rfl rfl hg30 (JS.gy (Jo u22 rfl rfl) rfl rfl rfl hg30 (JS.gy (JP rfl rfl) rfl rfl rfl hg30 (Jz (JZ rfl hg30 rfl) rfl (Ed (Ja (hK13 (Jn rfl (fun h37=>?_) (fun h37=>?_)))))))))))
   ·
    have hdl:d<wk.length:=by omega
    have hcW:c<W:=by have:=(hG.row 0 (by omega)).len;omega
    refine Jl (Ja (hK12 (Je fun _ hK14 _=>(Jm (Je fun _ hK15 _=>(Jb (Jg (Jc rfl) rfl (Jg (Jc rfl) rfl (Jg (PR.eqv (v':=.slice (q0.map fun a=>a.add d) (wk.drop d).length (c0 - d)) (by rw [List.length_drop,hwl]) (PR.sliceW (i':=d) u27 sz22 rfl rfl rfl (by omega) (.s (.s .z)))) rfl (Jg (PR.makeFunc (ys:=[]) (zs:=[_]) rfl rfl) rfl (JB fn81 rfl rfl fun w hH=>hH.lend (.s .z) fun Hl1 hl1 hA1 hB1 hH=>hH.lend (.s .z) fun Hl2 hl2 hA2 hB2 hH=>hH.lend .z fun Hl3 hl3 hA3 hB3 hH=>(IndexFuncR_c (xs:=wk.drop d) (Sp:=fun x=>x.length=W) (p:=fun r=>decide (r.getD (c:Int).toNat 0≠0)) ((ownIx_rows hA2 hl3 hA3).drop d) fn82 (fun H' L w q c' x hle hS hx hH=>by rw [Array.empty_append];exact reduce1_c (c:=(c:Int)) hx (cellO_le ((hl2.trans hl3).trans hle) (obj_cell hA1 rfl)) ⟨by omega,by rw [Int.toNat_natCast,hS];omega⟩ hH) (by rw [List.length_drop];omega) (fun i hi=>by rw [rw_drop];exact (hG.row _ (by rw [List.length_drop] at hi;omega)).len) hH).mono ?_)))))))))));rintro _ w ⟨rfl,hH⟩;replace hH:=hB1 _ _ (hB2 _ _ (hB3 _ _ hH));refine ⟨_,rfl,fun a hF=>JT hF hH ?_⟩;refine Jg (Jd rfl) rfl (Jf (Ja (hK15 (Je fun _ hK16 _=>(Je fun _ hK17 _=>(Jb (Jg (Jc rfl) rfl (Jg (JP rfl rfl) rfl (Jf (Ja (hK17 (Jn rfl (fun h46=>?_) (fun h46=>?_)))))))))))))
    ·
     have hz : ∀i,d≤i→i<wk.length→(rw_ wk i).getD c 0=0:=fun i h1 h2=>by have h3:=idxR_neg h46 (i - d) (by rw [List.length_drop];omega);rw [rw_drop,show d+(i - d)=i by omega] at h3;simpa using h3
     refine JG (Jk (JN (Ja (hK14 (Je fun _ hK18 _=>(Je fun _ hK19 _=>(Jb (Jg (Jt rfl At.z rfl pl3) rfl (Jf (Ja (hK19 (Jb (JW ze3 rfl fun g7=>(Ez rfl rfl rfl rfl sz3 (by simp [*]) At.z (Jf (Ja (hK18 ?_)))))))))))))))));refine Jb (Jg (Jt rfl At.z rfl pl3) rfl (Jg (JC rfl rfl (by first | exact nw _ (by omega) | rfl)) rfl (Ez rfl rfl rfl rfl sz3 (by simp [*]) At.z (Jf (Ja (JO (.s .z) (Jw (.s .z) (Jw (.s .z) (Jw (.s (.s .z)) ?_)))))))));exact hAg1 (vs,wk,d,c+1,g7) ⟨hG.skip hcW (fun i h1 h2=>hz i h1 h2),hwl⟩ (by show W - (c+1)<W - c;omega) 26 rfl rfl ⟨rfl,⟨rfl,trivial⟩⟩ rfl rfl
    ·
     obtain ⟨j,hj,hjl,ej,hq⟩ : ∃j,d≤j∧j<wk.length∧idxR (wk.drop d) (fun r=>decide (r.getD (c:Int).toNat 0≠0))=((j - d:Nat):Int)∧(rw_ wk j).getD c 0≠0:=by
      obtain ⟨k2,hk2,e2,hp2⟩:=idxR_pos h46;rw [List.length_drop] at hk2;refine ⟨d+k2,by omega,by omega,by rw [e2];congr 1;omega,?_⟩;rw [rw_drop] at hp2
      simpa using hp2
     rw [ej];refine Jl (Ja (hK16 (Je fun _ hK20 _=>(Es (Rs:=[_,_,_]) 20 [[], [], [], [], [], [3,4], [], [], [], [7,8], [6,7,8,9], [6,7,8,9,10], [], [], [12,13], [12,13,14], [0,1,6,7,8,9,10,11,12,13,14,15], [0,1,6,7,8,9,10,11,12,13,14,15,16], [0,1,2,3,4,5,6,7,8,9,10,11,12,13,14,15,16,17], [0,1,2,3,4,5,6,7,8,9,10,11,12,13,14,15,16,17,18]] [[], [], [], [], [], [], [], [], [], [], [21], [21], [], [], [21], [21], [21], [], [17], []] [[], [], [], [], [], [], [], [], [], [], [], [], [], [], [], [], [], [21], [], [17]] rfl rfl (by kernel_rfl) ?_))));apply Jr 1 rfl
     iterate 3 focus (intros;(conv=>lhs;simp only [Jh,Ju,JV,Jx,JJ,eq_self,Nat.reduceEqDiff,reduceIte,Nat.reduceSub,Nat.reduceAdd,List.cons_append,List.nil_append]);all_goals rfl)
     ·
      intro gh X K zq zc zq2 zc2 zb zv hK;refine Jg (Jc rfl) rfl (Jj ?_);exact hK zq zc zq2 zc2 zb zv
     ·
      intro gh gh' h
      rfl
     apply Jr 2 rfl
     iterate 3 focus (intros;(conv=>lhs;simp only [Jh,Ju,JV,Jx,JJ,eq_self,Nat.reduceEqDiff,reduceIte,Nat.reduceSub,Nat.reduceAdd,List.cons_append,List.nil_append]);all_goals rfl)
     ·
      intro gh X K zq zc zq2 zc2 zb zv hK;refine Jg (Jc rfl) rfl (Jj ?_);exact hK zq zc zq2 zc2 zb zv
     ·
      intro gh gh' h
      rfl
     apply Jr 3 rfl
     iterate 3 focus (intros;(conv=>lhs;simp only [Jh,Ju,JV,Jx,JJ,eq_self,Nat.reduceEqDiff,reduceIte,Nat.reduceSub,Nat.reduceAdd,List.cons_append,List.nil_append]);all_goals rfl)
     ·
      intro gh X K zq zc zq2 zc2 zb zv hK;refine Jg (Jc rfl) rfl (Jj ?_);exact hK zq zc zq2 zc2 zb zv
     ·
      intro gh gh' h
      rfl
     apply Jr 4 rfl
     iterate 3 focus (intros;(conv=>lhs;simp only [Jh,Ju,JV,Jx,JJ,eq_self,Nat.reduceEqDiff,reduceIte,Nat.reduceSub,Nat.reduceAdd,List.cons_append,List.nil_append]);all_goals rfl)
     ·
      intro gh X K zq zc zq2 zc2 zb zv hK;refine Jg (Jc rfl) rfl (Jj ?_);exact hK zq zc zq2 zc2 zb zv
     ·
      intro gh gh' h
      rfl
     apply Jr 5 rfl
     iterate 3 focus (intros;(conv=>lhs;simp only [Jh,Ju,JV,Jx,JJ,eq_self,Nat.reduceEqDiff,reduceIte,Nat.reduceSub,Nat.reduceAdd,List.cons_append,List.nil_append]);all_goals rfl)
     ·
      intro gh X K zq zc zq2 zc2 zb zv hK;refine Jg (Jc rfl) rfl (Jj ?_);exact hK zq zc zq2 zc2 zb zv
     ·
      intro gh gh' h
      rfl
     apply Jr 6 rfl
     iterate 3 focus (intros;(conv=>lhs;simp only [Jh,Ju,JV,Jx,JJ,eq_self,Nat.reduceEqDiff,reduceIte,Nat.reduceSub,Nat.reduceAdd,List.cons_append,List.nil_append]);all_goals rfl)
     ·
      intro gh X K zq zc zq2 zc2 zb zv hK;refine Jg (JC rfl rfl (by first | exact nw _ (by omega) | rfl)) rfl (Jj ?_);exact hK zq zc zq2 zc2 zb zv
     ·
      intro gh gh' h
      rfl
     apply Jr 7 rfl
     iterate 3 focus (intros;(conv=>lhs;simp only [Jh,Ju,JV,Jx,JJ,eq_self,Nat.reduceEqDiff,reduceIte,Nat.reduceSub,Nat.reduceAdd,List.cons_append,List.nil_append]);all_goals rfl)
     ·
      intro gh X K zq zc zq2 zc2 zb zv hK;refine Jg (Jc rfl) rfl (Jj ?_);exact hK zq zc zq2 zc2 zb zv
     ·
      intro gh gh' h
      rfl
     apply Jr 8 rfl
     iterate 3 focus (intros;(conv=>lhs;simp only [Jh,Ju,JV,Jx,JJ,eq_self,Nat.reduceEqDiff,reduceIte,Nat.reduceSub,Nat.reduceAdd,List.cons_append,List.nil_append]);all_goals rfl)
     ·
      intro gh X K zq zc zq2 zc2 zb zv hK;refine Jg (Jc rfl) rfl (Jj ?_);exact hK zq zc zq2 zc2 zb zv
     ·
      intro gh gh' h
      rfl
     apply Jr 9 rfl
     iterate 3 focus (intros;(conv=>lhs;simp only [Jh,Ju,JV,Jx,JJ,eq_self,Nat.reduceEqDiff,reduceIte,Nat.reduceSub,Nat.reduceAdd,List.cons_append,List.nil_append]);all_goals rfl)
     ·
      intro gh X K zq zc zq2 zc2 zb zv hK;refine Jg (Jc rfl) rfl (Jj ?_);exact hK zq zc zq2 zc2 zb zv
     ·
      intro gh gh' h
      rfl
     apply Jr 10 rfl
     iterate 3 focus (intros;(conv=>lhs;simp only [Jh,Ju,JV,Jx,JJ,eq_self,Nat.reduceEqDiff,reduceIte,Nat.reduceSub,Nat.reduceAdd,List.cons_append,List.nil_append]);all_goals rfl)
     ·
      intro gh X K zq zc zq2 zc2 zb zv hK;refine Jg (JC rfl rfl (by first | exact nw _ (by omega) | rfl)) rfl (Jj ?_);exact hK zq zc zq2 zc2 zb zv
     ·
      intro gh gh' h
      rfl
     apply Jr 11 rfl
     iterate 3 focus (intros;(conv=>lhs;simp only [Jh,Ju,JV,Jx,JJ,eq_self,Nat.reduceEqDiff,reduceIte,Nat.reduceSub,Nat.reduceAdd,List.cons_append,List.nil_append]);all_goals rfl)
     ·
      intro gh X K zq zc zq2 zc2 zb zv hK;refine Jg (Ey (i':=j) u27 sz22 rfl rfl (by omega) (by omega) At.z) rfl (Jj ?_);exact hK zq zc zq2 zc2 zb zv
     ·
      intro gh gh' h
      rfl
     apply Jr 12 rfl
     iterate 3 focus (intros;(conv=>lhs;simp only [Jh,Ju,JV,Jx,JJ,eq_self,Nat.reduceEqDiff,reduceIte,Nat.reduceSub,Nat.reduceAdd,List.cons_append,List.nil_append]);all_goals rfl)
     ·
      intro gh X K zq zc zq2 zc2 zb zv hK;refine Jg (EF rfl At.z (slicesI_get hjl) pl22) rfl (Jj ?_);exact hK zq zc zq2 zc2 zb zv
     ·
      intro gh gh' h
      rfl
     apply Jr 13 rfl
     iterate 3 focus (intros;(conv=>lhs;simp only [Jh,Ju,JV,Jx,JJ,eq_self,Nat.reduceEqDiff,reduceIte,Nat.reduceSub,Nat.reduceAdd,List.cons_append,List.nil_append]);all_goals rfl)
     ·
      intro gh X K zq zc zq2 zc2 zb zv hK;refine Jg (Jc rfl) rfl (Jj ?_);exact hK zq zc zq2 zc2 zb zv
     ·
      intro gh gh' h
      rfl
     apply Jr 14 rfl
     iterate 3 focus (intros;(conv=>lhs;simp only [Jh,Ju,JV,Jx,JJ,eq_self,Nat.reduceEqDiff,reduceIte,Nat.reduceSub,Nat.reduceAdd,List.cons_append,List.nil_append]);all_goals rfl)
     ·
      intro gh X K zq zc zq2 zc2 zb zv hK;refine Jg (Jc rfl) rfl (Jj ?_);exact hK zq zc zq2 zc2 zb zv
     ·
      intro gh gh' h
      rfl
     apply Jr 15 rfl
     iterate 3 focus (intros;(conv=>lhs;simp only [Jh,Ju,JV,Jx,JJ,eq_self,Nat.reduceEqDiff,reduceIte,Nat.reduceSub,Nat.reduceAdd,List.cons_append,List.nil_append]);all_goals rfl)
     ·
      intro gh X K zq zc zq2 zc2 zb zv hK;refine Jg (Ey u27 sz22 rfl rfl rfl (by omega) At.z) rfl (Jj ?_);exact hK zq zc zq2 zc2 zb zv
     ·
      intro gh gh' h
      rfl
     apply Jr 16 rfl
     iterate 3 focus (intros;(conv=>lhs;simp only [Jh,Ju,JV,Jx,JJ,eq_self,Nat.reduceEqDiff,reduceIte,Nat.reduceSub,Nat.reduceAdd,List.cons_append,List.nil_append]);all_goals rfl)
     ·
      intro gh X K zq zc zq2 zc2 zb zv hK;refine Jg (EF rfl At.z (slicesI_get hdl) pl22) rfl (Jj ?_);exact hK zq zc zq2 zc2 zb zv
     ·
      intro gh gh' h
      rfl
     apply Jr 17 rfl
     iterate 3 focus (intros;(conv=>lhs;simp only [Jh,Ju,JV,Jx,JJ,eq_self,Nat.reduceEqDiff,reduceIte,Nat.reduceSub,Nat.reduceAdd,List.cons_append,List.nil_append]);all_goals rfl)
     ·
      intro gh X K zq zc zq2 zc2 zb zv hK;refine Jg (Ey u27 sz22 rfl rfl rfl (by omega) At.z) rfl (Jj ?_);exact hK zq zc zq2 zc2 zb zv
     ·
      intro gh gh' h
      rfl
     apply EK 18 rfl
     iterate 3 focus (intros;(conv=>lhs;simp only [Jh,Ju,JV,Jx,JJ,eq_self,Nat.reduceEqDiff,reduceIte,Nat.reduceSub,Nat.reduceAdd,List.cons_append,List.nil_append]);all_goals rfl)
     ·
      intro gh X K hK;refine J.storeW rfl rfl rfl rfl sz22 (by omega) At.z (Jj ?_);exact hK
     ·
      intro gh gh' h
      rfl
     apply Jr 19 rfl
     iterate 3 focus (intros;(conv=>lhs;simp only [Jh,Ju,JV,Jx,JJ,eq_self,Nat.reduceEqDiff,reduceIte,Nat.reduceSub,Nat.reduceAdd,List.cons_append,List.nil_append]);all_goals rfl)
     ·
      intro gh X K zq zc zq2 zc2 zb zv hK;refine Jg (Ey (i':=j) u27 sz22 rfl rfl (by omega) (by omega) At.z) rfl (Jj ?_);exact hK zq zc zq2 zc2 zb zv
     ·
      intro gh gh' h
      rfl
     apply EK 20 rfl
     iterate 3 focus (intros;(conv=>lhs;simp only [Jh,Ju,JV,Jx,JJ,eq_self,Nat.reduceEqDiff,reduceIte,Nat.reduceSub,Nat.reduceAdd,List.cons_append,List.nil_append]);all_goals rfl)
     ·
      intro gh X K hK;refine J.storeW rfl rfl rfl rfl sz22 (by omega) At.z (Jj ?_);exact hK
     ·
      intro gh gh' h
      rfl
     apply Et [0,1,2,3,4,5,6,7,8,9,10,11,12,13,14,15,16,17,18,19] [0,1,2,3,4,5,6,7,8,9,10,11,12,13,14,15,16,18,19,20,22] foll0 rfl rfl rfl (by rfl)
     iterate 2 focus (intros;(conv=>lhs;simp only [Jh,Ju,JV,Jx,JJ,eq_self,Nat.reduceEqDiff,reduceIte,Nat.reduceSub,Nat.reduceAdd,List.cons_append,List.nil_append]);all_goals rfl)
     intro gh;clear gh;rw [slicesI_set2 (vs':=fun i=>vs (swp d j i)) (rs':=swR wk d j) hdl hjl (by simp) (fun i hi=>by rw [swp_if]) (fun i hi=>by rw [swp_if,swR_get hi])];refine EJ.reL (fun w hH=>(((hH.front (.s (.s .z))).permIx (vs':=fun i=>vs (swp d j i)) (rs':=swR wk d j) (σ:=swp d j) (by simp) (fun i hi=>swp_lt hdl hjl hi) (fun i k _ _ h=>swp_inj h) (fun i hi=>rfl) (fun i hi=>swR_get hi)).pick (j:=d) (by simpa using hdl) rfl)) ?_;generalize (fun i=>vs (swp d j i))=vsb
     have hd1:d<(swR wk d j).length:=by simpa using hdl
     have hrj:=hG.row j hjl
     have hud:rw_ (swR wk d j) d=rw_ wk j:=by rw [swR_get hdl,swp_d]
     have hru : ∀i,i<wk.length→RowOk W (rw_ (swR wk d j) i):=fun i hi=>by rw [swR_get hi];exact hG.row _ (swp_lt hdl hjl hi)
     have hld:=hG.ld_q hj hjl hq
     have hlu:(rw_ (swR wk d j) d).length=W:=by rw [hud];exact hrj.len
     have hvu : ∀k,0≤(rw_ (swR wk d j) d).getD k 0∧(rw_ (swR wk d j) d).getD k 0≤10006:=by rw [hud];exact hrj.val
     have hvc:=hvu c;have hvi:=ivZ_bd hvc.1;refine Ja (hK20 (Je fun _ hK21 _=>(Ep [[], [], [0,1], [2], []] (by kernel_rfl) (Jy (fun gh=>Jc rfl) (Jy (fun gh=>Jc rfl) (Jy (fun gh=>Ey u27 sz22 rfl rfl rfl (by omega) (.s (.s .z))) (Jy (fun gh=>EF rfl (.s (.s .z)) (slicesI_get hd1) pl22) (Jy (fun gh=>Jt rfl (.s (.s (.s .z))) rfl pl3) (Eb 5 3 foll0 (by kernel_rfl) rfl rfl fun gh=>(Em (us':=(65,_)::(66,_)::(67,_)::(68,_)::(69,_)::_) (L':=_) rfl rfl (Jg (Ey u22 sz2 rfl rfl rfl (by omega) At.z) rfl (Jg (EF rfl At.z (intsC_get (by first | omega | (simp;omega))) pl2) rfl (JB fn83 rfl rfl fun w hH=>(inverse_c hvc hH).mono ?_)))))))))))));rintro _ w ⟨rfl,hH⟩;refine ⟨_,rfl,fun a hF=>JT hF hH ?_⟩;refine Jf (Ec (Jz (Jd rfl) rfl (Ed (Ja (hK21 (Je fun _ hK22 _=>(Je fun _ hK23 _=>(Jb (Jg (Jc rfl) rfl (Jg (Jc rfl) rfl (Jg (Ey u27 sz22 rfl rfl rfl (by omega) (.s (.s .z))) rfl (Jg (EF rfl (.s (.s .z)) (slicesI_get hd1) pl22) rfl (Jg (Jo u22 rfl rfl) rfl (Jg (Jc rfl) rfl (Jf ?_)))))))))))))));refine Ja (hK23 (Jm (JE (σ:=Nat) (fun (k:Nat)=>[(78,.int .i64 (k:Int))]) (fun (k:Nat)=>H) (fun (k:Nat)=>own 2 1 (vsb d).1 (rw_ (swR wk d j) d).length (vsb d).2 (intsC (scK (rw_ (swR wk d j) d) (ivZ ((rw_ (swR wk d j) d).getD c 0)) k))::ownIx 2 vsb (swR wk d j) (less1 (fun _=>true) d)::own 22 1 q0 rs.length c0 (slicesI vsb (swR wk d j))::obj g (.cells [.int .i64 (c:Int)].toArray 3 (0,0))::L) (fun (k:Nat)=>k≤W) (fun (k:Nat)=>W - k) 0 (by omega) ⟨rfl,trivial⟩ rfl (by rw [scK_zero];rfl) ?_)));rintro k hk _ hAg2;refine Je fun _ hK24 _=>(Jb (Jg (JP rfl rfl) rfl (Jf (Ja (hK24 (Je fun _ hK25 _=>(Jn rfl (fun h79=>?_) (fun h79=>?_))))))))
     ·
      have hg9:(scK (rw_ (swR wk d j) d) (ivZ ((rw_ (swR wk d j) d).getD c 0)) k).getD k 0=(rw_ (swR wk d j) d).getD k 0:=by rw [scK_get (by omega),if_neg (by omega)]
      have hvk:=hvu k;have hmk:=mulb hvk hvi;refine Jl (Ja (hK25 (Je fun _ hK26 _=>(Jm (Je fun _ hK27 _=>(Jb (Jg (Jc rfl) rfl (Jg (Jd rfl) rfl (Jf (Ja (hK27 (Ep [[], [], [0,1], [2], [], [], [], [5,6], [7], [], [8,9], [10], [], [11,12], [13]] (by kernel_rfl) (Jy (fun gh=>Jc rfl) (Jy (fun gh=>Jc rfl) (Jy (fun gh=>Ey u27 sz22 rfl rfl rfl (by omega) (.s (.s .z))) (Jy (fun gh=>EF rfl (.s (.s .z)) (slicesI_get hd1) pl22) ?_))))))))))))))));refine Jy (fun gh=>Jc rfl) (Jy (fun gh=>Jc rfl) (Jy (fun gh=>Jc rfl) (Jy (fun gh=>Ey u27 sz22 rfl rfl rfl (by omega) (.s (.s .z))) (Jy (fun gh=>EF rfl (.s (.s .z)) (slicesI_get hd1) pl22) (Jy (fun gh=>Jc rfl) (Jy (fun gh=>Ey u22 sz2 rfl rfl rfl (by omega) At.z) (Jy (fun gh=>EF rfl At.z ((intsC_get (by simp;omega)).trans (congrArg (fun x=>some (Value.int .i64 x)) hg9)) pl2) (Jy (fun gh=>Jc rfl) (Jy (fun gh=>EA rfl rfl (nw _ (by omega))) (Jy (fun gh=>Er rfl rfl (by decide) rfl) (Eb 15 2 foll0 (by kernel_rfl) rfl rfl fun gh=>(Em (us':=(81,_)::(82,_)::(83,_)::(84,_)::(85,_)::(86,_)::(87,_)::(88,_)::(89,_)::(90,_)::(91,_)::(92,_)::(93,_)::(94,_)::(95,_)::_) (L':=_) rfl rfl (Jg (Ey u22 sz2 rfl rfl rfl (by omega) At.z) rfl (J.storeWI rfl rfl sz2 (by omega) At.z ?_))))))))))))));refine Jf (Ec (Ed (JD (Ja (hK26 (Jb (Jg (JC rfl rfl (by first | exact nw _ (by omega) | rfl)) rfl (Jg (Jc rfl) rfl (Jf (Ja ?_))))))))));exact hAg2 (k+1) (by omega) (by omega) 22 rfl rfl ⟨rfl,trivial⟩ rfl (by rw [scK_set (by omega)])
     ·
      refine JG (Jk (Jk (JN (Ja (hK22 (Je fun _ hK28 _=>(Je fun _ hK29 _=>(Jb (Jg (Jc rfl) rfl ?_)))))))))
      have hkW:k=W:=by omega
      rw [hkW]
      have e9:scK (rw_ (swR wk d j) d) (ivZ ((rw_ (swR wk d j) d).getD c 0)) W=(unitS (rw_ wk j)):=by
       have h9:=scK_end hrj hld hcW;rw [hrj.len] at h9;rw [hud];exact h9
      rw [e9];refine J.reL (fun w hH=>hH.tk0 hd1 (by rw [hrj.unit.len,hlu])) ?_;rw [show slicesI vsb (swR wk d j)=slicesI vsb (tkK (swR wk d j) (unitS (rw_ wk j)) d 0) from by rw [tkK_zero,slicesI_row (by rw [hrj.unit.len,hlu])]];have hU:=hrj.unit
      have hUl:ldR (unitS (rw_ wk j))=c:=by rw [unitS_ld hrj (by rw [hld,hrj.len];exact hcW),hld]
      refine Jg (Jo u27 rfl rfl) rfl (Jg (Jc rfl) rfl (Jf (Ja (hK29 (Jm (JE (σ:=Nat) (fun (i:Nat)=>[(100,.int .i64 (i:Int))]) (fun (i:Nat)=>H) (fun (i:Nat)=>rowA 2 vsb (tkK (swR wk d j) (unitS (rw_ wk j)) d i) d::ownIx 2 vsb (tkK (swR wk d j) (unitS (rw_ wk j)) d i) (less1 (fun _=>true) d)::own 22 1 q0 rs.length c0 (slicesI vsb (tkK (swR wk d j) (unitS (rw_ wk j)) d i))::obj g (.cells [.int .i64 (c:Int)].toArray 3 (0,0))::L) (fun (i:Nat)=>i≤wk.length) (fun (i:Nat)=>wk.length - i) 0 (by omega) ⟨rfl,trivial⟩ rfl rfl ?_))))));rintro i hi _ hAg3
      have htl:(tkK (swR wk d j) (unitS (rw_ wk j)) d i).length=wk.length:=by simp
      have htd:d<(tkK (swR wk d j) (unitS (rw_ wk j)) d i).length:=by omega
      have htd2:rw_ (tkK (swR wk d j) (unitS (rw_ wk j)) d i) d=(unitS (rw_ wk j)):=tkK_d hd1;refine Je fun _ hK30 _=>(Jb (Jg (JP rfl rfl) rfl (Jf (Ja (hK30 (Je fun _ hK31 _=>(Jn rfl (fun h101=>?_) (fun h101=>?_))))))))
      ·
       have hik:i<wk.length:=by omega
       have hri:=hru i hik;refine Jl (Ja (hK31 (Je fun _ hK32 _=>(Jm (Je fun _ hK33 _=>(Jb (Jg (Jc rfl) rfl (Jg (Ey u27 sz22 rfl rfl rfl (by omega) (.s (.s .z))) rfl (Jg (EF rfl (.s (.s .z)) (slicesI_get (by simpa using hik)) pl22) rfl (Jg (Jd rfl) rfl (Jg (Jd rfl) rfl (Jf (Ja (hK33 (Je fun _ hK34 _=>(Jb ?_))))))))))))))));refine Jg (Jc rfl) rfl (Jg (Jc rfl) rfl (Jg (Ej rfl rfl) rfl (Jg (Jc rfl) rfl (Eg (jd:=108) rfl (fun h108=>?_) (fun h108=>?_)))))
       ·
        try have h108p:=of_decide_eq_true h108
        have hne:i≠d:=by omega
        have hti:rw_ (tkK (swR wk d j) (unitS (rw_ wk j)) d i) i=rw_ (swR wk d j) i:=tkK_i (by simpa using hik) hne
        have hli:(rw_ (tkK (swR wk d j) (unitS (rw_ wk j)) d i) i).length=W:=by rw [hti];exact hri.len
        refine JX (Jc rfl) rfl rfl rfl h108 (JX (Jt rfl (.s (.s (.s .z))) rfl pl3) rfl rfl rfl h108 (JX (PR.idxX (vs:=vsb) (rs:=(tkK (swR wk d j) (unitS (rw_ wk j)) d i)) (j:=i) (p:=less1 (fun _=>true) d) u22 sz2 rfl rfl rfl (by omega) (by omega) (less1_iff.2 ⟨rfl,hne⟩) (.s .z)) rfl rfl rfl h108 (JX (PR.loadX rfl (.s .z) (by omega) (less1_iff.2 ⟨rfl,hne⟩) (by omega) pl2) rfl rfl rfl h108 (JX (Ej rfl rfl) rfl rfl rfl h108 (Jg (JZ rfl h108 rfl) rfl (Jf (Ja (hK34 (Jn rfl (fun h114=>?_) (fun h114=>?_))))))))))
        ·
         refine CJ.reL (fun w hH=>(hH.front (.s .z)).pick (j:=i) (by omega) (less1_iff.2 ⟨rfl,hne⟩)) ?_;have hvi2:=hri.val;refine Ep [[], [], [], [1,2], [3], [], [], [5,6], [7]] (by kernel_rfl) (Jy (fun gh=>Jc rfl) (Jy (fun gh=>Jc rfl) (Jy (fun gh=>Jc rfl) (Jy (fun gh=>Ey u27 sz22 rfl rfl rfl (by omega) (.s (.s (.s .z)))) (Jy (fun gh=>EF rfl (.s (.s (.s .z))) (slicesI_get htd) pl22) (Jy (fun gh=>Jc rfl) (Jy (fun gh=>Jt rfl (.s (.s (.s (.s .z)))) rfl pl3) (Jy (fun gh=>Ey u22 sz2 rfl rfl rfl (by omega) At.z) (Jy (fun gh=>EF rfl At.z (intsC_get (by first | omega | (simp;omega))) pl2) (Eb 9 1 foll0 (by kernel_rfl) rfl rfl fun gh=>(Em (us':=(115,_)::(116,_)::(117,_)::(118,_)::(119,_)::(120,_)::(121,_)::(122,_)::(123,_)::_) (L':=_) rfl rfl (JB fn84 rfl rfl fun w hH=>hH.lend (.s (.s .z)) fun Hl1 hle1 hA1 hB1 hH=>(takeAway_c rfl (own_ints hA1) (by rw [hli,htd2,hU.len]) (by rw [htd2];exact hU.val) (by rw [hti];exact hvi2) (by rw [hti];exact hvi2 c) (by omega) (hH.front .z)).mono ?_))))))))))));rintro _ w ⟨rfl,hH⟩;replace hH:=hB1 _ _ hH;refine ⟨_,rfl,fun a hF=>JT hF hH ?_⟩;refine J.reL (fun w hH=>hH.tkStep hd1 (by simpa using hik) hne (by rw [hti,htd2];unfold oneBy;rw [hUl]) (by simp)) ?_;rw [show slicesI vsb (tkK (swR wk d j) (unitS (rw_ wk j)) d i)=slicesI vsb (tkK (swR wk d j) (unitS (rw_ wk j)) d (i+1)) from by rw [← tkK_set (by simpa using hik) hne,slicesI_row (by rw [hti];unfold oneBy;simp)]];refine Jf (Ec (Ed (JD (Ja (hK32 (Jb (Jg (JC rfl rfl (by first | exact nw _ (by omega) | rfl)) rfl (Jg (Jc rfl) rfl (Jf (Ja ?_))))))))));exact hAg3 (i+1) (by omega) (by omega) 29 rfl rfl ⟨rfl,trivial⟩ rfl rfl
        ·
         refine Jl (JD (Ja (hK32 (Jb (Jg (JC rfl rfl (by first | exact nw _ (by omega) | rfl)) rfl (Jg (Jc rfl) rfl (Jf (Ja ?_))))))));exact hAg3 (i+1) (by omega) (by omega) 19 rfl rfl ⟨rfl,trivial⟩ rfl (by rw [tkK_same (fun h1 h2=>oneBy_zero hri hU (by rw [hUl,← hti];exact Decidable.not_not.1 h114))])
       ·
        try have h108p:=of_decide_eq_false h108
        refine JQ rfl rfl rfl h108 (JQ rfl rfl rfl h108 (JQ rfl rfl rfl h108 (JQ rfl rfl rfl h108 (JQ rfl rfl rfl h108 (Jg (JY rfl h108 rfl) rfl (Jf (Ja (hK34 (Eo rfl (Jl (JD (Ja (hK32 (Jb (Jg (JC rfl rfl (by first | exact nw _ (by omega) | rfl)) rfl (Jg (Jc rfl) rfl ?_))))))))))))))));refine Jf (Ja ?_);exact hAg3 (i+1) (by omega) (by omega) 19 rfl rfl ⟨rfl,trivial⟩ rfl (by rw [tkK_same (fun _ h2=>absurd (by omega:i=d) h2)])
      ·
       refine JG (Jk (Jk (JN (Ja (hK28 (Jb (Jg (Jc rfl) rfl ?_)))))))
       obtain rfl:i=wk.length:=by omega
       refine J.reL (fun w hH=>hH.tkPut (by simpa using hdl)) (Jg (JC rfl rfl (by first | exact nw _ (by omega) | rfl)) rfl (Jg (Jd rfl) rfl (Jf (JD (Ja (hK14 (Je fun _ hK35 _=>(Je fun _ hK36 _=>(Jb (Jg (Jt rfl (.s (.s .z)) rfl pl3) rfl (Jf (Ja (hK36 (Jb (JW ze3 rfl fun g7=>(Ez rfl rfl rfl rfl sz3 (by simp [*]) At.z ?_))))))))))))))));refine Jf (Ja (hK35 (Jb (Jg (Jt rfl At.z rfl pl3) rfl (Jg (JC rfl rfl (by first | exact nw _ (by omega) | rfl)) rfl (Ez rfl rfl rfl rfl sz3 (by simp [*]) At.z (Jf (Ja (JO (.s (.s (.s .z))) (Jw (.s (.s .z)) (Jw (.s .z) (Jw (.s (.s .z)) ?_))))))))))));exact hAg1 (vsb,(tkK (swR wk d j) (unitS (rw_ wk j)) d wk.length),d+1,c+1,g7) ⟨hG.round hj hjl hq,by simpa using hwl⟩ (by show W - (c+1)<W - c;omega) 69 rfl rfl ⟨rfl,⟨rfl,trivial⟩⟩ rfl rfl
   ·
    refine JG (Jk (Jk (JN (Ja (hK10 (Je fun _ hK37 _=>(Jb (Jg (Jc rfl) rfl (J.know (fun w hH=>own_le (hH.objs (own 22 1 q0 rs.length c0 (slicesI vs wk)) (by simp)).1) fun hcap=>(Jg (Jc rfl) rfl (Jg (PR.sliceHi (i':=d) u27 sz22 rfl rfl rfl (by omega)) rfl (Jg (Jd rfl) rfl (Jf (Ja (hK37 (Jq ?_))))))))))))))));refine Jp rfl (Res.tmp rfl) fun w hH=>?_;replace hH:=hH.sublist (.cons_cons _ (.cons _ (.cons_cons _ (List.Sublist.refl _))));have hdn:=hG.done hW (.inr (by have:=(hG.row 0 (by omega)).len;omega));have hl9:(wk.take d).length=d:=List.length_take_of_le hGd;rw [← hdn];have h8:=(((hH.takeIx hGd).ofIx).front (.s .z)).ownTake (m':=d) (by omega);rw [slicesI_take] at h8;exact ⟨q0,c0,vs,by rw [hl9],by unfold ownRs;rw [hl9];exact h8.star⟩
  ·
   try have hg30p:=of_decide_eq_false hg30
   refine JS.gn rfl rfl rfl hg30 (JS.gn rfl rfl rfl hg30 (JS.gn rfl rfl rfl hg30 (JS.gn rfl rfl rfl hg30 (JS.gn rfl rfl rfl hg30 (JS.gn rfl rfl rfl hg30 (Jz (JY rfl hg30 rfl) rfl (Ed (Ja (hK13 (Eo rfl (JG (Jk (Jk (JN (Ja (hK10 ?_))))))))))))))));refine Je fun _ hK38 _=>(Jb (Jg (Jc rfl) rfl (J.know (fun w hH=>own_le (hH.objs (own 22 1 q0 rs.length c0 (slicesI vs wk)) (by simp)).1) fun hcap=>(Jg (Jc rfl) rfl (Jg (PR.sliceHi (i':=d) u27 sz22 rfl rfl rfl (by omega)) rfl (Jg (Jd rfl) rfl (Jf (Ja (hK38 (Jq (Jp rfl (Res.tmp rfl) fun w hH=>?_)))))))))));replace hH:=hH.sublist (.cons_cons _ (.cons _ (.cons_cons _ (List.Sublist.refl _))));have hdn:=hG.done hW (.inl (by omega));have hl9:(wk.take d).length=d:=List.length_take_of_le hGd;rw [← hdn];have h8:=(((hH.takeIx hGd).ofIx).front (.s .z)).ownTake (m':=d) (by omega);rw [slicesI_take] at h8;exact ⟨q0,c0,vs,by rw [hl9],by unfold ownRs;rw [hl9];exact h8.star⟩
theorem fn56:Fn Try.prog 56:=⟨_,Try.func56,by kernel_rfl,rfl⟩
theorem rankOf_c {B:World} {H0 H:HP} {L:List SA} {w:World} {qrs:Option Addr} {crs:Nat} {rs:List (List Int)} {W:Nat} (hrs:RowsR H qrs rs) (hW : ∀r∈rs,RowOk W r) (hn:rs.length≤1048576) (hWn:W≤1048576) (hH:Hp B H0 H L w):Calls Try.prog 31 [.slice qrs rs.length crs].toArray w fun e w'=>e = .returned (.int .i64 ((redS rs).length:Int))∧Hp B H0 H L w':=by
 refine Jv Try.func31 rfl 6 rfl rfl [(0,.slice qrs rs.length crs)] rfl hH ?_;clear hH;refine Je fun _ hK1 _=>(Jb (Jg (Jd rfl) rfl (Jf (Ja (hK1 (Je fun _ hK2 _=>(Jb (Jg (Jc rfl) rfl (JB fn56 rfl rfl fun w hH=>(reduce_c hrs hW hn hWn hH).mono ?_)))))))));rintro _ w ⟨qo4,co4,vso4,rfl,hH⟩;refine ⟨_,rfl,fun a hF=>JT hF hH ?_⟩;refine Jg (Jo u27 rfl rfl) rfl (Jg (Jd rfl) rfl (Jf (Ja (hK2 (Jq (Jp rfl (Res.tmp rfl) fun w hH=>?_))))));replace hH:=hH.tail;exact ⟨rfl,hH⟩
def uniR (n k:Nat):List Int:=(List.replicate n 0).set k 1
@[simp] theorem uniR_len (n k:Nat):(uniR n k).length=n:=by simp [uniR]
def wdK (rs:List (List Int)) (n k:Nat):List (List Int):=(List.range k).map fun i=>rw_ rs i++uniR n i
def wdS (rs:List (List Int)) (n:Nat):List (List Int):=wdK rs n rs.length
def fzS (R:List (List Int)) (W:Nat):List (List Int):=(R.filter fun r=>zR (r.take W)).map fun r=>r.drop W
def kerS (rs:List (List Int)) (W:Nat):List (List Int):=redS (fzS (redS (wdS rs rs.length)) W)
theorem Red.count {W:Nat} {R:List (List Int)} (h:Red W R):R.length≤W:=by
 have key : ∀(l:List (List Int)) (lo:Nat),(∀r∈l,lo≤ldR r∧ldR r<W)→l.Pairwise (fun r s=>ldR r<ldR s)→l.length+lo≤W∨l=[]:=by
  intro l
  induction l with
  | nil=>intro _ _ _;exact .inr rfl
  | cons r l ih=>
   intro lo h1 h2
   left
   have h3:=List.pairwise_cons.1 h2;have h4:=h1 r (by simp)
   rcases ih (lo+1) (fun s hs=>⟨by have:=h3.1 s hs;omega,(h1 s (by simp [hs])).2⟩) h3.2 with h5 | h5
   ·simp only [List.length_cons];omega
   ·subst h5;simp only [List.length_cons,List.length_nil];omega
 rcases key R 0 (fun r hr=>⟨by omega,(h.one r hr).1⟩) h.srt with h1 | h1
 ·omega
 ·rw [h1];simp
theorem u137:Try.prog.underlying 137=some (TypeDesc.struct #[{name:="degrees",type:=22,offset:=0,embedded:=false,tag:="",pkgPath:="loop.example/g01219/impl",byteOffset:=0},{name:="most",type:=3,offset:=1,embedded:=false,tag:="",pkgPath:="loop.example/g01219/impl",byteOffset:=24},{name:="out",type:=52,offset:=2,embedded:=false,tag:="",pkgPath:="loop.example/g01219/impl",byteOffset:=32}]):=by kernel_rfl
theorem u52:Try.prog.underlying 52=some (TypeDesc.slice 87):=by kernel_rfl
theorem sz52:Size Try.prog 52 1:=by unfold Size;kernel_rfl
theorem by87:Bytes Try.prog 87 64:=by unfold Bytes;kernel_rfl
theorem pl52:Plain Try.prog 52:=⟨_,u52,rfl⟩
theorem fn98:Fn Try.prog 98:=⟨_,Try.func98,by kernel_rfl,rfl⟩
def capL (M:Nat) (a b:List Pw):List Pw:=a++b.take (M - a.length)
theorem capL_nil (M:Nat) (a:List Pw):capL M a []=a:=by simp [capL]
theorem capL_full {M:Nat} {a:List Pw} (h:M≤a.length) (b:List Pw):capL M a b=a:=by unfold capL;rw [show M - a.length=0 by omega,List.take_zero,List.append_nil]
theorem capL_app (M:Nat) (a b c:List Pw):capL M (capL M a b) c=capL M a (b++c):=by
 unfold capL;rw [List.append_assoc,List.take_append,List.length_append,List.length_take]
 congr 3
 omega
theorem capL_len {M:Nat} {a b:List Pw} (h:a.length≤M):(capL M a b).length≤M:=by
 unfold capL;rw [List.length_append,List.length_take]
 omega
theorem capL_one {M:Nat} {a:List Pw} (h:a.length<M) (p:Pw):capL M a [p]=a++[p]:=by
 unfold capL;rw [List.take_of_length_le (by simp;omega)]
theorem capL_zero (M:Nat) (b:List Pw):capL M [] b=b.take M:=by simp [capL]
theorem enum_end {ds:List Int} {i:Nat} {m:Pw} {n:Int} (hi:i=ds.length):enumF (ds.drop i) i m n=if n=0 then [m] else []:=by
 subst hi;rw [List.drop_length]
 rfl
abbrev enS (ds:List Int) (i:Nat) (m:Pw) (n:Int):List Pw:=enumF (ds.drop i) i m n
def enG (ds:List Int) (i:Nat) (m:Pw) (n e:Int):List Pw:=enS ds (i+1) (m.set i e) (n - e * ds.getD i 0)
theorem enum_go {ds:List Int} {i:Nat} {m:Pw} {n:Int} (hi:i<ds.length):enS ds i m n=(dnL (topM (ds.getD i 0) n)).flatMap (enG ds i m n):=by
 unfold enS enG;rw [List.drop_eq_getElem_cons hi]
 have:ds.getD i 0=ds[i]:=by simp [List.getD_eq_getElem?_getD,List.getElem?_eq_getElem hi]
 rw [this]
 rfl
theorem enG_set {ds:List Int} {i:Nat} {m mm:Pw} {n e:Int} (h : ∀v:Int,mm.set i v=m.set i v):enS ds (i+1) (mm.set i e) (n - e * ds.getD i 0)=enG ds i m n e:=by unfold enG;rw [h]
structure EnI (ds:List Int) (i:Nat) (m:Pw) (n e:Int) (A:List Pw) (mm:Pw):Prop where
 len:mm.length=8
 set : ∀v:Int,mm.set i v=m.set i v
 eq:A++(dnL e).flatMap (enG ds i m n)=enS ds i m n
 lo : -1000001≤e
 hi:e≤topM (ds.getD i 0) n
theorem topM_20 (d n:Int):topM d n≤20:=by unfold topM;split <;> omega
theorem tdiv_b {n d:Int} (hd:1≤d) (hn : -1000000≤n∧n≤1000000) : -1000000≤n.tdiv d∧n.tdiv d≤1000000:=by
 rcases Int.le_total 0 n with h | h
 ·rw [Int.tdiv_eq_ediv_of_nonneg h];have h1:=Int.ediv_nonneg h (by omega:0≤d);have h2:=Int.ediv_le_self d h
  omega
 ·have e:n = -(-n):=by omega
  rw [e,Int.neg_tdiv,Int.tdiv_eq_ediv_of_nonneg (by omega)];have h1:=Int.ediv_nonneg (by omega:0≤ -n) (by omega:0≤d);have h2:=Int.ediv_le_self d (by omega:0≤ -n)
  omega
theorem topM_lo {d n:Int} (hd:1≤d) (hn : -1000000≤n∧n≤1000000) : -1000000≤topM d n:=by
 have:=tdiv_b hd hn;unfold topM
 split <;> omega
theorem EnI.start {ds:List Int} {i:Nat} {m:Pw} {n:Int} (hm:m.length=8) (hi:i<ds.length) (hd:1≤ds.getD i 0) (hn : -1000000≤n∧n≤1000000):EnI ds i m n (topM (ds.getD i 0) n) [] m:=
 ⟨hm,fun _=>rfl,by rw [enum_go hi];rfl,by have:=topM_lo hd hn;omega,Int.le_refl _⟩
theorem EnI.next {ds:List Int} {i:Nat} {m mm:Pw} {n e:Int} {A:List Pw} (h:EnI ds i m n e A mm) (he:0≤e):EnI ds i m n (e - 1) (A++enG ds i m n e) (mm.set i e):=
 ⟨by simpa using h.len,fun v=>by rw [List.set_set];exact h.set v,by rw [← h.eq,dnL_succ he,List.flatMap_cons,List.append_assoc],by omega,by have:=h.hi;omega⟩
theorem EnI.end {ds:List Int} {i:Nat} {m mm:Pw} {n e:Int} {A:List Pw} (h:EnI ds i m n e A mm) (he:e<0):A=enS ds i m n:=by
 rw [← h.eq,dnL_neg he]
 simp
theorem left_b {d n k:Int} (hd:1≤d∧d≤12) (hk:0≤k) (ht:k≤topM d n) (hn : -1000000≤n∧n≤1000000):(0≤k * d∧k * d≤240)∧ -1000000≤n - k * d∧n - k * d≤1000000:=by
 have h20:=topM_20 d n;have h0:0≤k * d:=Int.mul_nonneg hk (by omega);have h1:k * d≤20 * 12:=Int.mul_le_mul (by omega) hd.2 (by omega) (by omega);refine ⟨⟨h0,by omega⟩,?_,by omega⟩
 rcases Int.le_total 0 n with hn0 | hn0
 ·omega
 ·have h2:k=0:=by
   have h3:n.tdiv d≤0:=by
    have e:n = -(-n):=by omega
    rw [e,Int.neg_tdiv,Int.tdiv_eq_ediv_of_nonneg (by omega)];have:=Int.ediv_nonneg (by omega:0≤ -n) (by omega:0≤d)
    omega
   unfold topM at ht
   split at ht <;> omega
  rw [h2]
  omega
theorem min_if (i j:Int):(if j<i then j else i)=min i j:=by omega
theorem topM_odd {d n:Int} (h:d.tmod 2=1):min (min (n.tdiv d) 20) 1=topM d n:=by unfold topM;rw [if_pos h]
theorem topM_even {d n:Int} (h : ¬d.tmod 2=1):min (n.tdiv d) 20=topM d n:=by unfold topM;rw [if_neg h]
theorem fromX_c {B:World} {H0 H:HP} {L:List SA} {w:World} {i:Nat} {m:List Int} {n:Int} {gl most:Nat} {qd qo:Option Addr} {cd co:Nat} {ds:List Int} {acc:List Pw} (hm:m.length=8) (hds:Ints H qd ds) (hd : ∀j,j<ds.length→1≤ds.getD j 0∧ds.getD j 0≤12) (hi:i≤ds.length) (h8:ds.length≤8) (hn : -1000000≤n∧n≤1000000) (ha:acc.length≤most+1) (hmost:most≤100000) (hrec:i<ds.length→∀(m':Pw) (n':Int) (acc':List Pw) (qo':Option Addr) (co':Nat),m'.length=8→ -1000000≤n' ∧n' ≤1000000→acc'.length≤most+1→∀(L:List SA) (w:World),Hp B H0 H (obj gl (.cells [.slice qd ds.length cd,.int .i64 (most:Int),.slice qo' acc'.length co'].toArray 137 (0,0))::own 87 8 qo' acc'.length co' (psC acc')::L) w→Calls Try.prog 98 [.pointer (some ⟨gl,0,none⟩),.int .i64 ((i+1:Nat):Int),.agg (intsC m').toArray,.int .i64 n'].toArray w fun r w'=>r = .returned (.tuple #[])∧∃qo2 co2,Hp B H0 H (obj gl (.cells [.slice qd ds.length cd,.int .i64 (most:Int),.slice qo2 (capL (most+1) acc' (enS ds (i+1) m' n')).length co2].toArray 137 (0,0))::own 87 8 qo2 (capL (most+1) acc' (enS ds (i+1) m' n')).length co2 (psC (capL (most+1) acc' (enS ds (i+1) m' n')))::L) w') (hH:Hp B H0 H (obj gl (.cells [.slice qd ds.length cd,.int .i64 (most:Int),.slice qo acc.length co].toArray 137 (0,0))::own 87 8 qo acc.length co (psC acc)::L) w):Calls Try.prog 98 [.pointer (some ⟨gl,0,none⟩),.int .i64 (i:Int),.agg (intsC m).toArray,.int .i64 n].toArray w fun e w'=>e = .returned (.tuple #[])∧∃qo2 co2,Hp B H0 H (obj gl (.cells [.slice qd ds.length cd,.int .i64 (most:Int),.slice qo2 (capL (most+1) acc (enS ds i m n)).length co2].toArray 137 (0,0))::own 87 8 qo2 (capL (most+1) acc (enS ds i m n)).length co2 (psC (capL (most+1) acc (enS ds i m n)))::L) w':=by
 refine Jv Try.func98 rfl 74 rfl rfl [(0,.pointer (some ⟨gl,0,none⟩)),(1,.int .i64 (i:Int)),(2,.agg (intsC m).toArray),(3,.int .i64 n)] rfl hH ?_;clear hH;refine Je fun _ hK1 _=>(Jb (Ee rfl rfl rfl fun g6=>(Jf (Ja (hK1 (Je fun _ hK2 _=>(Je fun _ hK3 _=>(En foll0 (by kernel_rfl) (Jz (Jc rfl) rfl (Jz (JL rfl) rfl (Jz (Js u137 rfl sz52 rfl) rfl (Jz (Jt rfl (.s .z) rfl pl52) rfl (Jz (Jo u52 rfl rfl) rfl (Jz (Jc rfl) rfl (Jz (JL rfl) rfl ?_)))))))))))))));refine Jz (Js u137 rfl sz3 rfl) rfl (Jz (Jt rfl (.s .z) rfl pl3) rfl (Jz (EE rfl rfl) rfl (Ed (Ja (hK3 (Jn rfl (fun h20=>?_) (fun h20=>?_)))))))
 ·
  refine Jq (Ji (EJ.ret0r rfl fun w hH=>?_));replace hH:=hH.sublist (.cons _ (.cons_cons _ (.cons_cons _ (List.Sublist.refl _))));rw [capL_full (by omega)];exact ⟨rfl,qo,co,hH⟩
 ·
  refine Jl (Ja (hK2 (Je fun _ hK4 _=>(Je fun _ hK5 _=>(Jb (Jg (Jc rfl) rfl (Jg (Jc rfl) rfl (Jg (JL rfl) rfl (Jg (Js u137 rfl sz22 rfl) rfl (Jg (Jt rfl (.s .z) rfl pl22) rfl (Jg (Jo u22 rfl rfl) rfl (Jg (EC rfl rfl) rfl (Jf (Ja (hK5 (Jn rfl (fun h27=>?_) (fun h27=>?_)))))))))))))))))
  ·
   refine Je fun _ hK6 _=>(Je fun _ hK7 _=>(Jb (Jg (Jc rfl) rfl (Jg (EC rfl rfl) rfl (Jf (Ja (hK7 (Jn rfl (fun h29=>?_) (fun h29=>?_)))))))))
   ·
    refine Es (Rs:=[_,_,_]) 11 [[], [], [1], [1,2], [1,2,3], [], [5], [1,2,3,4,5,6], [0,1,2,3,4,5,6,7], [0,1,2,3,4,5,6,7,8], [0,1,2,3,4,5,6,7,8,9]] [[], [], [], [], [12], [11], [], [6], [], [], []] [[], [], [], [], [], [], [], [13], [], [], [12]] rfl rfl (by kernel_rfl) ?_;apply Jr 1 rfl
    iterate 3 focus (intros;(conv=>lhs;simp only [Jh,Ju,JV,Jx,JJ,eq_self,Nat.reduceEqDiff,reduceIte,Nat.reduceSub,Nat.reduceAdd,List.cons_append,List.nil_append]);all_goals rfl)
    ·
     intro gh X K zq zc zq2 zc2 zb zv hK;refine Jg (Jc rfl) rfl (Jj ?_);exact hK zq zc zq2 zc2 zb zv
    ·
     intro gh gh' h
     rfl
    apply Jr 2 rfl
    iterate 3 focus (intros;(conv=>lhs;simp only [Jh,Ju,JV,Jx,JJ,eq_self,Nat.reduceEqDiff,reduceIte,Nat.reduceSub,Nat.reduceAdd,List.cons_append,List.nil_append]);all_goals rfl)
    ·
     intro gh X K zq zc zq2 zc2 zb zv hK;refine Jg (Jc rfl) rfl (Jj ?_);exact hK zq zc zq2 zc2 zb zv
    ·
     intro gh gh' h
     rfl
    apply Jr 3 rfl
    iterate 3 focus (intros;(conv=>lhs;simp only [Jh,Ju,JV,Jx,JJ,eq_self,Nat.reduceEqDiff,reduceIte,Nat.reduceSub,Nat.reduceAdd,List.cons_append,List.nil_append]);all_goals rfl)
    ·
     intro gh X K zq zc zq2 zc2 zb zv hK;refine Jg (JL rfl) rfl (Jj ?_);exact hK zq zc zq2 zc2 zb zv
    ·
     intro gh gh' h
     rfl
    apply Jr 4 rfl
    iterate 3 focus (intros;(conv=>lhs;simp only [Jh,Ju,JV,Jx,JJ,eq_self,Nat.reduceEqDiff,reduceIte,Nat.reduceSub,Nat.reduceAdd,List.cons_append,List.nil_append]);all_goals rfl)
    ·
     intro gh X K zq zc zq2 zc2 zb zv hK;refine Jg (Js u137 rfl sz52 rfl) rfl (Jj ?_);exact hK zq zc zq2 zc2 zb zv
    ·
     intro gh gh' h
     rfl
    apply Jr 5 rfl
    iterate 3 focus (intros;(conv=>lhs;simp only [Jh,Ju,JV,Jx,JJ,eq_self,Nat.reduceEqDiff,reduceIte,Nat.reduceSub,Nat.reduceAdd,List.cons_append,List.nil_append]);all_goals rfl)
    ·
     intro gh X K zq zc zq2 zc2 zb zv hK;refine Jg (Jt rfl At.z rfl pl52) rfl (Jj ?_);exact hK zq zc zq2 zc2 zb zv
    ·
     intro gh gh' h
     rfl
    apply Jr 6 rfl
    iterate 3 focus (intros;(conv=>lhs;simp only [Jh,Ju,JV,Jx,JJ,eq_self,Nat.reduceEqDiff,reduceIte,Nat.reduceSub,Nat.reduceAdd,List.cons_append,List.nil_append]);all_goals rfl)
    ·
     intro gh X K zq zc zq2 zc2 zb zv hK;refine Jg (JA rfl At.z (by simpa [*] using ag87)) rfl (Jj ?_);exact hK zq zc zq2 zc2 zb zv
    ·
     intro gh gh' h
     rfl
    apply Ei 7 rfl
    iterate 3 focus (intros;(conv=>lhs;simp only [Jh,Ju,JV,Jx,JJ,eq_self,Nat.reduceEqDiff,reduceIte,Nat.reduceSub,Nat.reduceAdd,List.cons_append,List.nil_append]);all_goals rfl)
    ·
     intro gh X K zq zc zq2 zc2 zb zv hK;refine J.mk (MK.lit8 cf8I u52 ze87 rfl sz87 hm rfl) rfl fun qo36 co36=>(Jj ?_);exact hK qo36 co36 zq2 zc2 zb zv
    ·
     intro gh gh' h;refine ⟨?_,?_⟩ <;> rfl
    apply Ei 8 rfl
    iterate 3 focus (intros;(conv=>lhs;simp only [Jh,Ju,JV,Jx,JJ,eq_self,Nat.reduceEqDiff,reduceIte,Nat.reduceSub,Nat.reduceAdd,List.cons_append,List.nil_append]);all_goals rfl)
    ·
     intro gh X K zq zc zq2 zc2 zb zv hK;refine J.append8 cf8I u52 ze87 rfl sz87 by87 rfl rfl rfl (by omega) (.s .z) At.z (fun _ _=>At.z) rfl fun qo37 co37=>(Jw .z (Jw (.s .z) (Jj ?_)));exact hK qo37 co37 zq2 zc2 zb zv
    ·
     intro gh gh' h;refine ⟨?_,?_⟩ <;> (first | simp only [h 6 rfl] | rfl)
    apply Jr 9 rfl
    iterate 3 focus (intros;(conv=>lhs;simp only [Jh,Ju,JV,Jx,JJ,eq_self,Nat.reduceEqDiff,reduceIte,Nat.reduceSub,Nat.reduceAdd,List.cons_append,List.nil_append]);all_goals rfl)
    ·
     intro gh X K zq zc zq2 zc2 zb zv hK;refine Jg (JL rfl) rfl (Jj ?_);exact hK zq zc zq2 zc2 zb zv
    ·
     intro gh gh' h
     first | simp only [h 6 rfl,h 7 rfl] | rfl
    apply Jr 10 rfl
    iterate 3 focus (intros;(conv=>lhs;simp only [Jh,Ju,JV,Jx,JJ,eq_self,Nat.reduceEqDiff,reduceIte,Nat.reduceSub,Nat.reduceAdd,List.cons_append,List.nil_append]);all_goals rfl)
    ·
     intro gh X K zq zc zq2 zc2 zb zv hK;refine Jg (Js u137 rfl sz52 rfl) rfl (Jj ?_);exact hK zq zc zq2 zc2 zb zv
    ·
     intro gh gh' h
     first | simp only [h 6 rfl,h 7 rfl] | rfl
    apply EK 11 rfl
    iterate 3 focus (intros;(conv=>lhs;simp only [Jh,Ju,JV,Jx,JJ,eq_self,Nat.reduceEqDiff,reduceIte,Nat.reduceSub,Nat.reduceAdd,List.cons_append,List.nil_append]);all_goals rfl)
    ·
     intro gh X K hK;refine Ez rfl rfl rfl rfl sz52 (by simp [*]) At.z (Jj ?_);exact hK
    ·
     intro gh gh' h
     first | simp only [h 6 rfl,h 7 rfl] | rfl
    apply Et [0,1,2,3,4,5,6,7,8,9,10] [0,1,2,3,4,5,6,7,8,9,10,11] foll0 rfl rfl rfl (by rfl)
    iterate 2 focus (intros;(conv=>lhs;simp only [Jh,Ju,JV,Jx,JJ,eq_self,Nat.reduceEqDiff,reduceIte,Nat.reduceSub,Nat.reduceAdd,List.cons_append,List.nil_append]);all_goals rfl)
    intro gh;generalize (gh 6).c=co36;generalize (gh 6).q=qo36;generalize (gh 7).c=co37;generalize (gh 7).q=qo37;clear gh;refine Ja (hK6 (Jq (Ji (EJ.ret0r rfl fun w hH=>?_))));replace hH:=hH.sublist (.cons _ (.cons_cons _ (.cons_cons _ (.cons _ (List.Sublist.refl _)))));rw [show enS ds i m n=[m] from by rw [enS,enum_end (by omega),if_pos h29],capL_one (by omega),List.length_append];exact ⟨rfl,qo37,co37,hH.front (.s .z)⟩
   ·
    refine Jl (Ja (hK6 (Jq (Ji (EJ.ret0r rfl fun w hH=>?_)))));replace hH:=hH.sublist (.cons _ (.cons_cons _ (.cons_cons _ (List.Sublist.refl _))));rw [show enS ds i m n=[] from by rw [enS,enum_end (by omega),if_neg h29],capL_nil];exact ⟨rfl,qo,co,hH⟩
  ·
   have hil:i<ds.length:=by omega
   have hdi:=hd i hil;have htb:=tdiv_b hdi.1 hn;have htt:=tmod_bd n;refine Jl (Ja (hK4 (Je fun _ hK8 _=>(Jb (Jg (Jc rfl) rfl (Jg (JL rfl) rfl (Jg (Js u137 rfl sz22 rfl) rfl (Jg (Jt rfl (.s .z) rfl pl22) rfl (Jg (Jc rfl) rfl (Jg (JU u22 sz2 rfl rfl rfl (by omega) hds.sm) rfl (Jg (JF rfl (hds _ (by omega)) pl2) rfl (Jg (Jd rfl) rfl (Jf (Ja (hK8 (Je fun _ hK9 _=>?_))))))))))))))));refine Jb (Jg (Jc rfl) rfl (Jg (Jc rfl) rfl (Jg (PR.quo rfl rfl (by omega) (nw _ (by omega))) rfl (Jg (PR.eqv (v':=.int .i64 (min (n.tdiv (ds.getD i 0)) 20)) (by rw [min_if]) (PR.min2 rfl rfl)) rfl (Jg (Jd rfl) rfl (Jf (Ja (hK9 (CJ.cutU (σ:=Unit) (fun (_:Unit)=>[(9,.int .i64 (topM (ds.getD i 0) n))]) (fun (_:Unit)=>H) (fun (_:Unit)=>obj g6 (.cells (intsC m).toArray 87 (0,0))::obj gl (.cells [.slice qd ds.length cd,.int .i64 (most:Int),.slice qo acc.length co].toArray 137 (0,0))::own 87 8 qo acc.length co (psC acc)::L) (fun (_:Unit)=>True) ?_ ?_)))))))))
   ·
    intro _ hMt1;refine Je fun _ hK10 _=>(Jb (Jg (Jc rfl) rfl (Jg (Er rfl rfl (by decide) rfl) rfl (Jg (EC rfl rfl) rfl (Jf (Ja (hK10 (Jn rfl (fun h53=>?_) (fun h53=>?_)))))))))
    ·
     refine Jb (Jg (Jc rfl) rfl (Jg (PR.eqv (v':=.int .i64 (min (min (n.tdiv (ds.getD i 0)) 20) 1)) (by rw [min_if]) (PR.min2 rfl rfl)) rfl (Jg (Jd rfl) rfl (Jf (Ja ?_)))));exact hMt1 () trivial 6 rfl rfl ⟨(vi (topM_odd h53)),trivial⟩ rfl rfl
    ·
     refine Jl (Ja ?_);exact hMt1 () trivial 3 rfl rfl ⟨(vi (topM_even h53)),trivial⟩ rfl rfl
   ·
    rintro _ _;refine Je fun _ hK11 _=>(Jb (Jg (Jc rfl) rfl (Jg (Jd rfl) rfl (Jf (Ja (hK11 (Jm (JE (σ:=Int × List Pw × Pw × Option Addr × Nat) (fun ⟨e,A,mm,qo1,co1⟩=>[(10,.int .i64 e)]) (fun ⟨e,A,mm,qo1,co1⟩=>H) (fun ⟨e,A,mm,qo1,co1⟩=>obj g6 (.cells (intsC mm).toArray 87 (0,0))::obj gl (.cells [.slice qd ds.length cd,.int .i64 (most:Int),.slice qo1 (capL (most+1) acc A).length co1].toArray 137 (0,0))::own 87 8 qo1 (capL (most+1) acc A).length co1 (psC (capL (most+1) acc A))::L) (fun ⟨e,A,mm,qo1,co1⟩=>EnI ds i m n e A mm) (fun ⟨e,A,mm,qo1,co1⟩=>(e+1).toNat) (topM (ds.getD i 0) n, [],m,qo,co) (EnI.start hm hil hdi.1 hn) ⟨rfl,trivial⟩ rfl (by dsimp only;rw [capL_nil]) ?_))))))));rintro ⟨e,A,mm,qo1,co1⟩ hI _ hAg0;have hlo:=hI.lo;have hhi:=hI.hi;have h20:=topM_20 (ds.getD i 0) n;have hmml:=hI.len;refine Je fun _ hK12 _=>(Je fun _ hK13 _=>(Jb (Jg (Jc rfl) rfl (Jg (PR.geq rfl rfl) rfl (Jf (Ja (hK13 (Jn rfl (fun h58=>?_) (fun h58=>?_)))))))))
    ·
     have hlb:=left_b hdi h58 hhi hn;refine Jl (Ja (hK12 (Je fun _ hK14 _=>(Jm (Je fun _ hK15 _=>(Jb (Jg (Jc rfl) rfl (Jg (Jc rfl) rfl (Jg (JR u87 sz3 rfl rfl rfl (by omega)) rfl (J.storeI rfl rfl sz3 (by simp [*];omega) At.z (Jf (Ja (hK15 (Jb (Jg (Jc rfl) rfl (Jg (Jc rfl) rfl ?_))))))))))))))));refine Jg (JC rfl rfl (by first | exact nw _ (by omega) | rfl)) rfl (Jg (JA rfl At.z (by simpa [*] using ag87)) rfl (Jg (Jc rfl) rfl (Jg (Jc rfl) rfl (Jg (Jc rfl) rfl (Jg (EA rfl rfl (nw _ (by omega))) rfl (Jg (EH rfl rfl (nw _ (by omega))) rfl (JB fn98 rfl rfl fun w hH=>(hrec hil (mm.set i e) (n - e * ds.getD i 0) (capL (most+1) acc A) qo1 co1 (by simpa using hmml) hlb.2 (capL_len ha) _ _ ((hH.front (.s (.s .z))).front (.s (.s .z)))).mono ?_)))))));rintro _ w ⟨rfl,qo2,co2,hH⟩;refine ⟨_,rfl,fun a hF=>JT hF hH ?_⟩;refine Jf (JD (Ja (hK14 (Jb (Jg (Jc rfl) rfl (Jg (EH rfl rfl (by first | exact nw _ (by omega) | rfl)) rfl (Jg (Jd rfl) rfl (Jf (Ja (Jw (.s .z) (Jw (.s .z) (Jw (.s (.s .z)) ?_))))))))))));exact hAg0 (e - 1,A++enG ds i m n e,mm.set i e,qo2,co2) (hI.next h58) (by show (e - 1+1).toNat<(e+1).toNat;omega) 19 rfl rfl ⟨rfl,trivial⟩ rfl (by dsimp only;rw [← capL_app,← enG_set hI.set])
    ·
     refine JG (Jk (Jk (JN (EJ.ret0 rfl fun w hH=>?_))));replace hH:=hH.sublist (.cons _ (.cons_cons _ (.cons_cons _ (List.Sublist.refl _))));rw [← hI.end (by omega)];exact ⟨rfl,qo1,co1,hH⟩
theorem bd137_0_1 : ∀(q0:Option Addr) (m0 c0:Nat) (n1:Int) w,(Instr.build 137 #[(0,.slice q0 m0 c0),(1,.int .i64 n1)]).run Try.prog w = .ok (.agg [.slice q0 m0 c0,.int .i64 n1,.slice none 0 0].toArray) w:=fun q0 m0 c0 n1 _=>by kernel_rfl
theorem from_n {B:World} {H0 H:HP} {gl most:Nat} {qd:Option Addr} {cd:Nat} {ds:List Int} (hds:Ints H qd ds) (hd : ∀j,j<ds.length→1≤ds.getD j 0∧ds.getD j 0≤12) (h8:ds.length≤8) (hmost:most≤100000) : ∀(k i:Nat) (m:Pw) (n:Int) (acc:List Pw) (qo:Option Addr) (co:Nat),ds.length - i≤k→i≤ds.length→m.length=8→ -1000000≤n∧n≤1000000→acc.length≤most+1→∀(L:List SA) (w:World),Hp B H0 H (obj gl (.cells [.slice qd ds.length cd,.int .i64 (most:Int),.slice qo acc.length co].toArray 137 (0,0))::own 87 8 qo acc.length co (psC acc)::L) w→Calls Try.prog 98 [.pointer (some ⟨gl,0,none⟩),.int .i64 (i:Int),.agg (intsC m).toArray,.int .i64 n].toArray w fun r w'=>r = .returned (.tuple #[])∧∃qo2 co2,Hp B H0 H (obj gl (.cells [.slice qd ds.length cd,.int .i64 (most:Int),.slice qo2 (capL (most+1) acc (enS ds i m n)).length co2].toArray 137 (0,0))::own 87 8 qo2 (capL (most+1) acc (enS ds i m n)).length co2 (psC (capL (most+1) acc (enS ds i m n)))::L) w'
 | 0,i,m,n,acc,qo,co,hk,hi,hm,hn,ha,L,w,hH=>fromX_c hm hds hd hi h8 hn ha hmost (fun h=>by omega) hH
 | k+1,i,m,n,acc,qo,co,hk,hi,hm,hn,ha,L,w,hH=>fromX_c hm hds hd hi h8 hn ha hmost (fun h m' n' acc' qo' co' h1 h2 h3 L w hH=>from_n hds hd h8 hmost k (i+1) m' n' acc' qo' co' (by omega) (by omega) h1 h2 h3 L w hH) hH
theorem mon_cap {ds:List Int} {n:Int} (most:Nat) (m:Pw) (hm:m=zP):capL (most+1) [] (enS ds 0 m n)=(monS ds n).take (most+1):=by
 subst hm;rw [capL_zero]
 rfl
theorem take_dec {α:Type} {l:List α} {most:Nat}:(decide (((l.take (most+1)).length:Int)≤(most:Int)))=decide (l.length≤most):=by
 rw [List.length_take];simp only [decide_eq_decide]
 omega
theorem monS_neg {ds:List Int} {n:Int} (hd : ∀j,j<ds.length→1≤ds.getD j 0∧ds.getD j 0≤12) (h8:ds.length≤8) (hn:n<0):monS ds n=[]:=by
 rcases hh:monS ds n with _ | ⟨p,ps⟩
 ·rfl
 ·have h1:=enumF_mem (ds:=ds) (i:=0) (m:=zP) (p:=p) (n:=n) (by omega) rfl (by show p∈monS ds n;rw [hh];simp)
  have key : ∀(l:List Int) (i:Nat),(∀t,t<l.length→1≤l.getD t 0∧0≤p.getD (i+t) 0)→0≤wsF l p i:=by
   intro l
   induction l with
   | nil=>intro i _;simp [wsF]
   | cons d l ih=>
    intro i h;have h0:=h 0 (by simp);simp only [List.getD_cons_zero,Nat.add_zero] at h0;have:=ih (i+1) (fun t ht=>by have:=h (t+1) (by simpa using ht);simp only [List.getD_cons_succ] at this;rw [show i+1+t=i+(t+1) by omega];exact this);have h3:0≤d * p.getD i 0:=Int.mul_nonneg (by omega) h0.2;simp only [wsF]
    omega
  have h2:=key ds 0 (fun t ht=>⟨(hd t ht).1,(h1.2.2.1 t ht).1⟩)
  omega
theorem monomials_c {B:World} {H0 H:HP} {L:List SA} {w:World} {qds:Option Addr} {cds:Nat} {ds:List Int} {n:Int} {most:Nat} (hds:Ints H qds ds) (hd : ∀j,j<ds.length→1≤ds.getD j 0∧ds.getD j 0≤12) (h8:ds.length≤8) (hn : -1000000≤n∧n≤1000000) (hmost:most≤100000) (hH:Hp B H0 H L w):Calls Try.prog 74 [.slice qds ds.length cds,.int .i64 n,.int .i64 (most:Int)].toArray w fun e w'=>∃q c,e = .returned (.tuple #[.slice q ((monS ds n).take (most+1)).length c,.bool (decide ((monS ds n).length≤most))])∧Hp B H0 H (own 87 8 q ((monS ds n).take (most+1)).length c (psC ((monS ds n).take (most+1)))::L) w':=by
 refine Jv Try.func74 rfl 30 rfl rfl [(0,.slice qds ds.length cds),(1,.int .i64 n),(2,.int .i64 (most:Int))] rfl hH ?_;clear hH;refine Je fun _ hK1 _=>(Jb (Jg (Jd rfl) rfl (Jg (Jd rfl) rfl (Jf (Ja (hK1 (Je fun _ hK2 _=>(Jb (Jg (Jc rfl) rfl (Jg (Jc rfl) rfl (Jg (PR.build2 rfl rfl (fun w=>bd137_0_1 _ _ _ _ w)) rfl (Ee rfl rfl rfl fun g12=>(J.own0 87 8 (Jg (Jd rfl) rfl (Jf ?_)))))))))))))));refine Ja (hK2 (Je fun _ hK3 _=>(Je fun _ hK4 _=>(Jb (Jg (Jc rfl) rfl (Jg (PR.geq rfl rfl) rfl (Jf (Ja (hK4 (Jn rfl (fun h14=>?_) (fun h14=>?_)))))))))))
 ·
  refine Jb (Jg (Jc rfl) rfl (Jg (EB bz87) rfl (Jg (Jc rfl) rfl (JB fn98 rfl rfl fun w hH=>(from_n hds hd h8 hmost ds.length 0 zP n [] none 0 (by omega) (by omega) rfl hn (by simp) _ _ (hH.front (.s .z))).mono ?_))));rintro _ w ⟨rfl,qo2,co2,hH⟩;refine ⟨_,rfl,fun a hF=>JT hF hH ?_⟩;refine Jf (Ja (hK3 (Je fun _ hK5 _=>(En foll0 (by kernel_rfl) (Jz (Jc rfl) rfl (Jz (JL rfl) rfl (Jz (Js u137 rfl sz52 rfl) rfl (Jz (Jt rfl At.z rfl pl52) rfl (Jz (Jc rfl) rfl (Jz (JL rfl) rfl (Jz (Js u137 rfl sz52 rfl) rfl (Jz (Jt rfl At.z rfl pl52) rfl (Jz (Jo u52 rfl rfl) rfl (Jz (Jc rfl) rfl (Jz (PR.leq rfl rfl) rfl ?_)))))))))))))));refine Jz (Jd rfl) rfl (Jz (Jd rfl) rfl (Ed (Ja (hK5 (Jq (Eu rfl (Res.tmp rfl) (Res.tmp rfl) fun w hH=>?_))))));replace hH:=hH.sublist (.cons _ (.cons_cons _ (List.Sublist.refl _)));rw [mon_cap most _ rfl] at hH ⊢;exact ⟨qo2,co2,by rw [take_dec],hH⟩
 ·
  refine Jl (Ja (hK3 (Je fun _ hK6 _=>(En foll0 (by kernel_rfl) (Jz (Jc rfl) rfl (Jz (JL rfl) rfl (Jz (Js u137 rfl sz52 rfl) rfl (Jz (Jt rfl (.s .z) rfl pl52) rfl (Jz (Jc rfl) rfl (Jz (JL rfl) rfl (Jz (Js u137 rfl sz52 rfl) rfl (Jz (Jt rfl (.s .z) rfl pl52) rfl (Jz (Jo u52 rfl rfl) rfl (Jz (Jc rfl) rfl (Jz (PR.leq rfl rfl) rfl ?_)))))))))))))));refine Jz (Jd rfl) rfl (Jz (Jd rfl) rfl (Ed (Ja (hK6 (Jq (Eu rfl (Res.tmp rfl) (Res.tmp rfl) fun w hH=>?_))))));replace hH:=hH.sublist (.cons_cons _ (.cons _ (List.Sublist.refl _)));rw [monS_neg hd h8 (by omega)];exact ⟨none,0,rfl,hH⟩
theorem u93:Try.prog.underlying 93=some (TypeDesc.struct #[{name:="a",type:=50,offset:=0,embedded:=false,tag:="",pkgPath:="loop.example/g01219/impl",byteOffset:=0},{name:="levels",type:=91,offset:=1,embedded:=false,tag:="",pkgPath:="loop.example/g01219/impl",byteOffset:=8}]):=by kernel_rfl
theorem sz50:Size Try.prog 50 1:=by unfold Size;kernel_rfl
theorem fn73:Fn Try.prog 73:=⟨_,Try.func73,by kernel_rfl,rfl⟩
theorem fn74:Fn Try.prog 74:=⟨_,Try.func74,by kernel_rfl,rfl⟩
def fitB (ds:List Int) (n:Int):Bool:=decide ((monS ds n).length≤120)
def arB (ds:List Int) (n:Int):Bool:=fitB ds (n - 1) && (fitB ds n && fitB ds (n+1))
def arC (ds:List Int) (ns:List Int):Int:=if ns.all (arB ds) then 0 else 3
theorem arC_no {ds ns:List Int} {i:Nat} (hi:i<ns.length) (h:arB ds (ns.getD i 0)=false):arC ds ns=3:=by
 unfold arC;rw [if_neg];intro hh
 have e:ns.getD i 0=ns[i]:=by simp [List.getD_eq_getElem?_getD,List.getElem?_eq_getElem hi]
 have:=List.all_eq_true.1 hh _ (List.getElem_mem hi);rw [e] at h;rw [h] at this;exact absurd this (by decide)
theorem arC_yes {ds ns:List Int} (h : ∀i,i<ns.length→arB ds (ns.getD i 0)=true):arC ds ns=0:=by
 unfold arC;rw [if_pos];refine List.all_eq_true.2 fun x hx=>?_;obtain ⟨i,hi,rfl⟩:=List.getElem_of_mem hx;have:=h i hi
 rwa [show ns.getD i 0=ns[i] by simp [List.getD_eq_getElem?_getD,List.getElem?_eq_getElem hi]] at this
theorem arB_1 {ds:List Int} {n:Int} (h:(!fitB ds (n - 1))=true):arB ds n=false:=by unfold arB;cases hh:fitB ds (n - 1) <;> simp_all
theorem arB_2 {ds:List Int} {n:Int} (h:(!fitB ds n)=true):arB ds n=false:=by unfold arB;cases hh:fitB ds n <;> simp_all
theorem arB_3 {ds:List Int} {n:Int} (h:(!fitB ds (n+1))=true):arB ds n=false:=by unfold arB;cases hh:fitB ds (n+1) <;> simp_all
theorem arB_y {ds:List Int} {n:Int} (h1:(!fitB ds (n - 1))=false) (h2:(!fitB ds n)=false) (h3:(!fitB ds (n+1))=false):arB ds n=true:=by
 unfold arB
 cases hh:fitB ds (n - 1) <;> cases hk:fitB ds n <;> cases hl:fitB ds (n+1) <;> simp_all
theorem not_f {b:Bool} (h:(!b)=true):b=false:=by cases b <;> simp_all
theorem not_t {b:Bool} (h:(!b)=false):b=true:=by cases b <;> simp_all
theorem fits_c {B:World} {H0 H:HP} {L:List SA} {w:World} {bc lc:Nat} {bca:Nat} {qcad qcaf:Option Addr} {ccad ccaf:Nat} {cad:List Int} {caf:List (List Term)} {n:Int} (pc0:CellAt H bc 0 (.pointer (some ⟨bca,0,none⟩))) (pc1:CellAt H bc 1 (.map (some lc))) (pcad:CellAt H bca 0 (.slice qcad cad.length ccad)) (pcaf:CellAt H bca 1 (.slice qcaf caf.length ccaf)) (hcad:Ints H qcad cad) (hcaf:Forms H qcaf caf) (hd : ∀j,j<cad.length→1≤cad.getD j 0∧cad.getD j 0≤12) (h8:cad.length≤8) (hn : -1000000≤n∧n≤1000000) (hH:Hp B H0 H L w):Calls Try.prog 73 [.pointer (some ⟨bc,0,none⟩),.int .i64 n].toArray w fun e w'=>e = .returned (.bool (fitB cad n))∧Hp B H0 H L w':=by
 refine Jv Try.func73 rfl 20 rfl rfl [(0,.pointer (some ⟨bc,0,none⟩)),(1,.int .i64 n)] rfl hH ?_;clear hH;refine Je fun _ hK1 _=>(Jb (Jg (Jd rfl) rfl (Jf (Ja (hK1 (Je fun _ hK2 _=>(Jb (Jg (Jc rfl) rfl (Jg (JL rfl) rfl (Jg (Js u93 rfl sz50 rfl) rfl (Jg (JF (q:=some ⟨bc,0,none⟩) (k:=0) rfl pc0 pl50) rfl (Jg (JL rfl) rfl (Jg (Js u32 rfl sz22 rfl) rfl (Jg (JF (q:=some ⟨bca,0,none⟩) (k:=0) rfl pcad pl22) rfl (Jg (Jc rfl) rfl ?_)))))))))))))));refine JB fn74 rfl rfl fun w hH=>(monomials_c (most:=120) hcad hd h8 (by omega) (by omega) hH).mono ?_;rintro _ w ⟨qo16,co16,rfl,hH⟩;refine ⟨_,rfl,fun a hF=>JT hF hH ?_⟩;refine Jg (Jc rfl) rfl (Jg (JK rfl rfl) rfl (Jg (JK rfl rfl) rfl (Jg (Jd rfl) rfl (Jg (Jd rfl) rfl (Jf (Ja (hK2 (Je fun _ hK3 _=>(Jb (Jg (Jc rfl) rfl (Jg (Jd rfl) rfl (Jf (Ja (hK3 (Jq (Jp rfl (Res.tmp rfl) fun w hH=>?_))))))))))))))));replace hH:=hH.tail;exact ⟨rfl,hH⟩
theorem around_c {B:World} {H0 H:HP} {L:List SA} {w:World} {bc lc:Nat} {bca:Nat} {qcad qcaf:Option Addr} {ccad ccaf:Nat} {cad:List Int} {caf:List (List Term)} {qns:Option Addr} {cns:Nat} {ns:List Int} (pc0:CellAt H bc 0 (.pointer (some ⟨bca,0,none⟩))) (pc1:CellAt H bc 1 (.map (some lc))) (pcad:CellAt H bca 0 (.slice qcad cad.length ccad)) (pcaf:CellAt H bca 1 (.slice qcaf caf.length ccaf)) (hcad:Ints H qcad cad) (hcaf:Forms H qcaf caf) (hns:Ints H qns ns) (hd : ∀j,j<cad.length→1≤cad.getD j 0∧cad.getD j 0≤12) (h8:cad.length≤8) (hn : ∀i,i<ns.length→ -99999≤ns.getD i 0∧ns.getD i 0≤99999) (hnl:ns.length≤1000) (hH:Hp B H0 H L w):Calls Try.prog 48 [.pointer (some ⟨bc,0,none⟩),.slice qns ns.length cns].toArray w fun e w'=>e = .returned (.int .i64 (arC cad ns))∧Hp B H0 H L w':=by
 refine Jv Try.func48 rfl 32 rfl rfl [(0,.pointer (some ⟨bc,0,none⟩)),(1,.slice qns ns.length cns)] rfl hH ?_;clear hH;refine Je fun _ hK1 _=>(Jb (Jg (Jd rfl) rfl (Jf (Ja (hK1 (Je fun _ hK2 _=>(Je fun _ hK3 _=>(Jb (Jg (Jc rfl) rfl (Jg (Jo u22 rfl rfl) rfl (Jg (Jc rfl) rfl (Jf (Ja (hK3 (Jm (JE (σ:=Nat) (fun (i:Nat)=>[(9,.int .i64 (i:Int))]) (fun (i:Nat)=>H) (fun (i:Nat)=>L) (fun (i:Nat)=>i≤ns.length∧∀j,j<i→arB cad (ns.getD j 0)=true) (fun (i:Nat)=>ns.length - i) 0 ⟨by omega,fun j hj=>by omega⟩ ⟨rfl,trivial⟩ rfl rfl ?_))))))))))))))));rintro i ⟨hi,hI⟩ _ hAg0;refine Je fun _ hK4 _=>(Jb (Jg (JP rfl rfl) rfl (Jf (Ja (hK4 (Je fun _ hK5 _=>(Jn rfl (fun h10=>?_) (fun h10=>?_))))))))
 ·
  have hnn:=hn i (by omega);refine Jl (Ja (hK5 (Je fun _ hK6 _=>(Jm (Je fun _ hK7 _=>(Jb (Jg (JU u22 sz2 rfl rfl rfl (by omega) hns.sm) rfl (Jg (JF rfl (hns _ (by omega)) pl2) rfl (Jg (Jd rfl) rfl (Jf (Ja (hK7 (Je fun _ hK8 _=>(Jb (Jg (Jc rfl) rfl (Jg (Jc rfl) rfl ?_))))))))))))))));refine Jg (EH rfl rfl (nw _ (by omega))) rfl (JB fn73 rfl rfl fun w hH=>(fits_c pc0 pc1 pcad pcaf hcad hcaf hd h8 (by omega) hH).mono ?_);rintro _ w ⟨rfl,hH⟩;refine ⟨_,rfl,fun a hF=>JT hF hH ?_⟩;refine Jg (El rfl) rfl (Jg (Jc rfl) rfl (Eg (jd:=18) rfl (fun hg18=>?_) (fun hg18=>?_)))
  ·
   try have hg18p:=of_decide_eq_true hg18
   refine JQ rfl rfl rfl hg18 (JQ rfl rfl rfl hg18 (JQ rfl rfl rfl hg18 (JQ rfl rfl rfl hg18 (Jg (JZ rfl hg18 rfl) rfl (Jg (Jc rfl) rfl (JQ rfl rfl rfl rfl (JQ rfl rfl rfl rfl (JQ rfl rfl rfl rfl (JQ rfl rfl rfl rfl (JQ rfl rfl rfl rfl (Jg (JZ rfl rfl rfl) rfl (Jf (Ja (hK8 (Ev rfl ?_)))))))))))))));refine Je fun _ hK9 _=>(Jb (Jg (Jd rfl) rfl (Jf (Ja (hK9 (Jq (JM (Ji (Ji (JM (Ji (Jp rfl (Res.tmp rfl) fun w hH=>?_))))))))))));exact ⟨by rw [arC_no (i:=i) (by omega) (arB_1 hg18)],hH⟩
  ·
   try have hg18p:=of_decide_eq_false hg18
   refine JX (Jc rfl) rfl rfl rfl hg18 (JX (Jc rfl) rfl rfl rfl hg18 (EI fn73 rfl rfl hg18 rfl rfl fun w hH=>(fits_c pc0 pc1 pcad pcaf hcad hcaf hd h8 (by omega) hH).mono ?_));rintro _ w ⟨rfl,hH⟩;refine ⟨_,rfl,fun a hF=>JT hF hH ?_⟩;refine JX (El rfl) rfl rfl rfl hg18 (Jg (JY rfl hg18 rfl) rfl (Jg (Jc rfl) rfl (Eg (jd:=24) rfl (fun hg24=>?_) (fun hg24=>?_))))
   ·
    try have hg24p:=of_decide_eq_true hg24
    refine JQ rfl rfl rfl hg24 (JQ rfl rfl rfl hg24 (JQ rfl rfl rfl hg24 (JQ rfl rfl rfl hg24 (JQ rfl rfl rfl hg24 (Jg (JZ rfl hg24 rfl) rfl (Jf (Ja (hK8 (Ev rfl (Je fun _ hK10 _=>(Jb (Jg (Jd rfl) rfl (Jf (Ja (hK10 (Jq ?_))))))))))))))));refine JM (Ji (Ji (JM (Ji (Jp rfl (Res.tmp rfl) fun w hH=>?_)))));exact ⟨by rw [arC_no (i:=i) (by omega) (arB_2 hg24)],hH⟩
   ·
    try have hg24p:=of_decide_eq_false hg24
    refine JX (Jc rfl) rfl rfl rfl hg24 (JX (Jc rfl) rfl rfl rfl hg24 (JX (JC rfl rfl (nw _ (by omega))) rfl rfl rfl hg24 (EI fn73 rfl rfl hg24 rfl rfl fun w hH=>(fits_c pc0 pc1 pcad pcaf hcad hcaf hd h8 (by omega) hH).mono ?_)));rintro _ w ⟨rfl,hH⟩;refine ⟨_,rfl,fun a hF=>JT hF hH ?_⟩;refine JX (El rfl) rfl rfl rfl hg24 (Jg (JY rfl hg24 rfl) rfl (Jf (Ja (hK8 (Eh rfl (fun h30=>?_) (fun h30=>?_))))))
    ·
     refine Je fun _ hK11 _=>(Jb (Jg (Jd rfl) rfl (Jf (Ja (hK11 (Jq (JM (Ji (Ji (JM (Ji (Jp rfl (Res.tmp rfl) fun w hH=>?_))))))))))));exact ⟨by rw [arC_no (i:=i) (by omega) (arB_3 h30)],hH⟩
    ·
     refine Jl (JD (Ja (hK6 (Jb (Jg (JC rfl rfl (by first | exact nw _ (by omega) | rfl)) rfl (Jg (Jc rfl) rfl (Jf (Ja ?_))))))));exact hAg0 (i+1) ⟨by omega,upto hI (arB_y hg18 hg24 h30)⟩ (by show ns.length - (i+1)<ns.length - i;omega) 25 rfl rfl ⟨rfl,trivial⟩ rfl rfl
 ·
  refine JG (Jk (Jk (JN (Ja (hK2 (Je fun _ hK12 _=>(Jb (Jg (Jd rfl) rfl (Jf (Ja (hK12 (Jq (Jp rfl (Res.tmp rfl) fun w hH=>?_)))))))))))));exact ⟨by rw [arC_yes (fun j hj=>hI j (by omega))],hH⟩
structure Sl where
 q:Option Addr
 k:Nat
 c:Nat
structure Lv where
 b:Nat
 p:Nat
 l:Sl
 m:Sl
 z:Sl
 d:Sl
 s:Sl
abbrev Lv.cells (x:Lv):List Value:=[.slice x.l.q x.l.k x.l.c,.map (some x.p),.slice x.m.q x.m.k x.m.c,.slice x.z.q x.z.k x.z.c,.slice x.d.q x.d.k x.d.c,.slice x.s.q x.s.k x.s.c]
abbrev lvB (x:Lv):SA:=obj x.b (.cells x.cells.toArray 55 (0,0))
def lvO:List (Int × Lv)→SA
 | []=>emp
 | x::xs=>star (lvB x.2) (lvO xs)
abbrev ekI (n:Int):Value:=.int .i64 n
abbrev evB (b:Nat):Value:=.pointer (some ⟨b,0,none⟩)
def okI (n:Int):Prop:=-9223372036854775808≤n∧n≤9223372036854775807
def lvK (ls:List (Int × Lv)):List (Int × Nat):=ls.map fun x=>(x.1,x.2.b)
abbrev lvM (lb:Nat) (xs:List (Int × Nat)):SA:=omap ekI evB okI lb xs
def cpx (lb:Nat) (ls:List (Int × Lv)):SA:=star (lvM lb (lvK ls)) (lvO ls)
section
variable {P : Program} {ops : Array Oper} {Q : Exit → Act → World → Prop} {n : Nat} {B : World} {H0 H : HP} {rest : List Oper} {us : List (Nat × Value)} {L L' : List SA} {t : TypeId} {p : String} {af : Array Edge} {d : Nat} {x y : Operand} {w : World}
theorem Hp.lvPerm {ls ls':List (Int × Lv)} (hp:ls.Perm ls') : ∀{L:List SA},Hp B H0 H (lvO ls::L) w→Hp B H0 H (lvO ls'::L) w:=by
 induction hp with
 | nil=>exact fun h=>h
 | cons x _ ih=>exact fun h=>((ih (h.unstar.front (.s .z))).front (.s .z)).star
 | swap x y l=>exact fun h=>
  have h1:=(h.unstar.front (.s .z)).unstar
  (((h1.front (.s .z)).front (.s (.s .z))).star.front (.s .z)).star
 | trans _ _ ih1 ih2=>exact fun h=>ih2 (ih1 h)
theorem Hp.lvmPerm {lb:Nat} {xs ys:List (Int × Nat)} (hp:xs.Perm ys) (h:Hp B H0 H (lvM lb xs::L) w):Hp B H0 H (lvM lb ys::L) w:=by
 obtain ⟨es,clock,h1,h2⟩:=(h.objs (lvM lb xs) (by simp)).1;exact h.reAt .z ⟨es,clock,h1,h2.perm hp⟩ fun b hb=>hb
theorem Hp.lvOut {lb:Nat} {ls rest:List (Int × Lv)} {x:Int × Lv} (hp:ls.Perm (x::rest)) (h:Hp B H0 H (cpx lb ls::L) w):Hp B H0 H (lvB x.2::lvO rest::lvM lb ((x.1,x.2.b)::lvK rest)::L) w:=by
 have h1:=(h.unstar.front (.s .z)).lvPerm hp;have h2:=h1.unstar;have h3:=(h2.front (.s (.s .z))).lvmPerm (hp.map fun x=>(x.1,x.2.b));exact (h3.front (.s (.s .z))).front (.s (.s .z))
theorem Hp.lvIn {lb:Nat} {rest:List (Int × Lv)} {x:Int × Lv} (h:Hp B H0 H (lvB x.2::lvO rest::lvM lb ((x.1,x.2.b)::lvK rest)::L) w):Hp B H0 H (cpx lb (x::rest)::L) w:=
 (h.star.front (.s .z)).star
end
theorem lvK_mem {ls:List (Int × Lv)} {n:Int} {b:Nat} (h:look (lvK ls) n=some b) : ∃x,(n,x)∈ls∧x.b=b:=by
 unfold look at h;obtain ⟨y,h1,h2⟩:=Option.map_eq_some_iff.1 h;have h3:=List.mem_of_find?_eq_some h1;have h4:=List.find?_some h1;obtain ⟨z,hz,rfl⟩:=List.mem_map.1 h3;obtain ⟨k,x⟩:=z
 have h5:k=n:=by simpa using h4
 subst h5;exact ⟨x,hz,h2⟩
theorem lvK_not {ls:List (Int × Lv)} {n:Int} (h:look (lvK ls) n=none) : ∀x∈ls,x.1≠n:=fun x hx e=>by
 unfold look at h
 have h1:=Option.map_eq_none_iff.1 h
 have:=List.find?_eq_none.1 h1 (x.1,x.2.b) (List.mem_map.2 ⟨x,hx,rfl⟩)
 simp [e] at this
theorem lvK_put {ls:List (Int × Lv)} {n:Int} {b:Nat} (h:look (lvK ls) n=none):putM (lvK ls) n b=(n,b)::lvK ls:=by
 unfold putM
 congr 1
 refine List.filter_eq_self.2 fun y hy=>?_;obtain ⟨x,hx,rfl⟩:=List.mem_map.1 hy
 simpa using lvK_not h x hx
def plM (ps:List Pw):Sm:=ps.zipIdx.map fun x=>(x.1,(x.2:Int))
theorem plM_snoc (ps:List Pw) (p:Pw):plM (ps++[p])=plM ps++[(p,(ps.length:Int))]:=by
 unfold plM;rw [List.zipIdx_append,List.map_append]
 simp
theorem plM_keys (ps:List Pw):(plM ps).map (·.1)=ps:=by
 unfold plM;rw [List.map_map]
 conv=>rhs;rw [← List.zipIdx_map_fst 0 ps]
 rfl
theorem plM_put {ps:List Pw} {p:Pw} {v:Int} (hv:v=(ps.length:Int)) (h:p ∉ ps):(putM (plM ps) p v).Perm (plM (ps++[p])):=by
 subst hv;rw [plM_snoc];unfold putM;rw [List.filter_eq_self.2 fun y hy=>?_]
 ·exact List.perm_append_comm (l₁:=[_])
 ·have:y.1∈ps:=by rw [← plM_keys ps];exact List.mem_map.2 ⟨y,hy,rfl⟩
  simp only [decide_eq_true_eq];exact fun e=>h (e ▸ this)
theorem plM_at {ps:List Pw} (hn:ps.Nodup) {i:Nat} (hi:i<ps.length):look (plM ps) (rw_ ps i)=some (i:Int):=by
 refine look_some (by rw [plM_keys];exact hn) ?_;unfold plM;refine List.mem_map.2 ⟨(ps[i],i),?_,?_⟩
 ·exact List.mem_zipIdx_iff_getElem?.2 (by simp)
 ·have:rw_ ps i=ps[i]:=by simp [rw_,List.getD_eq_getElem?_getD,List.getElem?_eq_getElem hi]
  rw [this]
def monL (ds:List Int) (n:Int):List Pw:=(monS ds n).take 121
theorem monL_fit {ds:List Int} {n:Int} (h:fitB ds n=true):monL ds n=monS ds n:=List.take_of_length_le (by have:=of_decide_eq_true h;omega)
theorem monL_8 {ds:List Int} {n:Int} (h8:ds.length≤8) : ∀p∈monL ds n,p.length=8:=fun p hp=>(enumF_mem (by omega) rfl (List.mem_of_mem_take hp)).1
theorem mon_8 {ds:List Int} {n:Int} {m:Nat} (h8:ds.length≤8) : ∀p∈(monS ds n).take m,p.length=8:=fun p hp=>(enumF_mem (by omega) rfl (List.mem_of_mem_take hp)).1
theorem mon_small {ds:List Int} {n:Int} (h8:ds.length≤8) {p:Pw} (hp:p∈monS ds n):pwOk p:=by
 have h:=enumF_mem (by omega) rfl hp;refine ⟨h.1,fun j=>?_⟩
 by_cases hj:j<ds.length
 ·have:=h.2.2.1 j hj;rw [Nat.zero_add] at this
  omega
 ·have:=h.2.1 j (.inr (by omega));rw [this,show zP=List.replicate 8 0 from rfl,rep_get];omega
theorem mon_nodup (ds:List Int) (n:Int) (h8:ds.length≤8):(monS ds n).Nodup:=by
 refine (enumF_srt (by omega) rfl).imp fun h e=>?_;subst e;rw [before_irr] at h
 cases h
theorem mon_fresh {ds:List Int} {n:Int} {m k:Nat} (h8:ds.length≤8) (hk:k<((monS ds n).take m).length):rw_ ((monS ds n).take m) k ∉ ((monS ds n).take m).take k:=fun h=>by
 have hn:=(List.take_sublist m (monS ds n)).nodup (mon_nodup ds n h8)
 have hk':=hk
 have e:rw_ ((monS ds n).take m) k=((monS ds n).take m)[k]:=by simp [rw_,List.getD_eq_getElem?_getD,List.getElem?_eq_getElem hk']
 rw [e] at h
 obtain ⟨j,hj,hje⟩:=List.getElem_of_mem h
 rw [List.getElem_take] at hje
 rw [List.length_take] at hj
 have:=(List.getElem_inj hn).1 hje
 omega
theorem kI:KeyT Try.prog 2 ekI okI:=KeyT.of (Go.Maps.int_keyed u2) (fun x y h=>by injection h) fun x hx=>⟨_,Go.Maps.keyOf_int_mk u2 (by
 obtain ⟨h1,h2⟩:=hx
 simp [Lit.wf,IntKind.min,IntKind.max,IntKind.signed,IntKind.bits]
 omega)⟩
def matS (ds:List Int) (fs:List (List Term)) (n:Int):List (List Int):=(monL ds n).map fun p=>(monL ds (n+1)).map (cf (dS ds fs [(p,1)]))
def clS (ds:List Int) (fs:List (List Term)) (n:Int):List (List Int):=kerS (matS ds fs n) (monL ds (n+1)).length
def bdS (ds:List Int) (fs:List (List Term)) (n:Int):List (List Int):=if 0<n then redS (matS ds fs (n - 1)) else []
def csS (ds:List Int) (fs:List (List Term)) (n:Int):List (List Int):=redS ((clS ds fs n).map fun r=>byS r (bdS ds fs n))
def fit2 (ds:List Int) (n:Int):Prop:=fitB ds n=true∧fitB ds (n+1)=true
def fit3 (ds:List Int) (n:Int):Prop:=fit2 ds n∧(0<n→fitB ds (n - 1)=true)
structure Lv1 (H:HP) (ds:List Int) (n:Int) (x:Lv):Prop where
 len:x.l.k=(monL ds n).length
 pw:Pows H x.l.q (monL ds n)
 pl:SumH H (.map (some x.p)) (plM (monL ds n))
 z:n≤0→x.d.k=0
def SlIs (H:HP) (s:Sl) (rs:List (List Int)):Prop:=s.k=rs.length∧RowsR H s.q rs
theorem SlIs.le {H H':HP} {s:Sl} {rs:List (List Int)} (h:SlIs H s rs) (hle:Le H H'):SlIs H' s rs:=⟨h.1,h.2.le hle⟩
def Lv2 (H:HP) (ds:List Int) (fs:List (List Term)) (n:Int) (x:Lv):Prop:=SlIs H x.m (matS ds fs n)
def Lv3 (H:HP) (ds:List Int) (fs:List (List Term)) (n:Int) (x:Lv):Prop:=SlIs H x.z (clS ds fs n)∧SlIs H x.d (bdS ds fs n)∧SlIs H x.s (csS ds fs n)
structure LvOk (H:HP) (ds:List Int) (fs:List (List Term)) (X:Int→Prop) (n:Int) (x:Lv):Prop where
 one:Lv1 H ds n x
 two : ¬X n→x.m.q.isSome=true→fit2 ds n→Lv2 H ds fs n x
 three : ¬X n→x.z.q.isSome=true→fit3 ds n→Lv3 H ds fs n x
theorem Lv1.le {H H':HP} {ds:List Int} {n:Int} {x:Lv} (h:Lv1 H ds n x) (hle:Le H H'):Lv1 H' ds n x:=⟨h.len,h.pw.le hle,h.pl.le hle,h.z⟩
theorem Lv2.le {H H':HP} {ds:List Int} {fs:List (List Term)} {n:Int} {x:Lv} (h:Lv2 H ds fs n x) (hle:Le H H'):Lv2 H' ds fs n x:=SlIs.le h hle
theorem Lv3.le {H H':HP} {ds:List Int} {fs:List (List Term)} {n:Int} {x:Lv} (h:Lv3 H ds fs n x) (hle:Le H H'):Lv3 H' ds fs n x:=⟨h.1.le hle,h.2.1.le hle,h.2.2.le hle⟩
theorem LvOk.le {H H':HP} {ds:List Int} {fs:List (List Term)} {X:Int→Prop} {n:Int} {x:Lv} (h:LvOk H ds fs X n x) (hle:Le H H'):LvOk H' ds fs X n x:=⟨h.one.le hle,fun h0 h1 h2=>(h.two h0 h1 h2).le hle,fun h0 h1 h2=>(h.three h0 h1 h2).le hle⟩
structure CpxOk (H:HP) (ds:List Int) (fs:List (List Term)) (X:Int→Prop) (ls:List (Int × Lv)):Prop where
 nd:(ls.map (·.1)).Nodup
 ok : ∀x∈ls,LvOk H ds fs X x.1 x.2
theorem CpxOk.le {H H':HP} {ds:List Int} {fs:List (List Term)} {X:Int→Prop} {ls:List (Int × Lv)} (h:CpxOk H ds fs X ls) (hle:Le H H'):CpxOk H' ds fs X ls:=⟨h.nd,fun x hx=>(h.ok x hx).le hle⟩
theorem CpxOk.nil {H:HP} {ds:List Int} {fs:List (List Term)} {X:Int→Prop}:CpxOk H ds fs X []:=⟨by simp,fun x hx=>by simp at hx⟩
theorem CpxOk.cons {H:HP} {ds:List Int} {fs:List (List Term)} {X:Int→Prop} {ls:List (Int × Lv)} {n:Int} {x:Lv} (h:CpxOk H ds fs X ls) (hn : ∀y∈ls,y.1≠n) (hx:LvOk H ds fs X n x):CpxOk H ds fs X ((n,x)::ls):=
 ⟨by rw [List.map_cons,List.nodup_cons];exact ⟨fun hm=>by obtain ⟨y,hy,e⟩:=List.mem_map.1 hm;exact hn y hy e,h.nd⟩,fun y hy=>by
  rcases List.mem_cons.1 hy with rfl | hy
  ·exact hx
  ·exact h.ok y hy⟩
def Nxt (X:Int→Prop) (ls:List (Int × Lv)):Prop:=∀x∈ls,¬X x.1→x.2.m.q.isSome=true→x.1+1∈ls.map (·.1)
theorem Nxt.nil (X:Int→Prop):Nxt X []:=fun x hx=>by simp at hx
theorem Nxt.perm {X:Int→Prop} {ls ls':List (Int × Lv)} (h:Nxt X ls) (hp:ls.Perm ls'):Nxt X ls':=fun x hx hn hm=>(hp.map _).subset (h x (hp.symm.subset hx) hn hm)
theorem Nxt.fresh {X:Int→Prop} {ls:List (Int × Lv)} {n:Int} {x:Lv} (h:Nxt X ls) (hx:x.m.q=none):Nxt X ((n,x)::ls):=fun y hy hn hm=>by
 rcases List.mem_cons.1 hy with rfl | hy
 ·rw [hx] at hm
  cases hm
 ·exact List.mem_cons_of_mem _ (h y hy hn hm)
theorem Nxt.swap {X Y:Int→Prop} {ls:List (Int × Lv)} {n:Int} {x x':Lv} (h:Nxt X ((n,x)::ls)) (hne : ∀z∈ls,z.1≠n) (hXY : ∀m,¬Y m→m≠n→¬X m) (hx : ¬Y n→x'.m.q.isSome=true→n+1∈n::ls.map (·.1)):Nxt Y ((n,x')::ls):=fun y hy hn hm=>by
 rcases List.mem_cons.1 hy with rfl | hy
 ·exact hx hn hm
 ·exact h y (List.mem_cons_of_mem _ hy) (hXY _ hn (hne y hy)) hm
theorem CpxOk.out {H:HP} {ds:List Int} {fs:List (List Term)} {X:Int→Prop} {ls:List (Int × Lv)} {n:Int} {x:Lv} (h:CpxOk H ds fs X ls) (hx:(n,x)∈ls) : ∃rest,ls.Perm ((n,x)::rest)∧CpxOk H ds fs X rest∧(∀y∈rest,y.1≠n)∧LvOk H ds fs X n x:=by
 obtain ⟨l1,l2,rfl⟩:=List.append_of_mem hx;have hp:(l1++(n,x)::l2).Perm ((n,x)::(l1++l2)):=List.perm_middle;have hnd:=(hp.map (·.1)).nodup_iff.1 h.nd;rw [List.map_cons,List.nodup_cons] at hnd;exact ⟨l1++l2,hp,⟨hnd.2,fun y hy=>h.ok y (hp.symm.subset (by simp only [List.mem_cons];exact .inr hy))⟩,fun y hy e=>hnd.1 (List.mem_map.2 ⟨y,hy,e⟩),h.ok _ hx⟩
theorem monL_len (ds:List Int) (n:Int):(monL ds n).length≤121:=by unfold monL;rw [List.length_take];omega
theorem monL_fresh {ds:List Int} {n:Int} {k:Nat} (h8:ds.length≤8) (hk:k<(monL ds n).length):rw_ (monL ds n) k ∉ (monL ds n).take k:=mon_fresh h8 hk
theorem monL_small {ds:List Int} {n:Int} {k:Nat} (h8:ds.length≤8) (hk:k<(monL ds n).length):pwOk (rw_ (monL ds n) k):=mon_small h8 (List.mem_of_mem_take (rw_mem hk))
theorem mon121_c {B:World} {H0 H:HP} {L:List SA} {w:World} {qds:Option Addr} {cds:Nat} {ds:List Int} {n:Int} (hds:Ints H qds ds) (hd : ∀j,j<ds.length→1≤ds.getD j 0∧ds.getD j 0≤12) (h8:ds.length≤8) (hn : -1000000≤n∧n≤1000000) (hH:Hp B H0 H L w) :
 Calls Try.prog 74 [.slice qds ds.length cds,.int .i64 n,.int .i64 120].toArray w fun e w'=>∃q c,e = .returned (.tuple #[.slice q (monL ds n).length c,.bool (fitB ds n)])∧Hp B H0 H (own 87 8 q (monL ds n).length c (psC (monL ds n))::L) w':=monomials_c (most:=120) hds hd h8 hn (by omega) hH
theorem u53:Try.prog.underlying 53=some (TypeDesc.map 87 3):=by kernel_rfl
theorem u55:Try.prog.underlying 55=some (TypeDesc.struct #[{name:="list",type:=52,offset:=0,embedded:=false,tag:="",pkgPath:="loop.example/g01219/impl",byteOffset:=0},{name:="place",type:=53,offset:=1,embedded:=false,tag:="",pkgPath:="loop.example/g01219/impl",byteOffset:=24},{name:="matrix",type:=27,offset:=2,embedded:=false,tag:="",pkgPath:="loop.example/g01219/impl",byteOffset:=32},{name:="closed",type:=27,offset:=3,embedded:=false,tag:="",pkgPath:="loop.example/g01219/impl",byteOffset:=56},{name:="boundaries",type:=27,offset:=4,embedded:=false,tag:="",pkgPath:="loop.example/g01219/impl",byteOffset:=80},{name:="classes",type:=27,offset:=5,embedded:=false,tag:="",pkgPath:="loop.example/g01219/impl",byteOffset:=104}]):=by kernel_rfl
theorem u91:Try.prog.underlying 91=some (TypeDesc.map 2 56):=by kernel_rfl
theorem sz53:Size Try.prog 53 1:=by unfold Size;kernel_rfl
theorem sz91:Size Try.prog 91 1:=by unfold Size;kernel_rfl
theorem zv56:ZeroV Try.prog 56 (.pointer none):=fun _=>by kernel_rfl
theorem pl53:Plain Try.prog 53:=⟨_,u53,rfl⟩
theorem pl91:Plain Try.prog 91:=⟨_,u91,rfl⟩
theorem bd55_1 : ∀(b1:Nat) w,(Instr.build 55 #[(1,.map (some b1))]).run Try.prog w = .ok (.agg [.slice none 0 0,.map (some b1),.slice none 0 0,.slice none 0 0,.slice none 0 0,.slice none 0 0].toArray) w:=fun b1 _=>by kernel_rfl
theorem bareX_c {B:World} {H0 H:HP} {L:List SA} {w:World} {bc lc:Nat} {bca:Nat} {qcad qcaf:Option Addr} {ccad ccaf:Nat} {cad:List Int} {caf:List (List Term)} {n:Int} {ls:List (Int × Lv)} {X:Int→Prop} (pc0:CellAt H bc 0 (.pointer (some ⟨bca,0,none⟩))) (pc1:CellAt H bc 1 (.map (some lc))) (pcad:CellAt H bca 0 (.slice qcad cad.length ccad)) (pcaf:CellAt H bca 1 (.slice qcaf caf.length ccaf)) (hcad:Ints H qcad cad) (hcaf:Forms H qcaf caf) (hd : ∀j,j<cad.length→1≤cad.getD j 0∧cad.getD j 0≤12) (h8:cad.length≤8) (hn : -1000000≤n∧n≤1000000) (hC:CpxOk H cad caf X ls) (hH:Hp B H0 H (lvM lc (lvK ls)::lvO ls::L) w):Calls Try.prog 50 [.pointer (some ⟨bc,0,none⟩),.int .i64 n].toArray w fun e w'=>∃H' ls' x,Le H H' ∧CpxOk H' cad caf X ls' ∧(n,x)∈ls' ∧(∀y∈ls,y∈ls')∧(∀Y,Nxt Y ls→Nxt Y ls')∧e = .returned (.pointer (some ⟨x.b,0,none⟩))∧Hp B H0 H' (cpx lc ls'::L) w':=by
 refine Jv Try.func50 rfl 63 rfl rfl [(0,.pointer (some ⟨bc,0,none⟩)),(1,.int .i64 n)] rfl hH ?_;clear hH;refine Je fun _ hK1 _=>(Jb (Jg (Jd rfl) rfl (Jf (Ja (hK1 (Je fun _ hK2 _=>(Je fun _ hK3 _=>(Jb (Jg (Jc rfl) rfl (Jg (JL rfl) rfl (Jg (Js u93 rfl sz91 rfl) rfl (Jg (JF (q:=some ⟨bc,0,none⟩) (k:=1) rfl pc1 pl91) rfl (Jg (Jc rfl) rfl (Jg (PR.lookO2 u91 kI zv56 rfl At.z rfl ⟨by omega,by omega⟩) rfl (Jg (Jc rfl) rfl ?_)))))))))))))));refine Jg (JK rfl rfl) rfl (Jg (JK rfl rfl) rfl (Jg (Jd rfl) rfl (Jg (Jd rfl) rfl (Jf (Ja (hK3 (Je fun _ hK4 _=>(Jb (Jg (Jc rfl) rfl (Jf (Ja (hK4 (Eh rfl (fun h19=>?_) (fun h19=>?_))))))))))))))
 ·
  refine Je fun _ hK5 _=>(Jb (Jg (Jc rfl) rfl (Jg (Jd rfl) rfl (Jf (Ja (hK5 (Jq (Ji (Jp rfl (Res.tmp rfl) fun w hH=>?_)))))))));replace hH:=hH.sublist (.cons_cons _ (.cons_cons _ (List.Sublist.refl _)));obtain ⟨b,hb⟩:=Option.isSome_iff_exists.1 h19;obtain ⟨x,hx,rfl⟩:=lvK_mem hb;exact ⟨_,ls,x,(Le.refl _),hC,hx,fun y hy=>hy,fun _ h=>h,by rw [hb];rfl,hH.star⟩
 ·
  refine Jl (Ja (hK2 (Je fun _ hK6 _=>(Jb (EL pwE (Value.int .i64) pwOk rfl fun bm21=>(Jg (PR.build1 rfl (fun w=>bd55_1 _ w)) rfl (Ee rfl rfl rfl fun g23=>(Jg (Jd rfl) rfl (Jf (Ja (hK6 (Je fun _ hK7 _=>(Jb (Jg (Jc rfl) rfl (Jg (Jc rfl) rfl (Jg (JL rfl) rfl ?_))))))))))))))));refine Jg (Js u93 rfl sz50 rfl) rfl (Jg (JF (q:=some ⟨bc,0,none⟩) (k:=0) rfl pc0 pl50) rfl (Jg (JL rfl) rfl (Jg (Js u32 rfl sz22 rfl) rfl (Jg (JF (q:=some ⟨bca,0,none⟩) (k:=0) rfl pcad pl22) rfl (Jg (Jc rfl) rfl (JB fn74 rfl rfl fun w hH=>(mon121_c hcad hd h8 (by omega) hH).mono ?_))))));rintro _ w ⟨qo34,co34,rfl,hH⟩;refine ⟨_,rfl,fun a hF=>JT hF hH ?_⟩;refine J.fixA .z fun Ho34 hleo34 hAo34=>?_;replace pc0:=pc0.le hleo34;replace pc1:=pc1.le hleo34;replace pcad:=pcad.le hleo34;replace pcaf:=pcaf.le hleo34;replace hcad:=hcad.le hleo34;replace hcaf:=hcaf.le hleo34;replace hC:=hC.le hleo34;have hxo34:=own_pows (monL_8 h8) hAo34;have hco34:=own_le hAo34;refine Jg (Jc rfl) rfl (Jg (JK rfl rfl) rfl (Jg (JK rfl rfl) rfl (Jg (JL rfl) rfl (Jg (Js u55 rfl sz52 rfl) rfl (Ez rfl rfl rfl rfl sz52 (by simp [*]) At.z (Jf (Ja (hK7 (Je fun _ hK8 _=>(Je fun _ hK9 _=>(Jb (Jg (Jc rfl) rfl (Jg (JL rfl) rfl (Jg (Js u55 rfl sz52 rfl) rfl (Jg (Jt rfl At.z rfl pl52) rfl ?_)))))))))))))));refine Jg (Jo u52 rfl rfl) rfl (Jg (Jc rfl) rfl (Jf (Ja (hK9 (Jm (JE (σ:=Nat) (fun (k:Nat)=>[(44,.int .i64 (k:Int))]) (fun (k:Nat)=>Ho34) (fun (k:Nat)=>obj g23 (.cells [.slice qo34 (monL cad n).length co34,.map (some bm21),.slice none 0 0,.slice none 0 0,.slice none 0 0,.slice none 0 0].toArray 55 (0,0))::osum bm21 (plM ((monL cad n).take k))::lvM lc (lvK ls)::lvO ls::L) (fun (k:Nat)=>k≤(monL cad n).length) (fun (k:Nat)=>(monL cad n).length - k) 0 (by omega) ⟨rfl,trivial⟩ rfl rfl ?_))))));rintro k hk _ hAg0;refine Je fun _ hK10 _=>(Jb (Jg (JP rfl rfl) rfl (Jf (Ja (hK10 (Je fun _ hK11 _=>(Jn rfl (fun h45=>?_) (fun h45=>?_))))))))
  ·
   have hml:=monL_len cad n
   have hk1:k<(monL cad n).length:=by omega
   have h8r:=hxo34.len _ hk1;refine Jl (Ja (hK11 (Je fun _ hK12 _=>(Jm (Je fun _ hK13 _=>(Jb (Jg (Jc rfl) rfl (Jg (Ek u52 sz87 rfl rfl rfl hk1 hxo34.sm) rfl (Jg (JI rfl (hxo34.cell _ hk1) (hxo34.sm (i:=k) hk1) (by rw [intsC_length,hxo34.len _ hk1];exact ag87)) rfl (JW ze87 rfl fun g9=>(Jg (Jd rfl) rfl (JH rfl rfl (by first | exact bytesC_one _ | exact intsC_one _ | exact Term.c_one _ | simp [Value.oneCell']) (by simpa [*] using sz87) (by simp [*]) At.z (Jf (Ja (hK13 (Es (Rs:=[_,_,_,_,_]) 7 [[], [0], [0,1], [0,1,2], [], [], [0,1,2,3,4,5]] [[], [], [], [8], [7], [], []] [[], [], [], [], [], [], [9]] rfl rfl (by kernel_rfl) ?_))))))))))))))));apply Jr 1 rfl
   iterate 3 focus (intros;(conv=>lhs;simp only [Jh,Ju,JV,Jx,JJ,eq_self,Nat.reduceEqDiff,reduceIte,Nat.reduceSub,Nat.reduceAdd,List.cons_append,List.nil_append]);all_goals rfl)
   ·
    intro gh X K zq zc zq2 zc2 zb zv hK;refine Jg (Jc rfl) rfl (Jj ?_);exact hK zq zc zq2 zc2 zb zv
   ·
    intro gh gh' h
    rfl
   apply Jr 2 rfl
   iterate 3 focus (intros;(conv=>lhs;simp only [Jh,Ju,JV,Jx,JJ,eq_self,Nat.reduceEqDiff,reduceIte,Nat.reduceSub,Nat.reduceAdd,List.cons_append,List.nil_append]);all_goals rfl)
   ·
    intro gh X K zq zc zq2 zc2 zb zv hK;refine Jg (JL rfl) rfl (Jj ?_);exact hK zq zc zq2 zc2 zb zv
   ·
    intro gh gh' h
    rfl
   apply Jr 3 rfl
   iterate 3 focus (intros;(conv=>lhs;simp only [Jh,Ju,JV,Jx,JJ,eq_self,Nat.reduceEqDiff,reduceIte,Nat.reduceSub,Nat.reduceAdd,List.cons_append,List.nil_append]);all_goals rfl)
   ·
    intro gh X K zq zc zq2 zc2 zb zv hK;refine Jg (Js u55 rfl sz53 rfl) rfl (Jj ?_);exact hK zq zc zq2 zc2 zb zv
   ·
    intro gh gh' h
    rfl
   apply Jr 4 rfl
   iterate 3 focus (intros;(conv=>lhs;simp only [Jh,Ju,JV,Jx,JJ,eq_self,Nat.reduceEqDiff,reduceIte,Nat.reduceSub,Nat.reduceAdd,List.cons_append,List.nil_append]);all_goals rfl)
   ·
    intro gh X K zq zc zq2 zc2 zb zv hK;refine Jg (Jt rfl At.z rfl pl53) rfl (Jj ?_);exact hK zq zc zq2 zc2 zb zv
   ·
    intro gh gh' h
    rfl
   apply Jr 5 rfl
   iterate 3 focus (intros;(conv=>lhs;simp only [Jh,Ju,JV,Jx,JJ,eq_self,Nat.reduceEqDiff,reduceIte,Nat.reduceSub,Nat.reduceAdd,List.cons_append,List.nil_append]);all_goals rfl)
   ·
    intro gh X K zq zc zq2 zc2 zb zv hK;refine Jg (JA rfl At.z (by simpa [*] using ag87)) rfl (Jj ?_);exact hK zq zc zq2 zc2 zb zv
   ·
    intro gh gh' h
    rfl
   apply Jr 6 rfl
   iterate 3 focus (intros;(conv=>lhs;simp only [Jh,Ju,JV,Jx,JJ,eq_self,Nat.reduceEqDiff,reduceIte,Nat.reduceSub,Nat.reduceAdd,List.cons_append,List.nil_append]);all_goals rfl)
   ·
    intro gh X K zq zc zq2 zc2 zb zv hK;refine Jg (Jc rfl) rfl (Jj ?_);exact hK zq zc zq2 zc2 zb zv
   ·
    intro gh gh' h
    rfl
   apply EK 7 rfl
   iterate 3 focus (intros;(conv=>lhs;simp only [Jh,Ju,JV,Jx,JJ,eq_self,Nat.reduceEqDiff,reduceIte,Nat.reduceSub,Nat.reduceAdd,List.cons_append,List.nil_append]);all_goals rfl)
   ·
    intro gh X K hK;refine J.putP pwK u53 rfl rfl rfl (monL_small h8 hk1) (show (putM _ _ _).Perm (plM ((monL cad n).take (k+1))) from by rw [rw_take hk1];exact plM_put (by rw [List.length_take];omega) (monL_fresh h8 hk1)) At.z (Jj ?_);exact hK
   ·
    intro gh gh' h
    rfl
   apply Et [0,1,2,3,4,5,6] [0,1,2,3,4,5,6,7,8,10,11] foll0 rfl rfl rfl (by rfl)
   iterate 2 focus (intros;(conv=>lhs;simp only [Jh,Ju,JV,Jx,JJ,eq_self,Nat.reduceEqDiff,reduceIte,Nat.reduceSub,Nat.reduceAdd,List.cons_append,List.nil_append]);all_goals rfl)
   intro gh;clear gh;refine JD (Ja (hK12 (Jb (Jg (JC rfl rfl (by first | exact nw _ (by omega) | rfl)) rfl (Jg (Jc rfl) rfl (Jf (Ja (JO (.s .z) (Jw (.s (.s (.s .z))) (Jw (.s (.s (.s .z))) (Jw (.s (.s .z)) (Jw (.s (.s (.s .z))) ?_))))))))))));exact hAg0 (k+1) (by omega) (by omega) 15 rfl rfl ⟨rfl,trivial⟩ rfl (by rfl)
  ·
   refine JG (Jk (Jk (JN (Ja (hK8 (Je fun _ hK14 _=>(Jb (Jg (Jc rfl) rfl (Jg (JL rfl) rfl (Jg (Js u93 rfl sz91 rfl) rfl (Jg (JF (q:=some ⟨bc,0,none⟩) (k:=1) rfl pc1 pl91) rfl (Jg (Jc rfl) rfl (Jg (Jc rfl) rfl (J.fixA (.s .z) fun Hm21 hlem21 hAm21=>?_))))))))))))));replace pc0:=pc0.le hlem21;replace pc1:=pc1.le hlem21;replace pcad:=pcad.le hlem21;replace pcaf:=pcaf.le hlem21;replace hcad:=hcad.le hlem21;replace hcaf:=hcaf.le hlem21;replace hC:=hC.le hlem21;replace hxo34:=hxo34.le hlem21;have hxm21:=omap_H hAm21;refine J.mapUpdate (ek:=ekI) (ev:=evB) (ok:=okI) (v:=g23) u91 kI rfl rfl rfl ⟨by omega,by omega⟩ (.s .z) (Jf (Ja (hK14 (Je fun _ hK15 _=>(Jb (Jg (Jc rfl) rfl (Jg (Jd rfl) rfl (Jf (Ja (hK15 (Jq (Jp rfl (Res.tmp rfl) fun w hH=>?_))))))))))));replace hH:=hH.sublist (.cons_cons _ (.cons_cons _ (.cons_cons _ (List.Sublist.refl _))))
   have hkk:k=(monL cad n).length:=by omega
   have hnk:look (lvK ls) n=none:=by simpa using h19
   rw [lvK_put hnk] at hH;refine ⟨_,(n,⟨g23,bm21,⟨qo34,(monL cad n).length,co34⟩,⟨none,0,0⟩,⟨none,0,0⟩,⟨none,0,0⟩,⟨none,0,0⟩⟩)::ls,_,(hleo34.trans hlem21),hC.cons (lvK_not hnk) ⟨⟨rfl,hxo34,?_,fun _=>rfl⟩,fun _ h=>(by cases h),fun _ h=>(by cases h)⟩,List.mem_cons_self,fun y hy=>List.mem_cons_of_mem _ hy,fun _ h=>h.fresh rfl,rfl,Hp.lvIn ((hH.front (.s (.s .z))).front (.s .z))⟩;rw [hkk,List.take_length] at hxm21;exact hxm21
theorem zv3:ZeroV Try.prog 3 (.int .i64 0):=fun _=>by kernel_rfl
theorem bare_c {B:World} {H0 H:HP} {L:List SA} {w:World} {bc lc:Nat} {bca:Nat} {qcad qcaf:Option Addr} {ccad ccaf:Nat} {cad:List Int} {caf:List (List Term)} {n:Int} {ls:List (Int × Lv)} {X:Int→Prop} (pc0:CellAt H bc 0 (.pointer (some ⟨bca,0,none⟩))) (pc1:CellAt H bc 1 (.map (some lc))) (pcad:CellAt H bca 0 (.slice qcad cad.length ccad)) (pcaf:CellAt H bca 1 (.slice qcaf caf.length ccaf)) (hcad:Ints H qcad cad) (hcaf:Forms H qcaf caf) (hd : ∀j,j<cad.length→1≤cad.getD j 0∧cad.getD j 0≤12) (h8:cad.length≤8) (hn : -1000000≤n∧n≤1000000) (hC:CpxOk H cad caf X ls) (hH:Hp B H0 H (cpx lc ls::L) w) :
 Calls Try.prog 50 [.pointer (some ⟨bc,0,none⟩),.int .i64 n].toArray w fun e w'=>∃H' ls' x,Le H H' ∧CpxOk H' cad caf X ls' ∧(n,x)∈ls' ∧(∀y∈ls,y∈ls')∧(∀Y,Nxt Y ls→Nxt Y ls')∧e = .returned (.pointer (some ⟨x.b,0,none⟩))∧Hp B H0 H' (cpx lc ls'::L) w':=bareX_c pc0 pc1 pcad pcaf hcad hcaf hd h8 hn hC hH.unstar
theorem row_set {ps:List Pw} (hn:ps.Nodup) {g g':Pw→Int} {i:Nat} {v:Int} (hi:i<ps.length) (h1:g' (rw_ ps i)=v) (h2 : ∀p,p≠rw_ ps i→g' p=g p):(ps.map g).set i v=ps.map g':=by
 have e:rw_ ps i=ps[i]:=by simp [rw_,List.getD_eq_getElem?_getD,List.getElem?_eq_getElem hi]
 rw [e] at h1 h2;refine List.ext_getElem (by simp) fun j hj hj'=>?_;rw [List.getElem_set];simp only [List.length_map] at hj'
 split
 ·rename_i e
  subst e
  simp [h1]
 ·rename_i e
  rw [List.getElem_map,List.getElem_map,h2];exact fun h=>e ((List.getElem_inj hn).1 h).symm
def RowI (s:Sm) (ls:Sm) (g:Pw→Int):Prop:=(∀x∈ls,x∈s)∧(ls.map (·.1)).Nodup∧∀p,g p=if p∈ls.map (·.1) then 0 else cf s p
theorem cf_mem0 : ∀{s:Sm} {p:Pw},p ∉ s.map (·.1)→cf s p=0
 | [],_,_=>rfl
 | x::s,p,h=>by
  simp only [List.map_cons,List.mem_cons,not_or] at h
  simp only [cf]
  rw [if_neg (fun e=>h.1 e.symm)]
  exact cf_mem0 h.2
theorem RowI.start {M:Int} {s:Sm} (hs:Sok M s):RowI s s fun _=>0:=⟨fun _ h=>h,hs.nodup,fun p=>by
 split
 ·rfl
 ·rename_i h
  exact (cf_mem0 h).symm⟩
theorem cf_in {M:Int} : ∀{s:Sm},Sok M s→∀{x:Pw × Int},x∈s→cf s x.1=x.2
 | [],_,_,h=>by simp at h
 | y::s,hs,x,h=>by
  simp only [cf]
  rcases List.mem_cons.1 h with rfl | h
  ·rw [if_pos rfl]
  ·have:y.1≠x.1:=before_ne ((List.pairwise_cons.1 hs.srt).1 x h)
   rw [if_neg this]
   exact cf_in hs.tail h
def putG (g:Pw→Int) (x:Pw × Int):Pw→Int:=fun p=>if p=x.1 then x.2 else g p
theorem RowI.next {M:Int} {s:Sm} (hs:Sok M s) {la lb:Sm} {x:Pw × Int} {g:Pw→Int} (h:RowI s (la++x::lb) g):RowI s (la++lb) (putG g x):=by
 have hp:((la++x::lb).map (·.1)).Perm (x.1::(la++lb).map (·.1)):=(List.perm_middle (a:=x)).map _;have hnd:=List.nodup_cons.1 (hp.nodup_iff.1 h.2.1);refine ⟨fun y hy=>h.1 y (by simp at hy ⊢;rcases hy with h | h <;> simp [h]),hnd.2,fun p=>?_⟩;unfold putG
 by_cases e:p=x.1
 ·subst e;rw [if_pos rfl,if_neg hnd.1,cf_in hs (h.1 x (by simp))]
 ·rw [if_neg e,h.2.2 p]
  have:p∈(la++x::lb).map (·.1)↔p∈(la++lb).map (·.1):=by
   rw [hp.mem_iff,List.mem_cons];exact ⟨fun h=>h.resolve_left e,.inr⟩
  simp only [this]
theorem RowI.end {s:Sm} {g:Pw→Int} (h:RowI s [] g):g=cf s:=funext fun p=>by rw [h.2.2 p];simp
theorem RowI.set {ps:List Pw} (hn:ps.Nodup) {g:Pw→Int} {x:Pw × Int} {i:Nat} (hi:i<ps.length) (hx:rw_ ps i=x.1):(ps.map g).set i x.2=ps.map (putG g x):=
 row_set hn hi (by rw [hx];unfold putG;rw [if_pos rfl]) fun p hp=>by unfold putG;rw [if_neg (hx ▸ hp)]
theorem map_zero (ps:List Pw):List.replicate ps.length (0:Int)=ps.map fun _=>0:=by
 induction ps with
 | nil=>rfl
 | cons p ps ih=>rw [List.length_cons,List.replicate_succ,ih];rfl
theorem look_at {ps:List Pw} (hn:ps.Nodup) {i:Nat} {p:Pw} (hi:i<ps.length) (hx:rw_ ps i=p):(look (plM ps) p).elim (Value.int .i64 0) (Value.int .i64) = .int .i64 (i:Int):=by
 rw [← hx,plM_at hn hi]
 rfl
theorem row_c {B:World} {H0 H:HP} {L:List SA} {w:World} {bl plb:Nat} {ql:Option Addr} {cl:Nat} {ps:List Pw} {vs:Value} {Ms:Int} {s:Sm} (pl0:CellAt H bl 0 (.slice ql ps.length cl)) (pl1:CellAt H bl 1 (.map (some plb))) (hs:SumH H vs s) (ks:Sok Ms s) (hps:Pows H ql ps) (hpl:SumH H (.map (some plb)) (plM ps)) (hnd:ps.Nodup) (hM:Ms≤1000000) (hin : ∀x∈s,x.1∈ps) (hpl1:ps.length≤1000000) (hH:Hp B H0 H L w):Calls Try.prog 51 [.pointer (some ⟨bl,0,none⟩),vs].toArray w fun e w'=>∃q c,e = .returned (.slice q (ps.map (cf s)).length c)∧Hp B H0 H (own 2 1 q (ps.map (cf s)).length c (intsC (ps.map (cf s)))::L) w':=by
 refine Jv Try.func51 rfl 31 rfl rfl [(0,.pointer (some ⟨bl,0,none⟩)),(1,vs)] rfl hH ?_;clear hH;obtain ⟨bs,ess,cls,rfl,hbs,hes⟩:=hs;have hs:SumH H (.map (some bs)) s:=⟨bs,ess,cls,rfl,hbs,hes⟩;refine Je fun _ hK1 _=>(Jb (Jg (Jd rfl) rfl (Jf (Ja (hK1 (Je fun _ hK2 _=>(Jb (Jg (Jc rfl) rfl (Jg (JL rfl) rfl (Jg (Js u55 rfl sz52 rfl) rfl (Jg (JF (q:=some ⟨bl,0,none⟩) (k:=0) rfl pl0 pl52) rfl (Jg (Jo u52 rfl rfl) rfl (J.mk (MK.makeI (m:=ps.length) u22 ze2 sz2 by2 rfl rfl rfl rfl (by omega)) rfl fun qo13 co13=>(Jg (PR.eqv (v':=.slice qo13 ps.length co13) (by rw [List.length_replicate]) (Jd rfl)) rfl (Jf ?_)))))))))))))));refine Ja (hK2 (Je fun _ hK3 _=>(Je fun _ hK4 _=>(Jb (Jg (Jc rfl) rfl (J.range u90 rfl hbs hes rfl fun r15=>(Jf (Ja (hK4 (Jm (JE (σ:=Option (Pw × Int) × Sm × (Pw→Int)) (fun ⟨la,ls,g⟩=>[]) (fun ⟨la,ls,g⟩=>H) (fun ⟨la,ls,g⟩=>itr pwE (Value.int .i64) bs ess cls r15 la ls::own 2 1 qo13 ps.length co13 (intsC (ps.map g))::L) (fun ⟨la,ls,g⟩=>RowI s ls g) (fun ⟨la,ls,g⟩=>ls.length) (none,s,fun _=>0) (RowI.start ks) trivial rfl (by dsimp only;rw [← map_zero,List.length_replicate]) ?_)))))))))));rintro ⟨la,ls,g⟩ hI _ hAg0;refine Je fun _ hK5 _=>(Jb (J.next rfl hbs hes (fun _ _=>At.z) rfl (fun hE16=>?_) (fun nx16 la16 lb16 hL16=>?_)))
 ·
  refine Jg (JK rfl rfl) rfl (Jf (Ja (hK5 (Je fun _ hK6 _=>(Eo rfl (JG (Jk (Jk (JN (Ja (hK3 (Je fun _ hK7 _=>(Jb (Jg (Jc rfl) rfl (Jg (Jd rfl) rfl (Jf ?_))))))))))))))));refine Ja (hK7 (Jq (Jp rfl (Res.tmp rfl) fun w hH=>?_)));replace hH:=hH.sublist (.cons _ (.cons_cons _ (List.Sublist.refl _)));have hI2:RowI s ls g:=hI;rw [hE16] at hI2;rw [hI2.end] at hH;exact ⟨_,_,by rw [List.length_map],by rw [List.length_map];exact hH⟩
 ·
  subst hL16;have hu:=hI.1 nx16 (by simp);obtain ⟨i,hi,hie⟩:=mem_rw.1 (hin nx16 hu);have hu8:=(ks.key nx16 hu).len;refine Jg (JK rfl rfl) rfl (Jf (Ja (hK5 (Je fun _ hK8 _=>(Ev rfl (Jl (Ja (hK8 (Jm (Je fun _ hK9 _=>(Jb (Jg (PR.entry rfl hbs hes At.z) rfl (Jg (JK rfl rfl) rfl (Jg (JK rfl rfl) rfl (JW ze87 rfl fun g6=>(JH rfl rfl (by first | exact bytesC_one _ | exact intsC_one _ | exact Term.c_one _ | simp [Value.oneCell']) (by simpa [*] using sz87) (by simp [*]) At.z ?_))))))))))))))));refine Jg (Jd rfl) rfl (Jf (Ja (hK9 (Es (Rs:=[_,_,_]) 10 [[], [], [1], [1,2], [1,2,3], [], [1,2,3,4,5], [], [0,1,2,3,4,5,6,7], [0,1,2,3,4,5,6,7,8]] [[], [], [], [], [], [10], [], [], [12], []] [[], [], [], [], [], [], [], [], [], [12]] rfl rfl (by kernel_rfl) ?_))));apply Jr 1 rfl
  iterate 3 focus (intros;(conv=>lhs;simp only [Jh,Ju,JV,Jx,JJ,eq_self,Nat.reduceEqDiff,reduceIte,Nat.reduceSub,Nat.reduceAdd,List.cons_append,List.nil_append]);all_goals rfl)
  ·
   intro gh X K zq zc zq2 zc2 zb zv hK;refine Jg (Jc rfl) rfl (Jj ?_);exact hK zq zc zq2 zc2 zb zv
  ·
   intro gh gh' h
   rfl
  apply Jr 2 rfl
  iterate 3 focus (intros;(conv=>lhs;simp only [Jh,Ju,JV,Jx,JJ,eq_self,Nat.reduceEqDiff,reduceIte,Nat.reduceSub,Nat.reduceAdd,List.cons_append,List.nil_append]);all_goals rfl)
  ·
   intro gh X K zq zc zq2 zc2 zb zv hK;refine Jg (Jc rfl) rfl (Jj ?_);exact hK zq zc zq2 zc2 zb zv
  ·
   intro gh gh' h
   rfl
  apply Jr 3 rfl
  iterate 3 focus (intros;(conv=>lhs;simp only [Jh,Ju,JV,Jx,JJ,eq_self,Nat.reduceEqDiff,reduceIte,Nat.reduceSub,Nat.reduceAdd,List.cons_append,List.nil_append]);all_goals rfl)
  ·
   intro gh X K zq zc zq2 zc2 zb zv hK;refine Jg (JL rfl) rfl (Jj ?_);exact hK zq zc zq2 zc2 zb zv
  ·
   intro gh gh' h
   rfl
  apply Jr 4 rfl
  iterate 3 focus (intros;(conv=>lhs;simp only [Jh,Ju,JV,Jx,JJ,eq_self,Nat.reduceEqDiff,reduceIte,Nat.reduceSub,Nat.reduceAdd,List.cons_append,List.nil_append]);all_goals rfl)
  ·
   intro gh X K zq zc zq2 zc2 zb zv hK;refine Jg (Js u55 rfl sz53 rfl) rfl (Jj ?_);exact hK zq zc zq2 zc2 zb zv
  ·
   intro gh gh' h
   rfl
  apply Jr 5 rfl
  iterate 3 focus (intros;(conv=>lhs;simp only [Jh,Ju,JV,Jx,JJ,eq_self,Nat.reduceEqDiff,reduceIte,Nat.reduceSub,Nat.reduceAdd,List.cons_append,List.nil_append]);all_goals rfl)
  ·
   intro gh X K zq zc zq2 zc2 zb zv hK;refine Jg (JF (q:=some ⟨bl,0,none⟩) (k:=1) rfl pl1 pl53) rfl (Jj ?_);exact hK zq zc zq2 zc2 zb zv
  ·
   intro gh gh' h
   rfl
  apply Jr 6 rfl
  iterate 3 focus (intros;(conv=>lhs;simp only [Jh,Ju,JV,Jx,JJ,eq_self,Nat.reduceEqDiff,reduceIte,Nat.reduceSub,Nat.reduceAdd,List.cons_append,List.nil_append]);all_goals rfl)
  ·
   intro gh X K zq zc zq2 zc2 zb zv hK;refine Jg (JA rfl At.z (by simpa [*] using ag87)) rfl (Jj ?_);exact hK zq zc zq2 zc2 zb zv
  ·
   intro gh gh' h
   rfl
  apply Jr 7 rfl
  iterate 3 focus (intros;(conv=>lhs;simp only [Jh,Ju,JV,Jx,JJ,eq_self,Nat.reduceEqDiff,reduceIte,Nat.reduceSub,Nat.reduceAdd,List.cons_append,List.nil_append]);all_goals rfl)
  ·
   intro gh X K zq zc zq2 zc2 zb zv hK;refine Jg (PR.eqv (v':=.int .i64 (i:Int)) (look_at hnd hi hie) (PR.lookH u53 pwK zv3 rfl hpl rfl (pwOk_of (ks.key nx16 hu) hM))) rfl (Jj ?_);exact hK zq zc zq2 zc2 zb zv
  ·
   intro gh gh' h
   rfl
  apply Jr 8 rfl
  iterate 3 focus (intros;(conv=>lhs;simp only [Jh,Ju,JV,Jx,JJ,eq_self,Nat.reduceEqDiff,reduceIte,Nat.reduceSub,Nat.reduceAdd,List.cons_append,List.nil_append]);all_goals rfl)
  ·
   intro gh X K zq zc zq2 zc2 zb zv hK;refine Jg (Jc rfl) rfl (Jj ?_);exact hK zq zc zq2 zc2 zb zv
  ·
   intro gh gh' h
   rfl
  apply Jr 9 rfl
  iterate 3 focus (intros;(conv=>lhs;simp only [Jh,Ju,JV,Jx,JJ,eq_self,Nat.reduceEqDiff,reduceIte,Nat.reduceSub,Nat.reduceAdd,List.cons_append,List.nil_append]);all_goals rfl)
  ·
   intro gh X K zq zc zq2 zc2 zb zv hK;refine Jg (Ey u22 sz2 rfl rfl rfl (by omega) At.z) rfl (Jj ?_);exact hK zq zc zq2 zc2 zb zv
  ·
   intro gh gh' h
   rfl
  apply EK 10 rfl
  iterate 3 focus (intros;(conv=>lhs;simp only [Jh,Ju,JV,Jx,JJ,eq_self,Nat.reduceEqDiff,reduceIte,Nat.reduceSub,Nat.reduceAdd,List.cons_append,List.nil_append]);all_goals rfl)
  ·
   intro gh X K hK;refine J.storeWI rfl rfl sz2 (by omega) At.z (Jj ?_);exact hK
  ·
   intro gh gh' h
   rfl
  apply Et [0,1,2,3,4,5,6,7,8,9] [0,1,2,3,4,5,6,7,8,9,10,11] foll0 rfl rfl rfl (by rfl)
  iterate 2 focus (intros;(conv=>lhs;simp only [Jh,Ju,JV,Jx,JJ,eq_self,Nat.reduceEqDiff,reduceIte,Nat.reduceSub,Nat.reduceAdd,List.cons_append,List.nil_append]);all_goals rfl)
  intro gh;clear gh;refine JD (Ja (JO (.s .z) (Jw .z (Jw (.s .z) ?_))));exact hAg0 (some nx16,la16++lb16,putG g nx16) (hI.next ks) (by simp) 16 rfl rfl trivial rfl (by rw [RowI.set hnd hi hie])
theorem sz27:Size Try.prog 27 1:=by unfold Size;kernel_rfl
theorem pl27:Plain Try.prog 27:=⟨_,u27,rfl⟩
theorem fn50:Fn Try.prog 50:=⟨_,Try.func50,by kernel_rfl,rfl⟩
theorem fn51:Fn Try.prog 51:=⟨_,Try.func51,by kernel_rfl,rfl⟩
theorem CpxOk.mono {H:HP} {ds:List Int} {fs:List (List Term)} {X Y:Int→Prop} {ls:List (Int × Lv)} (h:CpxOk H ds fs X ls) (hXY : ∀x∈ls,X x.1→Y x.1):CpxOk H ds fs Y ls:=⟨h.nd,fun x hx=>⟨(h.ok x hx).one,fun hn=>(h.ok x hx).two fun h'=>hn (hXY x hx h'),fun hn=>(h.ok x hx).three fun h'=>hn (hXY x hx h')⟩⟩
theorem LvOk.mono {H:HP} {ds:List Int} {fs:List (List Term)} {X Y:Int→Prop} {n:Int} {x:Lv} (h:LvOk H ds fs X n x) (hXY:X n→Y n):LvOk H ds fs Y n x:=⟨h.one,fun hn=>h.two fun h'=>hn (hXY h'),fun hn=>h.three fun h'=>hn (hXY h')⟩
theorem CpxOk.out2 {H:HP} {ds:List Int} {fs:List (List Term)} {X:Int→Prop} {ls:List (Int × Lv)} {n m:Int} {x y:Lv} (h:CpxOk H ds fs X ls) (hx:(n,x)∈ls) (hy:(m,y)∈ls) (hnm:n≠m) : ∃rest,ls.Perm ((n,x)::(m,y)::rest)∧CpxOk H ds fs X rest∧(∀z∈rest,z.1≠n∧z.1≠m)∧LvOk H ds fs X n x∧LvOk H ds fs X m y:=by
 obtain ⟨r1,hp1,hC1,hn1,hL1⟩:=h.out hx
 have hy1:(m,y)∈r1:=by
  rcases List.mem_cons.1 (hp1.subset hy) with e | e
  ·exact absurd (congrArg Prod.fst e).symm hnm
  ·exact e
 obtain ⟨r2,hp2,hC2,hn2,hL2⟩:=hC1.out hy1;exact ⟨r2,hp1.trans (hp2.cons _),hC2,fun z hz=>⟨hn1 z (hp2.symm.subset (List.mem_cons_of_mem _ hz)),hn2 z hz⟩,hL1,hL2⟩
section
variable {B : World} {H0 H : HP} {L : List SA} {w : World}
theorem Hp.lvOut2 {lb:Nat} {ls rest:List (Int × Lv)} {x y:Int × Lv} (hp:ls.Perm (x::y::rest)) (h:Hp B H0 H (cpx lb ls::L) w):Hp B H0 H (lvB x.2::lvB y.2::lvO rest::lvM lb ((x.1,x.2.b)::(y.1,y.2.b)::lvK rest)::L) w:=by
 have h1:=h.lvOut hp;have h2:=(h1.front (.s .z)).unstar;exact (h2.front (.s (.s .z)))
theorem Hp.lvIn2 {lb:Nat} {rest:List (Int × Lv)} {x y:Int × Lv} (h:Hp B H0 H (lvB x.2::lvB y.2::lvO rest::lvM lb ((x.1,x.2.b)::(y.1,y.2.b)::lvK rest)::L) w):Hp B H0 H (cpx lb (x::y::rest)::L) w:=by
 have h1:=h.front (.s .z);have h2:=(h1.front (.s (.s .z))).front (.s .z);exact Hp.lvIn (x:=x) (rest:=y::rest) ((h2.star.front (.s .z)))
end
def matK (ds:List Int) (fs:List (List Term)) (n:Int) (k:Nat):List (List Int):=((monL ds n).take k).map fun p=>(monL ds (n+1)).map (cf (dS ds fs [(p,1)]))
theorem matK_succ {ds:List Int} {fs:List (List Term)} {n:Int} {k:Nat} (hk:k<(monL ds n).length):matK ds fs n (k+1)=matK ds fs n k++[(monL ds (n+1)).map (cf (dS ds fs [(rw_ (monL ds n) k,1)]))]:=by
 unfold matK;rw [rw_take hk,List.map_append]
 rfl
theorem matK_end {ds:List Int} {fs:List (List Term)} {n:Int} {k:Nat} (hk:k=(monL ds n).length):matK ds fs n k=matS ds fs n:=by
 subst hk;unfold matK matS;rw [List.take_length]
theorem matS_len (ds:List Int) (fs:List (List Term)) (n:Int):(matS ds fs n).length=(monL ds n).length:=by simp [matS]
theorem mon_pok {ds:List Int} {n:Int} (h8:ds.length≤8) {p:Pw} (hp:p∈monS ds n):Pok 20 p:=by
 have h:=enumF_mem (by omega) rfl hp;refine ⟨h.1,fun j=>?_⟩
 by_cases hj:j<ds.length
 ·have:=h.2.2.1 j hj;rw [Nat.zero_add] at this
  omega
 ·have:=h.2.1 j (.inr (by omega));rw [this,show zP=List.replicate 8 0 from rfl,rep_get];omega
theorem mon_ex {ds:List Int} {n:Int} (h8:ds.length≤8) {p:Pw} (hp:p∈monS ds n) (hd : ∀j,j<ds.length→1≤ds.getD j 0∧ds.getD j 0≤12):Ex ds p:=by
 have h:=enumF_mem (by omega) rfl hp;refine ⟨fun i hi=>?_,fun i hi ho=>?_⟩
 ·have:=h.2.1 i (.inr (by omega));rw [this,show zP=List.replicate 8 0 from rfl,rep_get]
 ·have h1:=h.2.2.1 i hi;rw [Nat.zero_add] at h1;refine h1.2.2 ?_;have:=hd i hi;have:=tmod_two (d:=ds.getD i 0) (by omega)
  omega
theorem mon_occ {ds:List Int} {n:Int} {k:Nat} (h8:ds.length≤8) {p:Pw} (hp:p∈monS ds n) (hd : ∀j,j<ds.length→1≤ds.getD j 0∧ds.getD j 0≤12) (hk:k=ds.length):Occ k [(p,1)]:=Ex.occ (fun x hx=>by rw [List.mem_singleton.1 hx];exact mon_ex h8 hp hd) hk
theorem monL_mem {ds:List Int} {n:Int} {k:Nat} (hk:k<(monL ds n).length):rw_ (monL ds n) k∈monS ds n:=List.mem_of_mem_take (rw_mem hk)
theorem monL_nodup {ds:List Int} (h8:ds.length≤8) (n:Int):(monL ds n).Nodup:=(List.take_sublist _ _).nodup (mon_nodup ds n h8)
def Fl (x:Lv):Prop:=x.m.q.isSome=true∧x.z.q.isSome=true
def Kp (ls ls':List (Int × Lv)):Prop:=∀y∈ls,Fl y.2→y∈ls'
def Hom1 (ds:List Int) (fs:List (List Term)) (n:Int):Prop:=∀p∈monL ds n,∀x∈dS ds fs [(p,1)],x.1∈monL ds (n+1)
theorem withMatrix_c {B:World} {H0 H:HP} {L:List SA} {w:World} {bc lc:Nat} {bca:Nat} {qcad qcaf:Option Addr} {ccad ccaf:Nat} {cad:List Int} {caf:List (List Term)} {n:Int} {ls:List (Int × Lv)} {X:Int→Prop} (pc0:CellAt H bc 0 (.pointer (some ⟨bca,0,none⟩))) (pc1:CellAt H bc 1 (.map (some lc))) (pcad:CellAt H bca 0 (.slice qcad cad.length ccad)) (pcaf:CellAt H bca 1 (.slice qcaf caf.length ccaf)) (hcad:Ints H qcad cad) (hcaf:Forms H qcaf caf) (hd : ∀j,j<cad.length→1≤cad.getD j 0∧cad.getD j 0≤12) (h8:cad.length≤8) (hn : -1≤n∧n≤100000) (hA:AlgOk cad caf) (hX : ¬X n) (hfit:fit2 cad n) (hom:Hom1 cad caf n) (hC:CpxOk H cad caf X ls) (hN:Nxt X ls) (hH:Hp B H0 H (cpx lc ls::L) w):Calls Try.prog 24 [.pointer (some ⟨bc,0,none⟩),.int .i64 n].toArray w fun e w'=>∃H' ls' x,Le H H' ∧CpxOk H' cad caf X ls' ∧(n,x)∈ls' ∧(∀y∈ls,y.1≠n→y∈ls')∧Nxt X ls' ∧n+1∈ls'.map (·.1)∧(Lv2 H' cad caf n x∧Kp ls ls')∧e = .returned (.pointer (some ⟨x.b,0,none⟩))∧Hp B H0 H' (cpx lc ls'::L) w':=by
 refine Jv Try.func24 rfl 55 rfl rfl [(0,.pointer (some ⟨bc,0,none⟩)),(1,.int .i64 n)] rfl hH ?_;have hw0:=hH.old;have hw1:=hH.le;clear hH;refine Je fun _ hK1 _=>(Jb (Jg (Jd rfl) rfl (Jf (Ja (hK1 (Je fun _ hK2 _=>(Jb (Jg (Jc rfl) rfl (Jg (Jc rfl) rfl (JB fn50 rfl rfl fun w hH=>(bare_c (n:=n) pc0 pc1 pcad pcaf hcad hcaf hd h8 (by omega) hC hH).mono ?_))))))))));rintro _ w ⟨H11,ls11,⟨b11,p11,⟨ql11,kl11,cl11⟩,⟨qm11,km11,cm11⟩,⟨qz11,kz11,cz11⟩,⟨qy11,ky11,cy11⟩,⟨qx11,kx11,cx11⟩⟩,hle11,hC11,hx11,hsub11,hN11,rfl,hH⟩;refine ⟨_,rfl,fun a hF=>JT hF hH ?_⟩;replace pc0:=pc0.le hle11;replace pc1:=pc1.le hle11;replace pcad:=pcad.le hle11;replace pcaf:=pcaf.le hle11;replace hcad:=hcad.le hle11;replace hcaf:=hcaf.le hle11;replace hC:=hC.le hle11;obtain ⟨rs11,hp11,hCr11,hne11,hL11⟩:=hC11.out hx11;obtain rfl:kl11=(monL cad (n)).length:=hL11.one.len;have hpw11:Pows H11 ql11 (monL cad (n)):=hL11.one.pw;have hpl11:SumH H11 (.map (some p11)) (plM (monL cad (n))):=hL11.one.pl;refine J.reL (L':=obj b11 (.cells [.slice ql11 (monL cad (n)).length cl11,.map (some p11),.slice qm11 km11 cm11,.slice qz11 kz11 cz11,.slice qy11 ky11 cy11,.slice qx11 kx11 cx11].toArray 55 (0,0))::lvO rs11::lvM lc ((n,b11)::lvK rs11)::_) (fun w hH=>Hp.lvOut (x:=(n,⟨b11,p11,⟨ql11,(monL cad (n)).length,cl11⟩,⟨qm11,km11,cm11⟩,⟨qz11,kz11,cz11⟩,⟨qy11,ky11,cy11⟩,⟨qx11,kx11,cx11⟩⟩)) hp11 hH) (Jg (Jd rfl) rfl (Jf (Ja (hK2 (Je fun _ hK3 _=>(Je fun _ hK4 _=>(Jb (Jg (Jc rfl) rfl (Jg (JL rfl) rfl (Jg (Js u55 rfl sz27 rfl) rfl (Jg (Jt rfl At.z rfl pl27) rfl (Jg (PR.eqlNil u27 rfl rfl) rfl (Jf (Ja (hK4 (Eh rfl (fun h16=>?_) (fun h16=>?_)))))))))))))))))
 ·
  refine Je fun _ hK5 _=>(Jb (Jg (Jc rfl) rfl (J.mk (MK.lit0 u27 sz22) rfl fun qo18 co18=>(Jg (JL rfl) rfl (Jg (Js u55 rfl sz27 rfl) rfl (Ez rfl rfl rfl rfl sz27 (by simp [*]) (.s .z) (Jf (Ja (hK5 (Je fun _ hK6 _=>(Jb (Jg (Jc rfl) rfl (Jg (Jc rfl) rfl (Jg (JC rfl rfl (by first | exact nw _ (by omega) | rfl)) rfl ?_))))))))))))));have hC0:CpxOk H11 cad caf (fun m=>X m∨m=n) ((n,⟨b11,p11,⟨ql11,(monL cad (n)).length,cl11⟩,⟨qo18,0,co18⟩,⟨qz11,kz11,cz11⟩,⟨qy11,ky11,cy11⟩,⟨qx11,kx11,cx11⟩⟩)::rs11):=(hCr11.mono fun x _ h=>.inl h).cons hne11 ⟨⟨rfl,hpw11,hpl11,hL11.one.z⟩,fun h=>absurd (.inr rfl) h,fun h=>absurd (.inr rfl) h⟩;refine J.reL (fun w hH=>Hp.lvIn (x:=(n,⟨b11,p11,⟨ql11,(monL cad (n)).length,cl11⟩,⟨qo18,0,co18⟩,⟨qz11,kz11,cz11⟩,⟨qy11,ky11,cy11⟩,⟨qx11,kx11,cx11⟩⟩)) (rest:=rs11) (((hH.front (.s (.s (.s .z)))).front (.s (.s (.s .z)))).front (.s (.s (.s .z))))) (JB fn50 rfl rfl fun w hH=>(bare_c (n:=n+1) pc0 pc1 pcad pcaf hcad hcaf hd h8 (by omega) hC0 hH).mono ?_);rintro _ w ⟨H24,ls24,⟨b24,p24,⟨ql24,kl24,cl24⟩,⟨qm24,km24,cm24⟩,⟨qz24,kz24,cz24⟩,⟨qy24,ky24,cy24⟩,⟨qx24,kx24,cx24⟩⟩,hle24,hC24,hx24,hsub24,hN24,rfl,hH⟩;refine ⟨_,rfl,fun a hF=>JT hF hH ?_⟩;replace pc0:=pc0.le hle24;replace pc1:=pc1.le hle24;replace pcad:=pcad.le hle24;replace pcaf:=pcaf.le hle24;replace hcad:=hcad.le hle24;replace hcaf:=hcaf.le hle24;replace hC:=hC.le hle24;replace hCr11:=hCr11.le hle24;replace hL11:=hL11.le hle24;replace hpw11:=hpw11.le hle24;replace hpl11:=hpl11.le hle24;obtain ⟨rs24,hp24,hCr24,hne24,hM24,hL24⟩:=hC24.out2 (hsub24 (n,⟨b11,p11,⟨ql11,(monL cad (n)).length,cl11⟩,⟨qo18,0,co18⟩,⟨qz11,kz11,cz11⟩,⟨qy11,ky11,cy11⟩,⟨qx11,kx11,cx11⟩⟩) (by simp)) hx24 (by omega);obtain rfl:kl24=(monL cad (n+1)).length:=hL24.one.len;have hpw24:Pows H24 ql24 (monL cad (n+1)):=hL24.one.pw;have hpl24:SumH H24 (.map (some p24)) (plM (monL cad (n+1))):=hL24.one.pl;refine J.reL (L':=obj b11 (.cells [.slice ql11 (monL cad (n)).length cl11,.map (some p11),.slice qo18 0 co18,.slice qz11 kz11 cz11,.slice qy11 ky11 cy11,.slice qx11 kx11 cx11].toArray 55 (0,0))::obj b24 (.cells [.slice ql24 (monL cad (n+1)).length cl24,.map (some p24),.slice qm24 km24 cm24,.slice qz24 kz24 cz24,.slice qy24 ky24 cy24,.slice qx24 kx24 cx24].toArray 55 (0,0))::lvO rs24::lvM lc ((n,b11)::(n+1,b24)::lvK rs24)::_) (fun w hH=>Hp.lvOut2 (x:=(n,⟨b11,p11,⟨ql11,(monL cad (n)).length,cl11⟩,⟨qo18,0,co18⟩,⟨qz11,kz11,cz11⟩,⟨qy11,ky11,cy11⟩,⟨qx11,kx11,cx11⟩⟩)) (y:=(n+1,⟨b24,p24,⟨ql24,(monL cad (n+1)).length,cl24⟩,⟨qm24,km24,cm24⟩,⟨qz24,kz24,cz24⟩,⟨qy24,ky24,cy24⟩,⟨qx24,kx24,cx24⟩⟩)) hp24 hH) (Jg (Jd rfl) rfl (Jf (Ja (hK6 (Je fun _ hK7 _=>(Jb (Jg (Jc rfl) rfl (Jg (JL rfl) rfl (Jg (Js u55 rfl sz52 rfl) rfl (Jg (Jt rfl At.z rfl pl52) rfl (Jg (Jo u52 rfl rfl) rfl (Jg (Jc rfl) rfl (Jf (Ja (hK7 (Jm ?_))))))))))))))));refine JE (σ:=HP × Option Addr × Nat × List Value × Nat) (fun ⟨Hk,q,c,vals,k⟩=>[(30,.int .i64 (k:Int))]) (fun ⟨Hk,q,c,vals,k⟩=>Hk) (fun ⟨Hk,q,c,vals,k⟩=>obj b11 (.cells [.slice ql11 (monL cad (n)).length cl11,.map (some p11),.slice q k c,.slice qz11 kz11 cz11,.slice qy11 ky11 cy11,.slice qx11 kx11 cx11].toArray 55 (0,0))::obj b24 (.cells [.slice ql24 (monL cad (n+1)).length cl24,.map (some p24),.slice qm24 km24 cm24,.slice qz24 kz24 cz24,.slice qy24 ky24 cy24,.slice qx24 kx24 cx24].toArray 55 (0,0))::lvO rs24::lvM lc ((n,b11)::(n+1,b24)::lvK rs24)::own 22 1 q k c vals::L) (fun ⟨Hk,q,c,vals,k⟩=>Le H24 Hk∧SlF Hk vals (matK cad caf n k)∧k≤(monL cad n).length) (fun ⟨Hk,q,c,vals,k⟩=>(monL cad n).length - k) (H24,qo18,co18, [],0) ⟨Le.refl _,SlF.nil _,by omega⟩ ⟨rfl,trivial⟩ rfl rfl ?_;rintro ⟨Hk,q,c,vals,k⟩ ⟨hlk,hS,hk⟩ _ hAg0;replace pc0:=pc0.le hlk;replace pc1:=pc1.le hlk;replace pcad:=pcad.le hlk;replace pcaf:=pcaf.le hlk;replace hcad:=hcad.le hlk;replace hcaf:=hcaf.le hlk;replace hC:=hC.le hlk;replace hCr11:=hCr11.le hlk;replace hL11:=hL11.le hlk;replace hpw11:=hpw11.le hlk;replace hpl11:=hpl11.le hlk;replace hCr24:=hCr24.le hlk;replace hL24:=hL24.le hlk;replace hM24:=hM24.le hlk;replace hpw24:=hpw24.le hlk;replace hpl24:=hpl24.le hlk;refine Je fun _ hK8 _=>(Jb (Jg (JP rfl rfl) rfl (Jf (Ja (hK8 (Je fun _ hK9 _=>(Jn rfl (fun h31=>?_) (fun h31=>?_))))))))
  ·
   have hml:=monL_len cad n
   have hk1:k<(monL cad n).length:=by omega
   have hpm:=monL_mem hk1;have hpk:=mon_pok h8 hpm;have h8r:=hpk.len;have hocc:=mon_occ h8 hpm hd hA.hl;have hds:=dS_sok (ds:=cad) (Sok.one (k:=1) hpk (by omega)) hA.fok hocc;have hinx : ∀x∈dS cad caf [(rw_ (monL cad n) k,1)],x.1∈monL cad (n+1):=hom _ (rw_mem hk1);refine Jl (Ja (hK9 (Je fun _ hK10 _=>(Jm (Je fun _ hK11 _=>(Jb (Jg (Ek u52 sz87 rfl rfl rfl hk1 hpw11.sm) rfl (Jg (JI rfl (hpw11.cell _ hk1) (hpw11.sm (i:=k) hk1) (by rw [intsC_length,hpw11.len _ hk1];exact ag87)) rfl (JW ze87 rfl fun g8=>(JH rfl rfl (by first | exact bytesC_one _ | exact intsC_one _ | exact Term.c_one _ | simp [Value.oneCell']) (by simpa [*] using sz87) (by simp [*]) At.z (Jf (Ja (hK11 (Es (Rs:=[_,_,_,_,_,_]) 21 [[], [], [1], [1,2], [1,2,3], [], [], [6], [6,7], [6,7,8], [], [], [10,11], [10,11,12], [6,7,8,9,10,11,12,13], [5,6,7,8,9,10,11,12,13,14], [5,6,7,8,9,10,11,12,13,14,15], [1,2,3,4,5,6,7,8,9,10,11,12,13,14,15,16], [0,1,2,3,4,5,6,7,8,9,10,11,12,13,14,15,16,17], [0,1,2,3,4,5,6,7,8,9,10,11,12,13,14,15,16,17,18], [0,1,2,3,4,5,6,7,8,9,10,11,12,13,14,15,16,17,18,19]] [[], [], [], [], [22], [], [], [], [], [], [], [21], [], [], [12], [14,23], [], [16], [], [], []] [[], [], [], [], [], [], [], [], [], [], [], [], [10], [], [], [], [], [26], [], [], [22]] rfl rfl (by kernel_rfl) ?_))))))))))))));apply Jr 1 rfl
   iterate 3 focus (intros;(conv=>lhs;simp only [Jh,Ju,JV,Jx,JJ,eq_self,Nat.reduceEqDiff,reduceIte,Nat.reduceSub,Nat.reduceAdd,List.cons_append,List.nil_append]);all_goals rfl)
   ·
    intro gh X K zq zc zq2 zc2 zb zv hK;refine Jg (Jc rfl) rfl (Jj ?_);exact hK zq zc zq2 zc2 zb zv
   ·
    intro gh gh' h
    rfl
   apply Jr 2 rfl
   iterate 3 focus (intros;(conv=>lhs;simp only [Jh,Ju,JV,Jx,JJ,eq_self,Nat.reduceEqDiff,reduceIte,Nat.reduceSub,Nat.reduceAdd,List.cons_append,List.nil_append]);all_goals rfl)
   ·
    intro gh X K zq zc zq2 zc2 zb zv hK;refine Jg (Jc rfl) rfl (Jj ?_);exact hK zq zc zq2 zc2 zb zv
   ·
    intro gh gh' h
    rfl
   apply Jr 3 rfl
   iterate 3 focus (intros;(conv=>lhs;simp only [Jh,Ju,JV,Jx,JJ,eq_self,Nat.reduceEqDiff,reduceIte,Nat.reduceSub,Nat.reduceAdd,List.cons_append,List.nil_append]);all_goals rfl)
   ·
    intro gh X K zq zc zq2 zc2 zb zv hK;refine Jg (JL rfl) rfl (Jj ?_);exact hK zq zc zq2 zc2 zb zv
   ·
    intro gh gh' h
    rfl
   apply Jr 4 rfl
   iterate 3 focus (intros;(conv=>lhs;simp only [Jh,Ju,JV,Jx,JJ,eq_self,Nat.reduceEqDiff,reduceIte,Nat.reduceSub,Nat.reduceAdd,List.cons_append,List.nil_append]);all_goals rfl)
   ·
    intro gh X K zq zc zq2 zc2 zb zv hK;refine Jg (Js u55 rfl sz27 rfl) rfl (Jj ?_);exact hK zq zc zq2 zc2 zb zv
   ·
    intro gh gh' h
    rfl
   apply Jr 5 rfl
   iterate 3 focus (intros;(conv=>lhs;simp only [Jh,Ju,JV,Jx,JJ,eq_self,Nat.reduceEqDiff,reduceIte,Nat.reduceSub,Nat.reduceAdd,List.cons_append,List.nil_append]);all_goals rfl)
   ·
    intro gh X K zq zc zq2 zc2 zb zv hK;refine Jg (Jt rfl At.z rfl pl27) rfl (Jj ?_);exact hK zq zc zq2 zc2 zb zv
   ·
    intro gh gh' h
    rfl
   apply Jr 6 rfl
   iterate 3 focus (intros;(conv=>lhs;simp only [Jh,Ju,JV,Jx,JJ,eq_self,Nat.reduceEqDiff,reduceIte,Nat.reduceSub,Nat.reduceAdd,List.cons_append,List.nil_append]);all_goals rfl)
   ·
    intro gh X K zq zc zq2 zc2 zb zv hK;refine Jg (Jc rfl) rfl (Jj ?_);exact hK zq zc zq2 zc2 zb zv
   ·
    intro gh gh' h
    rfl
   apply Jr 7 rfl
   iterate 3 focus (intros;(conv=>lhs;simp only [Jh,Ju,JV,Jx,JJ,eq_self,Nat.reduceEqDiff,reduceIte,Nat.reduceSub,Nat.reduceAdd,List.cons_append,List.nil_append]);all_goals rfl)
   ·
    intro gh X K zq zc zq2 zc2 zb zv hK;refine Jg (Jc rfl) rfl (Jj ?_);exact hK zq zc zq2 zc2 zb zv
   ·
    intro gh gh' h
    rfl
   apply Jr 8 rfl
   iterate 3 focus (intros;(conv=>lhs;simp only [Jh,Ju,JV,Jx,JJ,eq_self,Nat.reduceEqDiff,reduceIte,Nat.reduceSub,Nat.reduceAdd,List.cons_append,List.nil_append]);all_goals rfl)
   ·
    intro gh X K zq zc zq2 zc2 zb zv hK;refine Jg (JL rfl) rfl (Jj ?_);exact hK zq zc zq2 zc2 zb zv
   ·
    intro gh gh' h
    rfl
   apply Jr 9 rfl
   iterate 3 focus (intros;(conv=>lhs;simp only [Jh,Ju,JV,Jx,JJ,eq_self,Nat.reduceEqDiff,reduceIte,Nat.reduceSub,Nat.reduceAdd,List.cons_append,List.nil_append]);all_goals rfl)
   ·
    intro gh X K zq zc zq2 zc2 zb zv hK;refine Jg (Js u93 rfl sz50 rfl) rfl (Jj ?_);exact hK zq zc zq2 zc2 zb zv
   ·
    intro gh gh' h
    rfl
   apply Jr 10 rfl
   iterate 3 focus (intros;(conv=>lhs;simp only [Jh,Ju,JV,Jx,JJ,eq_self,Nat.reduceEqDiff,reduceIte,Nat.reduceSub,Nat.reduceAdd,List.cons_append,List.nil_append]);all_goals rfl)
   ·
    intro gh X K zq zc zq2 zc2 zb zv hK;refine Jg (JF (q:=some ⟨bc,0,none⟩) (k:=0) rfl pc0 pl50) rfl (Jj ?_);exact hK zq zc zq2 zc2 zb zv
   ·
    intro gh gh' h
    rfl
   apply Ei 11 rfl
   iterate 3 focus (intros;(conv=>lhs;simp only [Jh,Ju,JV,Jx,JJ,eq_self,Nat.reduceEqDiff,reduceIte,Nat.reduceSub,Nat.reduceAdd,List.cons_append,List.nil_append]);all_goals rfl)
   ·
    intro gh X K zq zc zq2 zc2 zb zv hK;refine EL pwE (Value.int .i64) pwOk rfl fun bm44=>(Jj ?_);exact hK zq zc zq2 zc2 bm44 zv
   ·
    intro gh gh' h;refine ⟨?_,?_⟩ <;> rfl
   apply Jr 12 rfl
   iterate 3 focus (intros;(conv=>lhs;simp only [Jh,Ju,JV,Jx,JJ,eq_self,Nat.reduceEqDiff,reduceIte,Nat.reduceSub,Nat.reduceAdd,List.cons_append,List.nil_append]);all_goals rfl)
   ·
    intro gh X K zq zc zq2 zc2 zb zv hK;refine Jg (JA rfl At.z (by simpa [*] using ag87)) rfl (Jj ?_);exact hK zq zc zq2 zc2 zb zv
   ·
    intro gh gh' h
    rfl
   apply EK 13 rfl
   iterate 3 focus (intros;(conv=>lhs;simp only [Jh,Ju,JV,Jx,JJ,eq_self,Nat.reduceEqDiff,reduceIte,Nat.reduceSub,Nat.reduceAdd,List.cons_append,List.nil_append]);all_goals rfl)
   ·
    intro gh X K hK;refine J.putOne pwK u90 rfl rfl rfl (pwOk_of hpk (by omega)) At.z (Jj ?_);exact hK
   ·
    intro gh gh' h
    first | simp only [h 10 rfl] | rfl
   apply Jr 14 rfl
   iterate 3 focus (intros;(conv=>lhs;simp only [Jh,Ju,JV,Jx,JJ,eq_self,Nat.reduceEqDiff,reduceIte,Nat.reduceSub,Nat.reduceAdd,List.cons_append,List.nil_append]);all_goals rfl)
   ·
    intro gh X K zq zc zq2 zc2 zb zv hK;refine Jg (Jc rfl) rfl (Jj ?_);exact hK zq zc zq2 zc2 zb zv
   ·
    intro gh gh' h
    first | simp only [h 10 rfl] | rfl
   apply Ei 15 rfl
   iterate 3 focus (intros;(conv=>lhs;simp only [Jh,Ju,JV,Jx,JJ,eq_self,Nat.reduceEqDiff,reduceIte,Nat.reduceSub,Nat.reduceAdd,List.cons_append,List.nil_append]);all_goals rfl)
   ·
    intro gh X K zq zc zq2 zc2 zb zv hK;refine JB fn52 rfl rfl fun w hH=>hH.lend .z fun Hl1 hle1 hA1 hB1 hH=>(d_c (pcad.le hle1) (pcaf.le hle1) (hcad.le hle1) (hcaf.le hle1) (omap_H hA1) (Sok.one hpk (by omega)) h8 hA.hd hA.fok hA.hl hocc (by omega) hH).mono ?_;rintro _ w ⟨bo47,rfl,hH⟩;replace hH:=hB1 _ _ hH;refine ⟨_,rfl,fun a hF=>JT hF hH ?_⟩;refine Jw .z (Jw (.s .z) (Jj ?_));exact hK zq zc zq2 zc2 bo47 zv
   ·
    intro gh gh' h;refine ⟨?_,?_⟩ <;> (first | simp only [h 10 rfl] | rfl)
   apply Ei 16 rfl
   iterate 3 focus (intros;(conv=>lhs;simp only [Jh,Ju,JV,Jx,JJ,eq_self,Nat.reduceEqDiff,reduceIte,Nat.reduceSub,Nat.reduceAdd,List.cons_append,List.nil_append]);all_goals rfl)
   ·
    intro gh X K zq zc zq2 zc2 zb zv hK;refine JB fn51 rfl rfl fun w hH=>hH.lend (.s .z) fun Hl1 hle1 hA1 hB1 hH=>hH.lend .z fun Hl2 hle2 hA2 hB2 hH=>(row_c (cellO_le hle2 (obj_cell hA1 rfl)) (cellO_le hle2 (obj_cell hA1 rfl)) (omap_H hA2) hds ((hpw24.le hle1).le hle2) ((hpl24.le hle1).le hle2) (monL_nodup h8 _) (by omega) hinx (by have:=monL_len cad (n+1);omega) hH).mono ?_;rintro _ w ⟨qo48,co48,rfl,hH⟩;replace hH:=hB2 _ _ hH;replace hH:=hB1 _ _ hH;refine ⟨_,rfl,fun a hF=>JT hF hH ?_⟩;refine Jw .z (Jw (.s .z) (Jw (.s (.s .z)) (Jj ?_)));exact hK qo48 co48 zq2 zc2 zb zv
   ·
    intro gh gh' h;refine ⟨?_,?_⟩ <;> (first | simp only [h 10 rfl,h 14 rfl] | rfl)
   apply Ei 17 rfl
   iterate 3 focus (intros;(conv=>lhs;simp only [Jh,Ju,JV,Jx,JJ,eq_self,Nat.reduceEqDiff,reduceIte,Nat.reduceSub,Nat.reduceAdd,List.cons_append,List.nil_append]);all_goals rfl)
   ·
    intro gh X K zq zc zq2 zc2 zb zv hK;refine J.mk (MK.lit1S u27 ze22 sz22 rfl rfl) rfl fun qo49 co49=>(Jj ?_);exact hK qo49 co49 zq2 zc2 zb zv
   ·
    intro gh gh' h;refine ⟨?_,?_⟩ <;> (first | simp only [h 10 rfl,h 14 rfl,h 15 rfl] | rfl)
   apply Ei 18 rfl
   iterate 3 focus (intros;(conv=>lhs;simp only [Jh,Ju,JV,Jx,JJ,eq_self,Nat.reduceEqDiff,reduceIte,Nat.reduceSub,Nat.reduceAdd,List.cons_append,List.nil_append]);all_goals rfl)
   ·
    intro gh X K zq zc zq2 zc2 zb zv hK;refine J.append1 u27 ze22 sz22 by22 rfl rfl rfl rfl (by omega) (.s .z) At.z (fun _ _=>At.z) rfl fun qo50 co50=>(Jw .z (Jw (.s .z) (Jj ?_)));exact hK qo50 co50 zq2 zc2 zb zv
   ·
    intro gh gh' h;refine ⟨?_,?_⟩ <;> (first | simp only [h 10 rfl,h 14 rfl,h 15 rfl,h 16 rfl] | rfl)
   apply Jr 19 rfl
   iterate 3 focus (intros;(conv=>lhs;simp only [Jh,Ju,JV,Jx,JJ,eq_self,Nat.reduceEqDiff,reduceIte,Nat.reduceSub,Nat.reduceAdd,List.cons_append,List.nil_append]);all_goals rfl)
   ·
    intro gh X K zq zc zq2 zc2 zb zv hK;refine Jg (JL rfl) rfl (Jj ?_);exact hK zq zc zq2 zc2 zb zv
   ·
    intro gh gh' h
    first | simp only [h 10 rfl,h 14 rfl,h 15 rfl,h 16 rfl,h 17 rfl] | rfl
   apply Jr 20 rfl
   iterate 3 focus (intros;(conv=>lhs;simp only [Jh,Ju,JV,Jx,JJ,eq_self,Nat.reduceEqDiff,reduceIte,Nat.reduceSub,Nat.reduceAdd,List.cons_append,List.nil_append]);all_goals rfl)
   ·
    intro gh X K zq zc zq2 zc2 zb zv hK;refine Jg (Js u55 rfl sz27 rfl) rfl (Jj ?_);exact hK zq zc zq2 zc2 zb zv
   ·
    intro gh gh' h
    first | simp only [h 10 rfl,h 14 rfl,h 15 rfl,h 16 rfl,h 17 rfl] | rfl
   apply EK 21 rfl
   iterate 3 focus (intros;(conv=>lhs;simp only [Jh,Ju,JV,Jx,JJ,eq_self,Nat.reduceEqDiff,reduceIte,Nat.reduceSub,Nat.reduceAdd,List.cons_append,List.nil_append]);all_goals rfl)
   ·
    intro gh X K hK;refine Ez rfl rfl rfl rfl sz27 (by simp [*]) At.z (Jj ?_);exact hK
   ·
    intro gh gh' h
    first | simp only [h 10 rfl,h 14 rfl,h 15 rfl,h 16 rfl,h 17 rfl] | rfl
   apply Et [0,1,2,3,4,5,6,7,8,9,10,11,12,13,14,15,16,17,18,19,20] [0,1,2,3,4,5,6,7,8,9,11,12,13,14,15,16,17,18,19,20,21,23,24,25] foll0 rfl rfl rfl (by rfl)
   iterate 2 focus (intros;(conv=>lhs;simp only [Jh,Ju,JV,Jx,JJ,eq_self,Nat.reduceEqDiff,reduceIte,Nat.reduceSub,Nat.reduceAdd,List.cons_append,List.nil_append]);all_goals rfl)
   intro gh;generalize (gh 10).b=bm44;generalize (gh 14).b=bo47;generalize (gh 15).c=co48;generalize (gh 15).q=qo48;generalize (gh 16).c=co49;generalize (gh 16).q=qo49;generalize (gh 17).c=co50;generalize (gh 17).q=qo50;clear gh;refine EJ.fixA (.s (.s .z)) fun Ho48 hleo48 hAo48=>?_;replace pc0:=pc0.le hleo48;replace pc1:=pc1.le hleo48;replace pcad:=pcad.le hleo48;replace pcaf:=pcaf.le hleo48;replace hcad:=hcad.le hleo48;replace hcaf:=hcaf.le hleo48;replace hC:=hC.le hleo48;replace hCr11:=hCr11.le hleo48;replace hL11:=hL11.le hleo48;replace hpw11:=hpw11.le hleo48;replace hpl11:=hpl11.le hleo48;replace hCr24:=hCr24.le hleo48;replace hL24:=hL24.le hleo48;replace hM24:=hM24.le hleo48;replace hpw24:=hpw24.le hleo48;replace hpl24:=hpl24.le hleo48;replace hS:=hS.le hleo48;have hxo48:=own_ints hAo48;have hco48:=own_le hAo48;have hS2:=hS.snoc hxo48 rfl hco48;refine JD (Ja (hK10 (Jb (Jg (JC rfl rfl (by first | exact nw _ (by omega) | rfl)) rfl (Jg (Jc rfl) rfl (Jf (Ja (JO .z (JO .z (JO .z (JO (.s (.s .z)) (Jw .z (Jw (.s (.s (.s (.s .z)))) (Jw (.s (.s (.s (.s .z)))) (Jw (.s (.s (.s (.s .z)))) ?_)))))))))))))));refine Jw (.s (.s (.s (.s .z)))) ?_;exact hAg0 (Ho48,qo50,co50,_,k+1) ⟨(hlk.trans hleo48),by rw [matK_succ hk1];exact hS2,by omega⟩ (by show (monL cad n).length - (k+1)<(monL cad n).length - k;omega) 26 rfl rfl ⟨rfl,trivial⟩ rfl rfl
  ·
   refine JG (Jk (Jk (JN (Ja (hK3 (Je fun _ hK12 _=>(Jb (Jg (Jc rfl) rfl (J.fixA (.s (.s (.s (.s .z)))) fun Ho18 hleo18 hAo18=>?_)))))))));replace pc0:=pc0.le hleo18;replace pc1:=pc1.le hleo18;replace pcad:=pcad.le hleo18;replace pcaf:=pcaf.le hleo18;replace hcad:=hcad.le hleo18;replace hcaf:=hcaf.le hleo18;replace hC:=hC.le hleo18;replace hCr11:=hCr11.le hleo18;replace hL11:=hL11.le hleo18;replace hpw11:=hpw11.le hleo18;replace hpl11:=hpl11.le hleo18;replace hCr24:=hCr24.le hleo18;replace hL24:=hL24.le hleo18;replace hM24:=hM24.le hleo18;replace hpw24:=hpw24.le hleo18;replace hpl24:=hpl24.le hleo18;replace hS:=hS.le hleo18;have hxo18:=hS.rows (Le.refl _) hAo18;have hco18:=own_le hAo18;refine Jg (Jd rfl) rfl (Jf (Ja (hK12 (Jq (Jp rfl (Res.tmp rfl) fun w hH=>?_)))));replace hH:=hH.sublist (.cons_cons _ (.cons_cons _ (.cons_cons _ (.cons_cons _ (List.Sublist.refl _)))))
   have hke:k=(monL cad n).length:=by omega
   rw [matK_end hke] at hxo18;have hm2:SlIs Ho18 ⟨q,k,c⟩ (matS cad caf n):=⟨by rw [matS_len];exact hke,hxo18⟩;have hN0:Nxt (fun m=>X m∨m=n) ((n,⟨b11,p11,⟨ql11,(monL cad (n)).length,cl11⟩,⟨qo18,0,co18⟩,⟨qz11,kz11,cz11⟩,⟨qy11,ky11,cy11⟩,⟨qx11,kx11,cx11⟩⟩)::rs11):=((hN11 _ hN).perm hp11).swap hne11 (fun m h _ hX=>h (.inl hX)) fun h=>absurd (.inr rfl) h
   have hne2 : ∀z∈(n+1,⟨b24,p24,⟨ql24,(monL cad (n+1)).length,cl24⟩,⟨qm24,km24,cm24⟩,⟨qz24,kz24,cz24⟩,⟨qy24,ky24,cy24⟩,⟨qx24,kx24,cx24⟩⟩)::rs24,z.1≠n:=fun z hz=>by
    rcases List.mem_cons.1 hz with rfl | hz
    ·show n+1≠n
     omega
    ·exact (hne24 z hz).1
   have hNf:Nxt X ((n,⟨b11,p11,⟨ql11,(monL cad (n)).length,cl11⟩,⟨q,k,c⟩,⟨qz11,kz11,cz11⟩,⟨qy11,ky11,cy11⟩,⟨qx11,kx11,cx11⟩⟩)::(n+1,⟨b24,p24,⟨ql24,(monL cad (n+1)).length,cl24⟩,⟨qm24,km24,cm24⟩,⟨qz24,kz24,cz24⟩,⟨qy24,ky24,cy24⟩,⟨qx24,kx24,cx24⟩⟩)::rs24):=((hN24 _ hN0).perm hp24).swap hne2 (fun m h1 h2 h3=>h3.elim h1 h2) fun _ _=>by simp
   have hq0:qm11=none:=by cases qm11 <;> simp_all
   have hKp:Kp ls ((n,⟨b11,p11,⟨ql11,(monL cad (n)).length,cl11⟩,⟨q,k,c⟩,⟨qz11,kz11,cz11⟩,⟨qy11,ky11,cy11⟩,⟨qx11,kx11,cx11⟩⟩)::(n+1,⟨b24,p24,⟨ql24,(monL cad (n+1)).length,cl24⟩,⟨qm24,km24,cm24⟩,⟨qz24,kz24,cz24⟩,⟨qy24,ky24,cy24⟩,⟨qx24,kx24,cx24⟩⟩)::rs24):=fun y hy hF=>by
    have h1:y∈rs11:=by
     rcases List.mem_cons.1 (hp11.subset (hsub11 y hy)) with rfl | h1
     ·have h2:qm11.isSome=true:=hF.1;rw [hq0] at h2
      cases h2
     ·exact h1
    rcases List.mem_cons.1 (hp24.subset (hsub24 y (List.mem_cons_of_mem _ h1))) with rfl | h2
    ·exact absurd rfl (hne11 _ h1)
    ·exact List.mem_cons_of_mem _ h2
   refine ⟨_,(n,⟨b11,p11,⟨ql11,(monL cad (n)).length,cl11⟩,⟨q,k,c⟩,⟨qz11,kz11,cz11⟩,⟨qy11,ky11,cy11⟩,⟨qx11,kx11,cx11⟩⟩)::(n+1,⟨b24,p24,⟨ql24,(monL cad (n+1)).length,cl24⟩,⟨qm24,km24,cm24⟩,⟨qz24,kz24,cz24⟩,⟨qy24,ky24,cy24⟩,⟨qx24,kx24,cx24⟩⟩)::rs24,_,(((hle11.trans hle24).trans hlk).trans hleo18),?_,List.mem_cons_self,fun y hy hyn=>?_,hNf,by simp,⟨hm2,hKp⟩,rfl,Hp.lvIn2 (x:=(n,⟨b11,p11,⟨ql11,(monL cad (n)).length,cl11⟩,⟨q,k,c⟩,⟨qz11,kz11,cz11⟩,⟨qy11,ky11,cy11⟩,⟨qx11,kx11,cx11⟩⟩)) (y:=(n+1,⟨b24,p24,⟨ql24,(monL cad (n+1)).length,cl24⟩,⟨qm24,km24,cm24⟩,⟨qz24,kz24,cz24⟩,⟨qy24,ky24,cy24⟩,⟨qx24,kx24,cx24⟩⟩)) hH⟩
   ·have hC1:=hCr24.mono (Y:=X) fun z hz h=>h.resolve_right (hne24 z hz).1;refine ((hC1.cons (fun z hz=>(hne24 z hz).2) (hL24.mono fun h=>h.resolve_right (by omega))).cons hne2 ⟨⟨rfl,hpw11,hpl11,hL11.one.z⟩,fun _ _ _=>hm2,hL11.three⟩)
   ·have h1:y∈rs11:=by
     rcases List.mem_cons.1 (hp11.subset (hsub11 y hy)) with rfl | h1
     ·exact absurd rfl hyn
     ·exact h1
    rcases List.mem_cons.1 (hp24.subset (hsub24 y (List.mem_cons_of_mem _ h1))) with rfl | h2
    ·exact absurd rfl hyn
    ·exact List.mem_cons_of_mem _ h2
 ·
  refine Jl (Ja (hK3 (Je fun _ hK13 _=>(Jb (Jg (Jc rfl) rfl (Jg (Jd rfl) rfl (Jf (Ja (hK13 (Jq (Jp rfl (Res.tmp rfl) fun w hH=>?_)))))))))));replace hH:=hH.sublist (.cons_cons _ (.cons_cons _ (.cons_cons _ (List.Sublist.refl _))))
  have hq:qm11.isSome=true:=by cases qm11 <;> simp_all
  exact ⟨_,(n,⟨b11,p11,⟨ql11,(monL cad (n)).length,cl11⟩,⟨qm11,km11,cm11⟩,⟨qz11,kz11,cz11⟩,⟨qy11,ky11,cy11⟩,⟨qx11,kx11,cx11⟩⟩)::rs11,_,hle11,hCr11.cons hne11 hL11,List.mem_cons_self,fun y hy _=>hp11.subset (hsub11 y hy),(hN11 _ hN).perm hp11,(hN11 _ hN).perm hp11 _ List.mem_cons_self hX hq,⟨hL11.two hX hq hfit,fun y hy _=>hp11.subset (hsub11 y hy)⟩,rfl,Hp.lvIn (x:=(n,⟨b11,p11,⟨ql11,(monL cad (n)).length,cl11⟩,⟨qm11,km11,cm11⟩,⟨qz11,kz11,cz11⟩,⟨qy11,ky11,cy11⟩,⟨qx11,kx11,cx11⟩⟩)) hH⟩
theorem matS_ok {ds:List Int} {fs:List (List Term)} {n:Int} (hA:AlgOk ds fs) (h8:ds.length≤8) (hd : ∀j,j<ds.length→1≤ds.getD j 0∧ds.getD j 0≤12) : ∀r∈matS ds fs n,RowOk (monL ds (n+1)).length r:=fun r hr=>by
 obtain ⟨p,hp,rfl⟩:=List.mem_map.1 hr
 have hp':p∈monS ds n:=List.mem_of_mem_take hp
 have hs:=dS_sok (ds:=ds) (Sok.one (k:=1) (mon_pok h8 hp') (by omega)) hA.fok (mon_occ h8 hp' hd hA.hl)
 refine ⟨by simp,fun k=>?_⟩
 by_cases hk:k<(monL ds (n+1)).length
 ·have e:((monL ds (n+1)).map (cf (dS ds fs [(p,1)]))).getD k 0=cf (dS ds fs [(p,1)]) (monL ds (n+1))[k]:=by simp [List.getD_eq_getElem?_getD,List.getElem?_eq_getElem hk]
  rw [e]
  exact cf_bd hs _
 ·rw [getD_ge (by simp;omega)]
  omega
theorem Red.led {W:Nat} {R:List (List Int)} (h:Red W R) : ∀r∈R,RowOk W r∧ldR r<W:=fun r hr=>⟨h.row r hr,(h.one r hr).1⟩
theorem u69:Try.prog.underlying 69=some (TypeDesc.slice 78):=by kernel_rfl
theorem by78:Bytes Try.prog 78 8:=by unfold Bytes;kernel_rfl
theorem fn61:Fn Try.prog 61:=⟨_,Try.func61,by kernel_rfl,rfl⟩
theorem EnI.stop {ds:List Int} {i:Nat} {m mm:Pw} {n e:Int} {A acc:List Pw} (h:EnI ds i m n e A mm) (hl:401≤(capL 401 acc A).length):capL 401 acc A=capL 401 acc (enS ds i m n):=by
 rw [← h.eq,← capL_app,capL_full hl]
theorem EnI.stop2 {ds:List Int} {i:Nat} {m mm:Pw} {n e:Int} {A acc:List Pw} (h:EnI ds i m n e A mm) (he : ¬0≤e):capL 401 acc A=capL 401 acc (enS ds i m n):=by rw [← h.end (by omega)]
theorem topS_odd {d n:Int} (h0:1≤d) (h:d.tmod 2≠0):min (min (n.tdiv d) 1) 20=topM d n:=by
 have:=tmod_two (d:=d) (by omega);rw [topM,if_pos (by omega)]
 omega
theorem topS_even {d n:Int} (h : ¬d.tmod 2≠0):min (n.tdiv d) 20=topM d n:=by
 rw [topM,if_neg (by omega)]
theorem Mono.set {m:List Int} (h:Mono m) {i:Nat} {e:Int} (he:0≤e∧e≤255):Mono (m.set i e):=⟨by rw [List.length_set];exact h.len,fun j=>by
 rw [getD_set8]
 split
 ·exact he
 ·exact h.bd j⟩
structure EnB (ds:List Int) (i:Nat) (m:Pw) (n e:Int) (A:List Pw) (mm:Pw):Prop where
 en:EnI ds i m n e A mm
 mo:Mono mm
theorem l01FillX_c {B:World} {H0 H:HP} {L:List SA} {w:World} {qds:Option Addr} {cds:Nat} {ds:List Int} {m:List Int} {i:Nat} {n:Int} {qo:Option Addr} {co:Nat} {acc:List Pw} (hds:Ints H qds ds) (hm:Mono m) (hd : ∀j,j<ds.length→1≤ds.getD j 0∧ds.getD j 0≤12) (hi:i≤ds.length) (h8:ds.length≤8) (hn : -1000000≤n∧n≤1000000) (ha:acc.length≤400) (hrec:i<ds.length→∀(m':Pw) (n':Int) (acc':List Pw) (qo':Option Addr) (co':Nat),Mono m' → -1000000≤n' ∧n' ≤1000000→acc'.length≤400→∀(L:List SA) (w:World),Hp B H0 H (own 78 8 qo' acc'.length co' (msC acc')::L) w→Calls Try.prog 61 [.slice qds ds.length cds,.agg (bytesC m').toArray,.int .i64 ((i+1:Nat):Int),.int .i64 n',.slice qo' acc'.length co'].toArray w fun r w'=>∃q c,r = .returned (.slice q (capL 401 acc' (enS ds (i+1) m' n')).length c)∧Hp B H0 H (own 78 8 q (capL 401 acc' (enS ds (i+1) m' n')).length c (msC (capL 401 acc' (enS ds (i+1) m' n')))::L) w') (hH:Hp B H0 H (own 78 8 qo acc.length co (msC acc)::L) w):Calls Try.prog 61 [.slice qds ds.length cds,.agg (bytesC m).toArray,.int .i64 (i:Int),.int .i64 n,.slice qo acc.length co].toArray w fun e w'=>∃q c,e = .returned (.slice q (capL 401 acc (enS ds i m n)).length c)∧Hp B H0 H (own 78 8 q (capL 401 acc (enS ds i m n)).length c (msC (capL 401 acc (enS ds i m n)))::L) w':=by
 refine Jv Try.func61 rfl 68 rfl rfl [(0,.slice qds ds.length cds),(1,.agg (bytesC m).toArray),(2,.int .i64 (i:Int)),(3,.int .i64 n),(4,.slice qo acc.length co)] rfl hH ?_;have hml:=hm.len;clear hH;refine Je fun _ hK1 _=>(Jb (Ee rfl rfl rfl fun g6=>(Jg (Jd rfl) rfl (Jf (Ja (hK1 (Je fun _ hK2 _=>(Je fun _ hK3 _=>(Jb (Jg (Jc rfl) rfl (Jg (Jc rfl) rfl (Jg (Jo u22 rfl rfl) rfl (Jg (EC rfl rfl) rfl (Jf (Ja (hK3 ?_))))))))))))))));refine Jn rfl (fun h16=>?_) (fun h16=>?_)
 ·
  refine Je fun _ hK4 _=>(Je fun _ hK5 _=>(Jb (Jg (Jc rfl) rfl (Jg (EC rfl rfl) rfl (Jf (Ja (hK5 (Jn rfl (fun h18=>?_) (fun h18=>?_)))))))))
  ·
   refine Je fun _ hK6 _=>(Jb (Jg (Jc rfl) rfl (Jg (JA rfl At.z (by simpa [*] using ag78)) rfl (J.mk (MK.lit8 cf8B u69 ze78 rfl sz78 hm.len rfl) rfl fun qo21 co21=>(J.append8 cf8B u69 ze78 rfl sz78 by78 rfl rfl rfl (by omega) .z (.s .z) (fun _ _=>(.s .z)) rfl fun qo22 co22=>(Jg (Jd rfl) rfl (Jf (Ja (hK6 (Jq (Ji (Ji (Jp rfl (Res.tmp rfl) fun w hH=>?_)))))))))))));replace hH:=hH.sublist (.cons _ (.cons _ (.cons_cons _ (List.Sublist.refl _))));rw [show enS ds i m n=[m] from by rw [enS,enum_end (by omega),if_pos h18],capL_one (by omega),List.length_append];exact ⟨qo22,co22,rfl,hH⟩
  ·
   refine Jl (Ja (hK4 (Je fun _ hK7 _=>(Jb (Jg (Jc rfl) rfl (Jg (Jd rfl) rfl (Jf (Ja (hK7 (Jq (Ji (Jp rfl (Res.tmp rfl) fun w hH=>?_))))))))))));replace hH:=hH.sublist (.cons _ (.cons_cons _ (List.Sublist.refl _)));rw [show enS ds i m n=[] from by rw [enS,enum_end (by omega),if_neg h18],capL_nil];exact ⟨qo,co,rfl,hH⟩
 ·
  have hil:i<ds.length:=by omega
  have hdi:=hd i hil;have htb:=tdiv_b hdi.1 hn;have htt:=tmod_bd n;have hts:=topM_20 (ds.getD i 0) n;have htl:=topM_lo hdi.1 hn;refine Jl (Ja (hK2 (Je fun _ hK8 _=>(Jb (Jg (Jc rfl) rfl (Jg (Jc rfl) rfl (Jg (Jc rfl) rfl (Jg (JU u22 sz2 rfl rfl rfl hil hds.sm) rfl (Jg (JF rfl (hds _ hil) pl2) rfl (Jg (PR.quo rfl rfl (by omega) (nw _ (by omega))) rfl (Jg (Jd rfl) rfl (Jf (Ja (hK8 (CJ.cutU (σ:=Int) (fun (t:Int)=>[(11,.int .i64 t)]) (fun (t:Int)=>H) (fun (t:Int)=>obj g6 (.cells (bytesC m).toArray 78 (0,0))::own 78 8 qo acc.length co (msC acc)::L) (fun (t:Int)=>min t 20=topM (ds.getD i 0) n) ?_ ?_)))))))))))))))
  ·
   intro _ hMt1;refine Je fun _ hK9 _=>(Jb (Jg (Jc rfl) rfl (Jg (Jc rfl) rfl (Jg (JU u22 sz2 rfl rfl rfl hil hds.sm) rfl (Jg (JF rfl (hds _ hil) pl2) rfl (Jg (Er rfl rfl (by decide) rfl) rfl (Jg (Ej rfl rfl) rfl (Jf (Ja (hK9 (Jn rfl (fun h35=>?_) (fun h35=>?_))))))))))))
   ·
    refine Jb (Jg (Jc rfl) rfl (Jg (PR.min2 rfl rfl) rfl (Jg (Jd rfl) rfl (Jf (Ja ?_)))));exact hMt1 (min (n.tdiv (ds.getD i 0)) 1) (topS_odd hdi.1 h35) 9 rfl rfl ⟨(vi (min_if _ _)),trivial⟩ rfl rfl
   ·
    refine Jl (Ja ?_);exact hMt1 (n.tdiv (ds.getD i 0)) (topS_even h35) 6 rfl rfl ⟨rfl,trivial⟩ rfl rfl
  ·
   rintro t ht;refine Je fun _ hK10 _=>(Je fun _ hK11 _=>(Jb (Jg (Jc rfl) rfl (Jg (PR.eqv (v':=.int .i64 (topM (ds.getD i 0) n)) (by rw [min_if,ht]) (PR.min2 rfl rfl)) rfl (Jg (Jd rfl) rfl (Jf (Ja (hK11 (Jm (JE (σ:=Int × List Pw × Pw × Option Addr × Nat) (fun ⟨e,A,mm,qo1,co1⟩=>[(12,.int .i64 e),(4,.slice qo1 (capL 401 acc A).length co1)]) (fun ⟨e,A,mm,qo1,co1⟩=>H) (fun ⟨e,A,mm,qo1,co1⟩=>obj g6 (.cells (bytesC mm).toArray 78 (0,0))::own 78 8 qo1 (capL 401 acc A).length co1 (msC (capL 401 acc A))::L) (fun ⟨e,A,mm,qo1,co1⟩=>EnB ds i m n e A mm) (fun ⟨e,A,mm,qo1,co1⟩=>(e+1).toNat) (topM (ds.getD i 0) n, [],m,qo,co) ⟨EnI.start hm.len hil hdi.1 hn,hm⟩ ⟨rfl,⟨(by rw [capL_nil];rfl),trivial⟩⟩ rfl (by dsimp only;rw [capL_nil]) ?_))))))))));rintro ⟨e,A,mm,qo1,co1⟩ hI _ hAg0;have hen:=hI.en;have hlo:=hen.lo;have hhi:=hen.hi;have hmml:=hI.mo.len;refine Je fun _ hK12 _=>(Je fun _ hK13 _=>(Jb (Jg (Jc rfl) rfl (Jg (PR.geq rfl rfl) rfl (Jg (Jc rfl) rfl (Eg (jd:=42) rfl (fun h41=>?_) (fun h41=>?_)))))))
   ·
    try have h41p:=of_decide_eq_true h41
    refine JX (Jc rfl) rfl rfl rfl h41 (JX (Jo u69 rfl rfl) rfl rfl rfl h41 (JX (PR.leq rfl rfl) rfl rfl rfl h41 (Jg (JZ rfl h41 rfl) rfl (Jf (Ja (hK13 (Jn rfl (fun h45p=>?_) (fun h45p=>?_))))))))
    ·
     have hlb:=left_b hdi h41p hhi hn;have hmo:=hI.mo.set (i:=i) (e:=e) (by omega);refine Jl (Ja (hK12 (Je fun _ hK14 _=>(Jm (Je fun _ hK15 _=>(Jb (Jg (Jc rfl) rfl (Jg (Jc rfl) rfl (Jg (PR.conv u2 u5 rfl (u8_id (by omega))) rfl (Jg (JR u78 sz5 rfl rfl rfl (by omega)) rfl (J.storeB rfl rfl sz5 (by simp [*];omega) At.z (Jf (Ja (hK15 (Es (Rs:=[_,_]) 15 [[], [], [], [2], [], [], [], [], [6,7], [6,7,8], [5,6,7,8,9], [4,5,6,7,8,9,10], [], [0,1,2,3,4,5,6,7,8,9,10,11,12], [0,1,2,3,4,5,6,7,8,9,10,11,12,13]] [[], [15], [], [], [], [], [], [], [], [], [], [], [], [], []] [[], [], [], [], [], [], [], [], [], [], [], [], [], [16], []] rfl rfl (by kernel_rfl) ?_)))))))))))))));apply Jr 1 rfl
     iterate 3 focus (intros;(conv=>lhs;simp only [Jh,Ju,JV,Jx,JJ,eq_self,Nat.reduceEqDiff,reduceIte,Nat.reduceSub,Nat.reduceAdd,List.cons_append,List.nil_append]);all_goals rfl)
     ·
      intro gh X K zq zc zq2 zc2 zb zv hK;refine Jg (Jc rfl) rfl (Jj ?_);exact hK zq zc zq2 zc2 zb zv
     ·
      intro gh gh' h
      rfl
     apply Jr 2 rfl
     iterate 3 focus (intros;(conv=>lhs;simp only [Jh,Ju,JV,Jx,JJ,eq_self,Nat.reduceEqDiff,reduceIte,Nat.reduceSub,Nat.reduceAdd,List.cons_append,List.nil_append]);all_goals rfl)
     ·
      intro gh X K zq zc zq2 zc2 zb zv hK;refine Jg (JA rfl At.z (by simpa [*] using ag78)) rfl (Jj ?_);exact hK zq zc zq2 zc2 zb zv
     ·
      intro gh gh' h
      rfl
     apply Jr 3 rfl
     iterate 3 focus (intros;(conv=>lhs;simp only [Jh,Ju,JV,Jx,JJ,eq_self,Nat.reduceEqDiff,reduceIte,Nat.reduceSub,Nat.reduceAdd,List.cons_append,List.nil_append]);all_goals rfl)
     ·
      intro gh X K zq zc zq2 zc2 zb zv hK;refine Jg (Jc rfl) rfl (Jj ?_);exact hK zq zc zq2 zc2 zb zv
     ·
      intro gh gh' h
      rfl
     apply Jr 4 rfl
     iterate 3 focus (intros;(conv=>lhs;simp only [Jh,Ju,JV,Jx,JJ,eq_self,Nat.reduceEqDiff,reduceIte,Nat.reduceSub,Nat.reduceAdd,List.cons_append,List.nil_append]);all_goals rfl)
     ·
      intro gh X K zq zc zq2 zc2 zb zv hK;refine Jg (JC rfl rfl (by first | exact nw _ (by omega) | rfl)) rfl (Jj ?_);exact hK zq zc zq2 zc2 zb zv
     ·
      intro gh gh' h
      rfl
     apply Jr 5 rfl
     iterate 3 focus (intros;(conv=>lhs;simp only [Jh,Ju,JV,Jx,JJ,eq_self,Nat.reduceEqDiff,reduceIte,Nat.reduceSub,Nat.reduceAdd,List.cons_append,List.nil_append]);all_goals rfl)
     ·
      intro gh X K zq zc zq2 zc2 zb zv hK;refine Jg (Jc rfl) rfl (Jj ?_);exact hK zq zc zq2 zc2 zb zv
     ·
      intro gh gh' h
      rfl
     apply Jr 6 rfl
     iterate 3 focus (intros;(conv=>lhs;simp only [Jh,Ju,JV,Jx,JJ,eq_self,Nat.reduceEqDiff,reduceIte,Nat.reduceSub,Nat.reduceAdd,List.cons_append,List.nil_append]);all_goals rfl)
     ·
      intro gh X K zq zc zq2 zc2 zb zv hK;refine Jg (Jc rfl) rfl (Jj ?_);exact hK zq zc zq2 zc2 zb zv
     ·
      intro gh gh' h
      rfl
     apply Jr 7 rfl
     iterate 3 focus (intros;(conv=>lhs;simp only [Jh,Ju,JV,Jx,JJ,eq_self,Nat.reduceEqDiff,reduceIte,Nat.reduceSub,Nat.reduceAdd,List.cons_append,List.nil_append]);all_goals rfl)
     ·
      intro gh X K zq zc zq2 zc2 zb zv hK;refine Jg (Jc rfl) rfl (Jj ?_);exact hK zq zc zq2 zc2 zb zv
     ·
      intro gh gh' h
      rfl
     apply Jr 8 rfl
     iterate 3 focus (intros;(conv=>lhs;simp only [Jh,Ju,JV,Jx,JJ,eq_self,Nat.reduceEqDiff,reduceIte,Nat.reduceSub,Nat.reduceAdd,List.cons_append,List.nil_append]);all_goals rfl)
     ·
      intro gh X K zq zc zq2 zc2 zb zv hK;refine Jg (Jc rfl) rfl (Jj ?_);exact hK zq zc zq2 zc2 zb zv
     ·
      intro gh gh' h
      rfl
     apply Jr 9 rfl
     iterate 3 focus (intros;(conv=>lhs;simp only [Jh,Ju,JV,Jx,JJ,eq_self,Nat.reduceEqDiff,reduceIte,Nat.reduceSub,Nat.reduceAdd,List.cons_append,List.nil_append]);all_goals rfl)
     ·
      intro gh X K zq zc zq2 zc2 zb zv hK;refine Jg (JU u22 sz2 rfl rfl rfl hil hds.sm) rfl (Jj ?_);exact hK zq zc zq2 zc2 zb zv
     ·
      intro gh gh' h
      rfl
     apply Jr 10 rfl
     iterate 3 focus (intros;(conv=>lhs;simp only [Jh,Ju,JV,Jx,JJ,eq_self,Nat.reduceEqDiff,reduceIte,Nat.reduceSub,Nat.reduceAdd,List.cons_append,List.nil_append]);all_goals rfl)
     ·
      intro gh X K zq zc zq2 zc2 zb zv hK;refine Jg (JF rfl (hds _ hil) pl2) rfl (Jj ?_);exact hK zq zc zq2 zc2 zb zv
     ·
      intro gh gh' h
      rfl
     apply Jr 11 rfl
     iterate 3 focus (intros;(conv=>lhs;simp only [Jh,Ju,JV,Jx,JJ,eq_self,Nat.reduceEqDiff,reduceIte,Nat.reduceSub,Nat.reduceAdd,List.cons_append,List.nil_append]);all_goals rfl)
     ·
      intro gh X K zq zc zq2 zc2 zb zv hK;refine Jg (EA rfl rfl (nw _ (by omega))) rfl (Jj ?_);exact hK zq zc zq2 zc2 zb zv
     ·
      intro gh gh' h
      rfl
     apply Jr 12 rfl
     iterate 3 focus (intros;(conv=>lhs;simp only [Jh,Ju,JV,Jx,JJ,eq_self,Nat.reduceEqDiff,reduceIte,Nat.reduceSub,Nat.reduceAdd,List.cons_append,List.nil_append]);all_goals rfl)
     ·
      intro gh X K zq zc zq2 zc2 zb zv hK;refine Jg (EH rfl rfl (nw _ (by omega))) rfl (Jj ?_);exact hK zq zc zq2 zc2 zb zv
     ·
      intro gh gh' h
      rfl
     apply Jr 13 rfl
     iterate 3 focus (intros;(conv=>lhs;simp only [Jh,Ju,JV,Jx,JJ,eq_self,Nat.reduceEqDiff,reduceIte,Nat.reduceSub,Nat.reduceAdd,List.cons_append,List.nil_append]);all_goals rfl)
     ·
      intro gh X K zq zc zq2 zc2 zb zv hK;refine Jg (Jc rfl) rfl (Jj ?_);exact hK zq zc zq2 zc2 zb zv
     ·
      intro gh gh' h
      rfl
     apply Ei 14 rfl
     iterate 3 focus (intros;(conv=>lhs;simp only [Jh,Ju,JV,Jx,JJ,eq_self,Nat.reduceEqDiff,reduceIte,Nat.reduceSub,Nat.reduceAdd,List.cons_append,List.nil_append]);all_goals rfl)
     ·
      intro gh X K zq zc zq2 zc2 zb zv hK;refine JB fn61 rfl rfl fun w hH=>(hrec hil (mm.set i e) (n - e * ds.getD i 0) (capL 401 acc A) qo1 co1 hmo hlb.2 (by omega) _ _ (hH.front .z)).mono ?_;rintro _ w ⟨qo66,co66,rfl,hH⟩;refine ⟨_,rfl,fun a hF=>JT hF hH ?_⟩;refine Jj ?_;exact hK qo66 co66 zq2 zc2 zb zv
     ·
      intro gh gh' h;refine ⟨?_,?_⟩ <;> rfl
     apply Jr 15 rfl
     iterate 3 focus (intros;(conv=>lhs;simp only [Jh,Ju,JV,Jx,JJ,eq_self,Nat.reduceEqDiff,reduceIte,Nat.reduceSub,Nat.reduceAdd,List.cons_append,List.nil_append]);all_goals rfl)
     ·
      intro gh X K zq zc zq2 zc2 zb zv hK;refine Jg (Jd rfl) rfl (Jj ?_);exact hK zq zc zq2 zc2 zb zv
     ·
      intro gh gh' h
      first | simp only [h 13 rfl] | rfl
     apply Et [0,1,2,3,4,5,6,7,8,9,10,11,12,13,14] [0,1,2,3,4,5,6,7,8,9,10,11,12,13,14,15] foll0 rfl rfl rfl (by rfl)
     iterate 2 focus (intros;(conv=>lhs;simp only [Jh,Ju,JV,Jx,JJ,eq_self,Nat.reduceEqDiff,reduceIte,Nat.reduceSub,Nat.reduceAdd,List.cons_append,List.nil_append]);all_goals rfl)
     intro gh;generalize (gh 13).c=co66;generalize (gh 13).q=qo66;clear gh;refine JD (Ja (hK14 (Jb (Jg (Jc rfl) rfl (Jg (EH rfl rfl (by first | exact nw _ (by omega) | rfl)) rfl (Jg (Jd rfl) rfl (Jf (Ja (Jw .z (Jw (.s .z) ?_))))))))));exact hAg0 (e - 1,A++enG ds i m n e,mm.set i e,qo66,co66) ⟨hen.next h41p,hmo⟩ (by show (e - 1+1).toNat<(e+1).toNat;omega) 31 rfl rfl ⟨rfl,⟨(by rw [← capL_app,← enG_set hen.set];rfl),trivial⟩⟩ rfl (by dsimp only;rw [← capL_app,← enG_set hen.set])
    ·
     refine JG (Jk (Jk (JN (Ja (hK10 (Je fun _ hK16 _=>(Jb (Jg (Jc rfl) rfl (Jg (Jd rfl) rfl (Jf (Ja (hK16 (Jq (Jp rfl (Res.tmp rfl) fun w hH=>?_))))))))))))));replace hH:=hH.sublist (.cons _ (.cons_cons _ (List.Sublist.refl _)));rw [← hen.stop (by omega)];exact ⟨_,_,rfl,hH⟩
   ·
    try have h41p:=of_decide_eq_false h41
    refine JQ rfl rfl rfl h41 (JQ rfl rfl rfl h41 (JQ rfl rfl rfl h41 (Jg (JY rfl h41 rfl) rfl (Jf (Ja (hK13 (Eo rfl (JG (Jk (Jk (JN (Ja (hK10 (Je fun _ hK17 _=>(Jb (Jg (Jc rfl) rfl ?_))))))))))))))));refine Jg (Jd rfl) rfl (Jf (Ja (hK17 (Jq (Jp rfl (Res.tmp rfl) fun w hH=>?_)))));replace hH:=hH.sublist (.cons _ (.cons_cons _ (List.Sublist.refl _)));rw [← hen.stop2 h41p];exact ⟨_,_,rfl,hH⟩
theorem l01Fill_n {B:World} {H0 H:HP} {qds:Option Addr} {cds:Nat} {ds:List Int} (hds:Ints H qds ds) (hd : ∀j,j<ds.length→1≤ds.getD j 0∧ds.getD j 0≤12) (h8:ds.length≤8) : ∀(k i:Nat) (m:Pw) (n:Int) (acc:List Pw) (qo:Option Addr) (co:Nat),ds.length - i≤k→i≤ds.length→Mono m→ -1000000≤n∧n≤1000000→acc.length≤400→∀(L:List SA) (w:World),Hp B H0 H (own 78 8 qo acc.length co (msC acc)::L) w→Calls Try.prog 61 [.slice qds ds.length cds,.agg (bytesC m).toArray,.int .i64 (i:Int),.int .i64 n,.slice qo acc.length co].toArray w fun r w'=>∃q c,r = .returned (.slice q (capL 401 acc (enS ds i m n)).length c)∧Hp B H0 H (own 78 8 q (capL 401 acc (enS ds i m n)).length c (msC (capL 401 acc (enS ds i m n)))::L) w'
 | 0,i,m,n,acc,qo,co,hk,hi,hm,hn,ha,L,w,hH=>l01FillX_c hds hm hd hi h8 hn ha (fun h=>by omega) hH
 | k+1,i,m,n,acc,qo,co,hk,hi,hm,hn,ha,L,w,hH=>l01FillX_c hds hm hd hi h8 hn ha (fun h m' n' acc' qo' co' h1 h2 h3 L w hH=>l01Fill_n hds hd h8 k (i+1) m' n' acc' qo' co' (by omega) (by omega) h1 h2 h3 L w hH) hH
def monT (ds:List Int) (n:Int):List Pw:=(monS ds n).take 401
theorem mon_capS (ds:List Int) (n:Int) (m:Pw) (hm:m=zP):capL 401 [] (enS ds 0 m n)=monT ds n:=by
 subst hm;rw [capL_zero]
 rfl
theorem monT_fit {ds:List Int} {n:Int}:(decide (((monT ds n).length:Int)>120)) = !fitB ds n:=by
 unfold monT fitB;rw [List.length_take,← decide_not];simp only [decide_eq_decide]
 omega
theorem monT_eq {ds:List Int} {n:Int} (h:fitB ds n=true):monT ds n=monS ds n:=List.take_of_length_le (by have:=of_decide_eq_true h;omega)
theorem Mono.zP:Mono zP:=⟨rfl,fun j=>by rw [show G.zP=List.replicate 8 0 from rfl,rep_get];omega⟩
theorem l01Monomials_c {B:World} {H0 H:HP} {L:List SA} {w:World} {qds:Option Addr} {cds:Nat} {ds:List Int} {n:Int} (hds:Ints H qds ds) (hd : ∀j,j<ds.length→1≤ds.getD j 0∧ds.getD j 0≤12) (h8:ds.length≤8) (hn : -1000000≤n∧n≤1000000) (hH:Hp B H0 H L w):Calls Try.prog 36 [.slice qds ds.length cds,.int .i64 n].toArray w fun e w'=>∃q c,e = .returned (.slice q (monT ds n).length c)∧Hp B H0 H (own 78 8 q (monT ds n).length c (msC (monT ds n))::L) w':=by
 refine Jv Try.func36 rfl 9 rfl rfl [(0,.slice qds ds.length cds),(1,.int .i64 n)] rfl hH ?_;clear hH;refine Je fun _ hK1 _=>(Jb (Jg (Jd rfl) rfl (Jf (Ja (hK1 (Je fun _ hK2 _=>(Jb (Jg (Jc rfl) rfl (Jg (EB bz78) rfl (Jg (Jc rfl) rfl (J.own0 78 8 (JB fn61 rfl rfl fun w hH=>(l01Fill_n hds hd h8 ds.length 0 zP n [] none 0 (by omega) (by omega) Mono.zP hn (by simp) _ _ hH).mono ?_))))))))))));rintro _ w ⟨qo2,co2,rfl,hH⟩;refine ⟨_,rfl,fun a hF=>JT hF hH ?_⟩;refine Jg (Jd rfl) rfl (Jf (Ja (hK2 (Jq (Jp rfl (Res.tmp rfl) fun w hH=>?_)))));replace hH:=hH.sublist (.cons_cons _ (List.Sublist.refl _));rw [mon_capS _ _ _ rfl] at hH ⊢;exact ⟨qo2,co2,rfl,hH⟩
end Go.Proofs.Ythenedanhcnccaa.G
