/- A part of the walk of one law: what the functions compute. No condition. -/
import Derived.Test.YthenedanhcnccaaRows
import Derived.Test.YthenedanhcnccaaProg
import Derived.WalkKit
import Derived.KernelRfl
import Derived.JoinedOf
import Derived.Maps.AppendAt
import Derived.Still
import Derived.ProofKit
import Derived.OpenShut
import Derived.StillTail
import Derived.Deep.Upon
import Derived.WalkSpells
import Derived.Maps.Range
import Derived.DeepKeys4
import Derived.Maps.Keyed
import Derived.ChangeOld
import Derived.Below
import Derived.SizedLaws
import Derived.Test.YthenedanhcnccaaPMdoc
set_option linter.unusedVariables false
set_option linter.unusedSimpArgs false
set_option maxRecDepth 10000
set_option maxHeartbeats 8000000
namespace Go.Proofs.Ythenedanhcnccaa.G
open Go Go.RowKit
def mrg (k:Int):List Term→List Term→List Term
 | [], []=>[]
 | x::f, []=>x::mrg k f []
 | [],y::g=>if fld (k * y.fac)=0 then mrg k [] g else ⟨y.mono,fld (k * y.fac)⟩::mrg k [] g
 | x::f,y::g=>if before x.mono y.mono then x::mrg k f (y::g)
  else if before y.mono x.mono then (if fld (k * y.fac)=0 then mrg k (x::f) g else ⟨y.mono,fld (k * y.fac)⟩::mrg k (x::f) g)
  else (if fld (x.fac+fld (k * y.fac))=0 then mrg k f g else ⟨x.mono,fld (x.fac+fld (k * y.fac))⟩::mrg k f g)
termination_by f g=>f.length+g.length
theorem mrg_len (k:Int) : ∀(f g:List Term),(mrg k f g).length≤f.length+g.length
 | [], []=>by simp [mrg]
 | x::f, []=>by
  have:=mrg_len k f []
  rw [mrg]
  simp at this ⊢
  omega
 | [],y::g=>by
  have:=mrg_len k [] g
  rw [mrg]
  split <;> simp at this ⊢ <;> omega
 | x::f,y::g=>by
  have h1:=mrg_len k f (y::g)
  have h2:=mrg_len k (x::f) g
  have h3:=mrg_len k f g
  rw [mrg]
  split
  ·simp at h1 ⊢;omega
  ·split
   ·split <;> simp at h2 ⊢ <;> omega
   ·split <;> simp at h3 ⊢ <;> omega
termination_by f g=>f.length+g.length
theorem mrg_mem (k:Int) : ∀(f g:List Term) (z:Term),z∈mrg k f g→∃y,(y∈f∨y∈g)∧z.mono=y.mono
 | [], [],z,h=>by simp [mrg] at h
 | x::f, [],z,h=>by
  rw [mrg] at h
  rcases List.mem_cons.1 h with rfl | h
  ·exact ⟨z,.inl (by simp),rfl⟩
  ·obtain ⟨y,hy,e⟩:=mrg_mem k f [] z h
   exact ⟨y,hy.imp (fun h=>by simp [h]) id,e⟩
 | [],y::g,z,h=>by
  rw [mrg] at h
  have rec_:z∈mrg k [] g→∃y',(y' ∈([]:List Term)∨y' ∈y::g)∧z.mono=y'.mono:=fun h=>by
   obtain ⟨y',hy,e⟩:=mrg_mem k [] g z h
   exact ⟨y',hy.imp id (fun h=>by simp [h]),e⟩
  split at h
  ·exact rec_ h
  ·rcases List.mem_cons.1 h with rfl | h
   ·exact ⟨y,.inr (by simp),rfl⟩
   ·exact rec_ h
 | x::f,y::g,z,h=>by
  rw [mrg] at h
  have r1:z∈mrg k f (y::g)→∃y',(y' ∈x::f∨y' ∈y::g)∧z.mono=y'.mono:=fun h=>by
   obtain ⟨y',hy,e⟩:=mrg_mem k f (y::g) z h
   exact ⟨y',hy.imp (fun h=>by simp [h]) id,e⟩
  have r2:z∈mrg k (x::f) g→∃y',(y' ∈x::f∨y' ∈y::g)∧z.mono=y'.mono:=fun h=>by
   obtain ⟨y',hy,e⟩:=mrg_mem k (x::f) g z h
   exact ⟨y',hy.imp id (fun h=>by simp [h]),e⟩
  have r3:z∈mrg k f g→∃y',(y' ∈x::f∨y' ∈y::g)∧z.mono=y'.mono:=fun h=>by
   obtain ⟨y',hy,e⟩:=mrg_mem k f g z h
   exact ⟨y',hy.imp (fun h=>by simp [h]) (fun h=>by simp [h]),e⟩
  split at h
  ·rcases List.mem_cons.1 h with rfl | h
   ·exact ⟨z,.inl (by simp),rfl⟩
   ·exact r1 h
  ·split at h
   ·split at h
    ·exact r2 h
    ·rcases List.mem_cons.1 h with rfl | h
     ·exact ⟨y,.inr (by simp),rfl⟩
     ·exact r2 h
   ·split at h
    ·exact r3 h
    ·rcases List.mem_cons.1 h with rfl | h
     ·exact ⟨x,.inl (by simp),rfl⟩
     ·exact r3 h
termination_by f g=>f.length+g.length
theorem cf_toS_none {ts:List Term} {p:Pw} (h : ∀t∈ts,t.mono≠p):cf (toS ts) p=0:=cf_none fun x hx=>by
 obtain ⟨t,ht,rfl⟩:=toS_mem hx
 exact h t ht
theorem Gok.tl {M:Int} {x:Term} {ts:List Term} (h:Gok M (toS (x::ts))):Gok M (toS ts):=⟨(List.pairwise_cons.1 h.srt).2,fun y hy=>h.key y (List.mem_cons_of_mem _ hy),fun y hy=>h.val y (List.mem_cons_of_mem _ hy)⟩
theorem Gok.hd {M:Int} {x:Term} {ts:List Term} (h:Gok M (toS (x::ts))) : ∀y∈ts,before x.mono y.mono=true:=fun y hy=>(List.pairwise_cons.1 h.srt).1 (y.mono,y.fac) (List.mem_map.2 ⟨y,hy,rfl⟩)
theorem cf_cons (x:Term) (ts:List Term) (p:Pw):cf (toS (x::ts)) p=if x.mono=p then x.fac else cf (toS ts) p:=rfl
theorem fld0:fld 0=0:=by rw [fld_eq];rfl
theorem fld_id {x:Int} (h:0≤x∧x≤10006):fld x=x:=by rw [fld_eq];omega
theorem cf_mrg (k:Int) (p:Pw) {M N:Int} : ∀(f g:List Term),Gok M (toS f)→Gok N (toS g)→cf (toS (mrg k f g)) p=fld (cf (toS f) p+fld (k * cf (toS g) p))
 | [], [],_,_=>by
  rw [mrg]
  show (0:Int)=fld (0+fld (k * 0))
  rw [Int.mul_zero,fld0]
  exact fld0.symm
 | x::f, [],hf,hg=>by
  rw [mrg,cf_cons,cf_cons,cf_mrg k p f [] hf.tl hg]
  have e0:cf (toS []) p=0:=rfl
  rw [e0,Int.mul_zero,fld0]
  split
  ·rw [Int.add_zero,fld_id (hf.val (x.mono,x.fac) (List.mem_cons_self))]
  ·rfl
 | [],y::g,hf,hg=>by
  have ih:=cf_mrg k p [] g hf hg.tl
  have e0:cf (toS []) p=0:=rfl
  rw [e0,Int.zero_add] at ih ⊢
  have ng:y.mono=p→cf (toS g) p=0:=fun e=>cf_toS_none fun t ht e2=>before_ne (hg.hd t ht) (e.trans e2.symm)
  have ff : ∀a,fld (fld a)=fld a:=fun a=>fld_id (fld_bd a)
  rw [mrg,cf_cons]
  by_cases e:y.mono=p
  ·rw [if_pos e,ff]
   split
   ·rename_i hz
    rw [ih,ng e,Int.mul_zero,fld0,fld0,hz]
   ·rw [cf_cons,if_pos e]
  ·rw [if_neg e]
   split
   ·exact ih
   ·rw [cf_cons,if_neg e,ih]
 | x::f,y::g,hf,hg=>by
  have i1:=cf_mrg k p f (y::g) hf.tl hg
  have i2:=cf_mrg k p (x::f) g hf hg.tl
  have i3:=cf_mrg k p f g hf.tl hg.tl
  have vx:=hf.val (x.mono,x.fac) (List.mem_cons_self)
  have ff : ∀a,fld (fld a)=fld a:=fun a=>fld_id (fld_bd a)
  have nf:x.mono=p→cf (toS f) p=0:=fun e=>cf_toS_none fun t ht e2=>before_ne (hf.hd t ht) (e.trans e2.symm)
  have ng:y.mono=p→cf (toS g) p=0:=fun e=>cf_toS_none fun t ht e2=>before_ne (hg.hd t ht) (e.trans e2.symm)
  rw [mrg]
  split
  ·rename_i hb
   rw [cf_cons,cf_cons,i1]
   by_cases e:x.mono=p
   ·rw [if_pos e,if_pos e]
    have:cf (toS (y::g)) p=0:=cf_toS_none fun t ht e2=>by
     rcases List.mem_cons.1 ht with rfl | ht
     ·exact before_ne hb (e.trans e2.symm)
     ·exact before_ne (before_tr hb (hg.hd t ht)) (e.trans e2.symm)
    rw [this,Int.mul_zero,fld0,Int.add_zero,fld_id vx]
   ·rw [if_neg e,if_neg e]
  ·split
   ·rename_i hb
    have nx:y.mono=p→cf (toS (x::f)) p=0:=fun e=>cf_toS_none fun t ht e2=>by
     rcases List.mem_cons.1 ht with rfl | ht
     ·exact before_ne hb (e.trans e2.symm)
     ·exact before_ne (before_tr hb (hf.hd t ht)) (e.trans e2.symm)
    rw [cf_cons y]
    by_cases e:y.mono=p
    ·rw [if_pos e,nx e,Int.zero_add,ff]
     split
     ·rename_i hz
      rw [i2,nx e,ng e,Int.mul_zero,fld0,Int.zero_add,fld0,hz]
     ·rw [cf_cons,if_pos e]
    ·rw [if_neg e]
     split
     ·exact i2
     ·rw [cf_cons,if_neg e,i2]
   ·rename_i h1 h2
    have exy:x.mono=y.mono:=before_tot (hf.key (x.mono,x.fac) (List.mem_cons_self)).len (hg.key (y.mono,y.fac) (List.mem_cons_self)).len (by simpa using h1) (by simpa using h2)
    rw [cf_cons x,cf_cons y]
    by_cases e:x.mono=p
    ·have e':y.mono=p:=exy.symm.trans e
     rw [if_pos e,if_pos e']
     split
     ·rename_i hz
      rw [i3,nf e,ng e',Int.mul_zero,fld0,Int.zero_add,fld0,hz]
     ·rw [cf_cons,if_pos e]
    ·have e' : ¬y.mono=p:=fun h=>e (exy.trans h)
     rw [if_neg e,if_neg e']
     split
     ·exact i3
     ·rw [cf_cons,if_neg e,i3]
termination_by f g=>f.length+g.length
theorem srt_cons {x:Term} {ts:List Term} (h : ∀y∈ts,before x.mono y.mono=true) (h2:(toS ts).Pairwise fun x y=>before x.1 y.1=true):(toS (x::ts)).Pairwise fun x y=>before x.1 y.1=true:=
 List.pairwise_cons.2 ⟨fun z hz=>by
  obtain ⟨t,ht,rfl⟩:=toS_mem hz
  exact h t ht,h2⟩
theorem mrg_srt (k:Int) {M N:Int} : ∀(f g:List Term),Gok M (toS f)→Gok N (toS g)→(toS (mrg k f g)).Pairwise fun x y=>before x.1 y.1=true
 | [], [],_,_=>by rw [mrg];exact List.Pairwise.nil
 | x::f, [],hf,hg=>by
  rw [mrg]
  refine srt_cons (fun z hz=>?_) (mrg_srt k f [] hf.tl hg)
  obtain ⟨y,hy,e⟩:=mrg_mem k f [] z hz
  rw [e]
  rcases hy with hy | hy
  ·exact hf.hd y hy
  ·simp at hy
 | [],y::g,hf,hg=>by
  have ih:=mrg_srt k [] g hf hg.tl
  rw [mrg]
  split
  ·exact ih
  ·refine srt_cons (fun z hz=>?_) ih
   obtain ⟨w,hw,e⟩:=mrg_mem k [] g z hz
   rw [e]
   rcases hw with hw | hw
   ·simp at hw
   ·exact hg.hd w hw
 | x::f,y::g,hf,hg=>by
  have i1:=mrg_srt k f (y::g) hf.tl hg
  have i2:=mrg_srt k (x::f) g hf hg.tl
  have i3:=mrg_srt k f g hf.tl hg.tl
  rw [mrg]
  split
  ·rename_i hb
   refine srt_cons (fun z hz=>?_) i1
   obtain ⟨w,hw,e⟩:=mrg_mem k f (y::g) z hz
   rw [e]
   rcases hw with hw | hw
   ·exact hf.hd w hw
   ·rcases List.mem_cons.1 hw with rfl | hw
    ·exact hb
    ·exact before_tr hb (hg.hd w hw)
  ·split
   ·rename_i hb
    split
    ·exact i2
    ·refine srt_cons (fun z hz=>?_) i2
     obtain ⟨w,hw,e⟩:=mrg_mem k (x::f) g z hz
     rw [e]
     rcases hw with hw | hw
     ·rcases List.mem_cons.1 hw with rfl | hw
      ·exact hb
      ·exact before_tr hb (hf.hd w hw)
     ·exact hg.hd w hw
   ·rename_i h1 h2
    have exy:x.mono=y.mono:=before_tot (hf.key (x.mono,x.fac) (List.mem_cons_self)).len (hg.key (y.mono,y.fac) (List.mem_cons_self)).len (by simpa using h1) (by simpa using h2)
    split
    ·exact i3
    ·refine srt_cons (fun z hz=>?_) i3
     obtain ⟨w,hw,e⟩:=mrg_mem k f g z hz
     show before x.mono z.mono=true
     rw [e]
     rcases hw with hw | hw
     ·exact hf.hd w hw
     ·rw [exy];exact hg.hd w hw
termination_by f g=>f.length+g.length
theorem mrg_val (k:Int) : ∀(f g:List Term),(∀x∈f,1≤x.fac∧x.fac≤10006)→∀z∈mrg k f g,1≤z.fac∧z.fac≤10006
 | [], [],_,z,hz=>by simp [mrg] at hz
 | x::f, [],h,z,hz=>by
  rw [mrg] at hz
  rcases List.mem_cons.1 hz with rfl | hz
  ·exact h _ (by simp)
  ·exact mrg_val k f [] (fun x hx=>h x (by simp [hx])) z hz
 | [],y::g,h,z,hz=>by
  have ih:=mrg_val k [] g h z
  rw [mrg] at hz
  split at hz
  ·exact ih hz
  ·rename_i hn
   rcases List.mem_cons.1 hz with rfl | hz
   ·have:=fld_bd (k * y.fac);show 1≤fld (k * y.fac)∧fld (k * y.fac)≤10006;omega
   ·exact ih hz
 | x::f,y::g,h,z,hz=>by
  have i1:=mrg_val k f (y::g) (fun x hx=>h x (by simp [hx])) z
  have i2:=mrg_val k (x::f) g h z
  have i3:=mrg_val k f g (fun x hx=>h x (by simp [hx])) z
  rw [mrg] at hz
  split at hz
  ·rcases List.mem_cons.1 hz with rfl | hz
   ·exact h _ (by simp)
   ·exact i1 hz
  ·split at hz
   ·split at hz
    ·exact i2 hz
    ·rename_i hn
     rcases List.mem_cons.1 hz with rfl | hz
     ·have:=fld_bd (k * y.fac);show 1≤fld (k * y.fac)∧fld (k * y.fac)≤10006;omega
     ·exact i2 hz
   ·split at hz
    ·exact i3 hz
    ·rename_i hn
     rcases List.mem_cons.1 hz with rfl | hz
     ·have:=fld_bd (x.fac+fld (k * y.fac));show 1≤fld (x.fac+fld (k * y.fac))∧fld (x.fac+fld (k * y.fac))≤10006;omega
     ·exact i3 hz
termination_by f g=>f.length+g.length
theorem mrg_sok {k M:Int} {f g:List Term} (hf:Sok M (toS f)) (hg:Gok M (toS g)):Sok M (toS (mrg k f g)):=by
 refine ⟨mrg_srt k f g hf.g hg,fun x hx=>?_,fun x hx=>?_⟩
 ·obtain ⟨t,ht,rfl⟩:=toS_mem hx;obtain ⟨y,hy,e⟩:=mrg_mem k f g t ht
  show Pok M t.mono
  rw [e]
  rcases hy with hy | hy
  ·exact hf.key (y.mono,y.fac) (List.mem_map.2 ⟨y,hy,rfl⟩)
  ·exact hg.key (y.mono,y.fac) (List.mem_map.2 ⟨y,hy,rfl⟩)
 ·obtain ⟨t,ht,rfl⟩:=toS_mem hx;exact mrg_val k f g (fun x hx=>hf.val (x.mono,x.fac) (List.mem_map.2 ⟨x,hx,rfl⟩)) t ht
theorem tot_scl (k:Int) (p:Pw) : ∀{t:Sm},(t.map (·.1)).Nodup→tot_ (scl t k) p=(cf t p * k).tmod 10007
 | [],_=>by simp [scl,tot_,cf]
 | x::t,hn=>by
  simp only [List.map_cons,List.nodup_cons] at hn
  have ih:=tot_scl k p hn.2
  unfold scl at ih ⊢
  simp only [List.map_cons,tot_,cf]
  by_cases e:x.1=p
  ·rw [if_pos e,if_pos e,ih,cf_none fun z hz e2=>hn.1 (by rw [e,← e2];exact List.mem_map.2 ⟨z,hz,rfl⟩)]
   simp
  ·rw [if_neg e,if_neg e,ih,Int.zero_add]
theorem Gok.nodup {M:Int} {s:Sm} (h:Gok M s):(s.map (·.1)).Nodup:=by
 rw [List.Nodup,List.pairwise_map];exact h.srt.imp fun h=>before_ne h
theorem Gok.scl {M:Int} {s:Sm} (h:Gok M s) (k:Int) : ∀z∈scl s k,Pok M z.1:=fun z hz=>by
 obtain ⟨y,hy,e⟩:=scl_key hz
 rw [e]
 exact h.key y hy
theorem mrg_acc {k M:Int} {f g:List Term} (hf:Sok M (toS f)) (hg:Gok M (toS g)):mrg k f g=ofS (acc (toS f) (scl (toS g) k)):=by
 have e:toS (mrg k f g)=acc (toS f) (scl (toS g) k):=Sok.ext (mrg_sok hf hg) (hf.acc (hg.scl k)) fun p=>by
  rw [cf_mrg k p f g hf.g hg,cf_acc p hf (hg.scl k),tot_scl k p hg.nodup,fld_tmod,Int.mul_comm];have:=fld_eq (cf (toS f) p+fld (cf (toS g) p * k));rw [fld_eq (cf (toS f) p+fld (cf (toS g) p * k)),fld_eq (cf (toS f) p+cf (toS g) p * k),fld_eq (cf (toS g) p * k)]
  omega
 rw [← e,ofS_toS]
theorem drop_tm {f:List Term} {i:Nat} (hi:i<f.length):f.drop i=tm f i::f.drop (i+1):=by
 rw [List.drop_eq_getElem_cons hi]
 simp [tm,List.getD_eq_getElem?_getD,List.getElem?_eq_getElem hi]
theorem mrgA1 {k:Int} {f g:List Term} {i j:Nat} (hi:i<f.length) (hj:j=g.length):mrg k (f.drop i) (g.drop j)=tm f i::mrg k (f.drop (i+1)) (g.drop j):=by
 rw [drop_tm hi,List.drop_of_length_le (Nat.le_of_eq hj.symm),mrg]
theorem mrgA2 {k:Int} {f g:List Term} {i j:Nat} (hi:i<f.length) (hj:j<g.length) (hb:before (tm f i).mono (tm g j).mono=true):mrg k (f.drop i) (g.drop j)=tm f i::mrg k (f.drop (i+1)) (g.drop j):=by
 rw [drop_tm hi,drop_tm hj,mrg,if_pos hb]
theorem mrgB1 {k:Int} {f g:List Term} {i j:Nat} (hi:i=f.length) (hj:j<g.length):mrg k (f.drop i) (g.drop j)=if fld (k * (tm g j).fac)=0 then mrg k (f.drop i) (g.drop (j+1)) else ⟨(tm g j).mono,fld (k * (tm g j).fac)⟩::mrg k (f.drop i) (g.drop (j+1)):=by
 rw [drop_tm hj,List.drop_of_length_le (Nat.le_of_eq hi.symm),mrg]
theorem mrgB2 {k:Int} {f g:List Term} {i j:Nat} (hi:i<f.length) (hj:j<g.length) (h1 : ¬before (tm f i).mono (tm g j).mono=true) (h2:before (tm g j).mono (tm f i).mono=true):mrg k (f.drop i) (g.drop j)=if fld (k * (tm g j).fac)=0 then mrg k (f.drop i) (g.drop (j+1)) else ⟨(tm g j).mono,fld (k * (tm g j).fac)⟩::mrg k (f.drop i) (g.drop (j+1)):=by
 rw [drop_tm hi,drop_tm hj,mrg,if_neg h1,if_pos h2]
theorem mrgC {k:Int} {f g:List Term} {i j:Nat} (hi:i<f.length) (hj:j<g.length) (h1 : ¬before (tm f i).mono (tm g j).mono=true) (h2 : ¬before (tm g j).mono (tm f i).mono=true):mrg k (f.drop i) (g.drop j)=if fld ((tm f i).fac+fld (k * (tm g j).fac))=0 then mrg k (f.drop (i+1)) (g.drop (j+1)) else ⟨(tm f i).mono,fld ((tm f i).fac+fld (k * (tm g j).fac))⟩::mrg k (f.drop (i+1)) (g.drop (j+1)):=by
 rw [drop_tm hi,drop_tm hj,mrg,if_neg h1,if_neg h2]
theorem mrg_nn (k:Int):mrg k [] []=[]:=by rw [mrg]
def MgAt (k:Int) (f g O:List Term) (i j:Nat):Prop:=O++mrg k (f.drop i) (g.drop j)=mrg k f g
theorem MgAt.app {k:Int} {f g O:List Term} {i j i' j':Nat} (h:MgAt k f g O i j) {t:Term} (e:mrg k (f.drop i) (g.drop j)=t::mrg k (f.drop i') (g.drop j')):MgAt k f g (O++[t]) i' j':=by
 unfold MgAt at h ⊢;rw [e] at h;rw [List.append_assoc];exact h
theorem MgAt.skip {k:Int} {f g O:List Term} {i j i' j':Nat} (h:MgAt k f g O i j) (e:mrg k (f.drop i) (g.drop j)=mrg k (f.drop i') (g.drop j')):MgAt k f g O i' j':=by
 unfold MgAt at h ⊢;rw [e] at h;exact h
theorem MgAt.len {k:Int} {f g O:List Term} {i j:Nat} (h:MgAt k f g O i j):O.length≤f.length+g.length:=by
 have h1:=mrg_len k f g;have h2:=congrArg List.length h;rw [List.length_append] at h2
 omega
theorem mrg_wf {k:Int} {f g:List Term} {M:Int} (hf:Sok M (toS f)) (hg:Gok M (toS g)) (hM:M≤255):Wfs (mrg k f g):=by
 have:=(mrg_sok (k:=k) hf hg).wf hM
 rwa [ofS_toS] at this
theorem MgAt.wf {k:Int} {f g O:List Term} {i j:Nat} (h:MgAt k f g O i j) (hw:Wfs (mrg k f g)):Wfs O:=fun t ht=>hw t (by rw [← h];simp [ht])
theorem l01Add_c {B:World} {H0 H:HP} {L:List SA} {w:World} {qf:Option Addr} {cf:Nat} {f:List Term} {qg:Option Addr} {cg:Nat} {g:List Term} {k:Int} {M:Int} (hf:Terms H qf f) (hg:Terms H qg g) (hsf:Sok M (toS f)) (hsg:Gok M (toS g)) (hM:M≤255) (hk:0≤k∧k≤10006) (hl:f.length+g.length≤1000000000000) (hH:Hp B H0 H L w):Calls Try.prog 64 [.agg [.slice qf f.length cf].toArray,.agg [.slice qg g.length cg].toArray,.int .i64 k].toArray w fun e w'=>∃q c,e = .returned (.agg [.slice q (ofS (acc (toS f) (scl (toS g) k))).length c].toArray)∧Hp B H0 H (own 104 9 q (ofS (acc (toS f) (scl (toS g) k))).length c (tsC (ofS (acc (toS f) (scl (toS g) k))))::L) w':=by
 refine Jt Try.func64 rfl 149 rfl rfl [(0,.agg [.slice qf f.length cf].toArray),(1,.agg [.slice qg g.length cg].toArray),(2,.int .i64 k)] rfl hH ?_;clear hH;have hmw:=mrg_wf (k:=k) hsf hsg hM;refine Je fun _ hK1 _=>(Jb (Eb rfl rfl rfl fun g3=>(Eb rfl rfl rfl fun g4=>(JW ze74 rfl fun g6=>(Jf (Ja (hK1 (Je fun _ hK2 _=>(Jb (J.own0 104 9 (Jg (Es bz74) rfl (JW ze74 rfl fun g7=>(JF rfl rfl (by first | exact bytesC_one _ | exact intsC_one _ | exact Term.c_one _ | simp [Value.oneCell']) (by simpa [*] using sz74) (by simp [*]) At.z (Jf (Ja (hK2 ?_))))))))))))))));refine Je fun _ hK3 _=>(Jb (Jg (Jd rfl) rfl (Jg (Jd rfl) rfl (Jf (Ja (hK3 (Je fun _ hK4 _=>(Jm (JC (σ:=Option Addr × Nat × List Term × Nat × Nat) (fun ⟨q,c,O,i,j⟩=>[(8,.int .i64 (i:Int)),(9,.int .i64 (j:Int))]) (fun ⟨q,c,O,i,j⟩=>H) (fun ⟨q,c,O,i,j⟩=>obj g7 (.cells [.slice q (O).length c].toArray 74 (0,0))::own 104 9 q (O).length c (tsC (O))::obj g6 (.cells [.slice none 0 0].toArray 74 (0,0))::obj g4 (.cells [.slice qg g.length cg].toArray 74 (0,0))::obj g3 (.cells [.slice qf f.length cf].toArray 74 (0,0))::L) (fun ⟨q,c,O,i,j⟩=>i≤f.length∧j≤g.length∧MgAt k f g O i j) (fun ⟨q,c,O,i,j⟩=>f.length+g.length - (i+j)) (none,0, [],0,0) ⟨by omega,by omega,rfl⟩ ⟨rfl,⟨rfl,trivial⟩⟩ rfl rfl ?_)))))))));rintro ⟨q,c,O,i,j⟩ ⟨hi,hj,hO⟩ _ hAg0;have hOl:=hO.len;have hOw:Wfs O:=hO.wf hmw;have fb0:=fld_bd (k * (tm g j).fac);have kb0:j<g.length→ -(10006 * 10006)≤k * (tm g j).fac∧k * (tm g j).fac≤10006 * 10006:=fun h=>mul_sb (by omega) (hsg.val _ (toS_at (ts:=g) h));refine CJ.cutU (σ:=Unit) (fun (_:Unit)=>[]) (fun (_:Unit)=>H) (fun (_:Unit)=>obj g7 (.cells [.slice q (O).length c].toArray 74 (0,0))::own 104 9 q (O).length c (tsC (O))::obj g6 (.cells [.slice none 0 0].toArray 74 (0,0))::obj g4 (.cells [.slice qg g.length cg].toArray 74 (0,0))::obj g3 (.cells [.slice qf f.length cf].toArray 74 (0,0))::L) (fun (_:Unit)=>i<f.length∨j<g.length) ?_ ?_
 ·
  intro _ hMt1;refine Je fun _ hK5 _=>(Jb (Jg (Jc rfl) rfl (Jg (Jq u74 rfl sz72 rfl) rfl (Jg (Jr rfl (.s (.s (.s (.s .z)))) rfl pl72) rfl (Jg (Jn u72 rfl rfl) rfl (Jg (JM rfl rfl) rfl (Jg (Jc rfl) rfl (Eg (jd:=18) rfl (fun hg18=>?_) (fun hg18=>?_)))))))))
  ·
   try have hg18p:=of_decide_eq_true hg18
   refine JO rfl rfl rfl hg18 (JO rfl rfl rfl hg18 (JO rfl rfl rfl hg18 (JO rfl rfl rfl hg18 (JO rfl rfl rfl hg18 (Jg (JX rfl hg18 rfl) rfl (Jf (Ja (hK5 (El rfl (Jj (Ja ?_)))))))))));exact hMt1 () (.inl (by omega)) 12 rfl rfl trivial rfl rfl
  ·
   try have hg18p:=of_decide_eq_false hg18
   refine JU (Jc rfl) rfl rfl rfl hg18 (JU (Jq u74 rfl sz72 rfl) rfl rfl rfl hg18 (JU (Jr rfl (.s (.s (.s .z))) rfl pl72) rfl rfl rfl hg18 (JU (Jn u72 rfl rfl) rfl rfl rfl hg18 (JU (JM rfl rfl) rfl rfl rfl hg18 (Jg (JV rfl hg18 rfl) rfl (Jf (Ja (hK5 (Jl rfl (fun h24=>?_) (fun h24=>?_))))))))))
   ·
    refine Jj (Ja ?_);exact hMt1 () (.inr (by omega)) 12 rfl rfl trivial rfl rfl
   ·
    refine JG (Ji (Ji (JN (Ja (hK4 (Je fun _ hK6 _=>(Jb (Jg (Ju rfl At.z (by simpa [*] using ag74)) rfl (JF rfl rfl (by first | exact bytesC_one _ | exact intsC_one _ | exact Term.c_one _ | simp [Value.oneCell']) (by simpa [*] using sz74) (by simp [*]) (.s (.s .z)) (Jf (Ja (hK6 (Jp (Jk rfl (Res.agg rfl (.s (.s .z)) (by simpa [*] using ag74)) fun w hH=>?_))))))))))))));replace hH:=hH.sublist (.cons _ (.cons_cons _ (.cons _ (.cons _ (.cons _ (List.Sublist.refl _))))))
    obtain rfl:i=f.length:=by omega
    obtain rfl:j=g.length:=by omega
    unfold MgAt at hO;rw [List.drop_length,List.drop_length,mrg_nn,List.append_nil] at hO;have e9:=hO.trans (mrg_acc hsf hsg);subst e9;exact ⟨_,_,rfl,hH⟩
 ·
  rintro _ h0;refine Jm (Jm (CJ.cutU (σ:=Bool) (fun (b1:Bool)=>[(61,.bool b1)]) (fun (b1:Bool)=>H) (fun (b1:Bool)=>obj g7 (.cells [.slice q (O).length c].toArray 74 (0,0))::own 104 9 q (O).length c (tsC (O))::obj g6 (.cells [.slice none 0 0].toArray 74 (0,0))::obj g4 (.cells [.slice qg g.length cg].toArray 74 (0,0))::obj g3 (.cells [.slice qf f.length cf].toArray 74 (0,0))::L) (fun (b1:Bool)=>(b1=true→i<f.length∧mrg k (f.drop i) (g.drop j)=[tm f i]++mrg k (f.drop (i+1)) (g.drop j))∧(b1=false→j<g.length∧(i<f.length→before (tm f i).mono (tm g j).mono=false))) ?_ ?_))
  ·
   intro _ hMt2;refine Ep [[], [], [1], [2], [0,3], [4], [5], [5], [7,5], [8,5], [6,9,5], [10,5], [11], [12,11], [11], [13,14,11], [15,11], [16,11], [11], [18,11], [11], [19,20,11], [21,11], [22,11]] (by kernel_rfl) (Jx (fun gh=>Jc rfl) (Jx (fun gh=>Jq u74 rfl sz72 rfl) (Jx (fun gh=>Jr rfl (.s (.s (.s .z))) rfl pl72) (Jx (fun gh=>Jn u72 rfl rfl) (Jx (fun gh=>Ew rfl rfl) (Jx (fun gh=>Jc rfl) (EF 5 rfl (fun hg67=>?_) (fun hg67=>?_))))))))
   ·
    try have hg67p:=of_decide_eq_true hg67
    refine JZ rfl (fun gh=>rfl) hg67 (JZ rfl (fun gh=>rfl) hg67 (JZ rfl (fun gh=>rfl) hg67 (JZ rfl (fun gh=>rfl) hg67 (JZ rfl (fun gh=>rfl) hg67 (JZ rfl (fun gh=>rfl) hg67 (Eu rfl (fun gh=>rfl) (Eu rfl (fun gh=>rfl) (Eu rfl (fun gh=>rfl) (Eu rfl (fun gh=>rfl) (Eu rfl (fun gh=>rfl) (Eu rfl (fun gh=>rfl) (Eu rfl (fun gh=>rfl) (Eu rfl (fun gh=>rfl) (Eu rfl (fun gh=>rfl) ?_))))))))))))));refine Eu rfl (fun gh=>rfl) (Eu rfl (fun gh=>rfl) (Eu rfl (fun gh=>rfl) (Ec 24 1 foll0 (by kernel_rfl) rfl rfl fun gh=>(Em (us':=(62,_)::(63,_)::(64,_)::(65,_)::(66,_)::(67,_)::(68,_)::(69,_)::(70,_)::(71,_)::(72,_)::(73,_)::(74,_)::(75,_)::(76,_)::(77,_)::(78,_)::(79,_)::(80,_)::(81,_)::(82,_)::(83,_)::(84,_)::(85,_)::_) (L':=_) rfl rfl (J.gu rfl rfl rfl (Jf (Ed (JS.gn rfl rfl rfl hg67 (Jv (JX rfl hg67 rfl) rfl (Jv (Jd rfl) rfl (Ef (Ja ?_))))))))))));exact hMt2 true ⟨fun _=>⟨by omega,mrgA1 (by omega) (by omega)⟩,fun h=>(by cases h)⟩ 28 rfl rfl ⟨rfl,trivial⟩ rfl rfl
   ·
    try have hg67p:=of_decide_eq_false hg67
    refine Ea (fun gh=>Jc rfl) rfl (fun gh=>rfl) hg67 (Ea (fun gh=>Jq u74 rfl sz72 rfl) rfl (fun gh=>rfl) hg67 (Ea (fun gh=>Jr rfl (.s (.s (.s (.s .z)))) rfl pl72) rfl (fun gh=>rfl) hg67 (Ea (fun gh=>Jn u72 rfl rfl) rfl (fun gh=>rfl) hg67 (Ea (fun gh=>JM rfl rfl) rfl (fun gh=>rfl) hg67 (Ea (fun gh=>Jc rfl) rfl (fun gh=>rfl) hg67 (EF 11 rfl (fun hg73=>?_) (fun hg73=>?_)))))))
    ·
     try have hg73p:=of_decide_eq_true hg73
     refine Ea (fun gh=>Jq u74 rfl sz72 rfl) rfl (fun gh=>rfl) hg73 (Ea (fun gh=>Jr rfl (.s (.s (.s (.s .z)))) rfl pl72) rfl (fun gh=>rfl) hg73 (Ea (fun gh=>Jc rfl) rfl (fun gh=>rfl) hg73 (Ea (fun gh=>Ej u72 sz104 rfl rfl rfl (by omega) hf.sm) rfl (fun gh=>rfl) hg73 (Ea (fun gh=>Eq u104 rfl sz78 rfl (hf.sm (i:=i) (by omega))) rfl (fun gh=>rfl) hg73 (Ea (fun gh=>JH rfl (hf.mono (by omega)) (hf.sm (i:=i) (by omega)) (by rw [bytesC_length,(hf.wf _ (by omega)).mono.len];exact ag78)) rfl (fun gh=>rfl) hg73 (Ea (fun gh=>Jq u74 rfl sz72 rfl) rfl (fun gh=>rfl) hg73 (Ea (fun gh=>Jr rfl (.s (.s (.s .z))) rfl pl72) rfl (fun gh=>rfl) hg73 (Ea (fun gh=>Jc rfl) rfl (fun gh=>rfl) hg73 (Ea (fun gh=>Ej u72 sz104 rfl rfl rfl (by omega) hg.sm) rfl (fun gh=>rfl) hg73 (Ea (fun gh=>Eq u104 rfl sz78 rfl (hg.sm (i:=j) (by omega))) rfl (fun gh=>rfl) hg73 (Ea (fun gh=>JH rfl (hg.mono (by omega)) (hg.sm (i:=j) (by omega)) (by rw [bytesC_length,(hg.wf _ (by omega)).mono.len];exact ag78)) rfl (fun gh=>rfl) hg73 (Ec 24 1 foll0 (by kernel_rfl) rfl rfl fun gh=>(Em (us':=(62,_)::(63,_)::(64,_)::(65,_)::(66,_)::(67,_)::(68,_)::(69,_)::(70,_)::(71,_)::(72,_)::(73,_)::(74,_)::(75,_)::(76,_)::(77,_)::(78,_)::(79,_)::(80,_)::(81,_)::(82,_)::(83,_)::(84,_)::(85,_)::_) (L':=_) rfl rfl (EE fn86 rfl rfl hg73 rfl rfl fun w hH=>(l01Before_c (hf.wf i (by omega)).mono (hg.wf j (by omega)).mono hH).mono ?_))))))))))))));rintro _ w ⟨rfl,hH⟩;refine ⟨_,rfl,fun a hF=>JT hF hH ?_⟩;refine Jf (Ed (JS.gy (JX rfl hg73 rfl) rfl rfl rfl hg67 (Jv (JV rfl hg67 rfl) rfl (Jv (Jd rfl) rfl (Ef (Ja ?_))))));exact hMt2 (before (tm f i).mono (tm g j).mono) ⟨fun h=>⟨by omega,mrgA2 (by omega) (by omega) h⟩,fun h=>⟨by omega,fun _=>h⟩⟩ 28 rfl rfl ⟨rfl,trivial⟩ rfl rfl
    ·
     try have hg73p:=of_decide_eq_false hg73
     refine JZ rfl (fun gh=>rfl) hg73 (JZ rfl (fun gh=>rfl) hg73 (JZ rfl (fun gh=>rfl) hg73 (JZ rfl (fun gh=>rfl) hg73 (JZ rfl (fun gh=>rfl) hg73 (JZ rfl (fun gh=>rfl) hg73 (JZ rfl (fun gh=>rfl) hg73 (JZ rfl (fun gh=>rfl) hg73 (JZ rfl (fun gh=>rfl) hg73 (JZ rfl (fun gh=>rfl) hg73 (JZ rfl (fun gh=>rfl) hg73 (JZ rfl (fun gh=>rfl) hg73 (Ec 24 1 foll0 (by kernel_rfl) rfl rfl fun gh=>(Em (us':=(62,_)::(63,_)::(64,_)::(65,_)::(66,_)::(67,_)::(68,_)::(69,_)::(70,_)::(71,_)::(72,_)::(73,_)::(74,_)::(75,_)::(76,_)::(77,_)::(78,_)::(79,_)::(80,_)::(81,_)::(82,_)::(83,_)::(84,_)::(85,_)::_) (L':=_) rfl rfl (JO rfl rfl rfl hg73 ?_))))))))))))));refine Jf (Ed (JS.gy (JV rfl hg73 rfl) rfl rfl rfl hg67 (Jv (JV rfl hg67 rfl) rfl (Jv (Jd rfl) rfl (Ef (Ja ?_))))));exact hMt2 false ⟨fun h=>(by cases h),fun _=>⟨by omega,fun h=>absurd h (by omega)⟩⟩ 28 rfl rfl ⟨rfl,trivial⟩ rfl rfl
  ·
   rintro b1 ⟨h1,h2⟩;refine Eh rfl (fun h61=>?_) (fun h61=>?_)
   ·
    subst h61;have hil:=(h1 rfl).1;refine Je fun _ hK7 _=>(Ep [[], [0], [], [2], [], [3,4], [5], [6]] (by kernel_rfl) (Jx (fun gh=>Jq u74 rfl sz72 rfl) (Jx (fun gh=>Jr rfl At.z rfl pl72) (Jx (fun gh=>Jq u74 rfl sz72 rfl) (Jx (fun gh=>Jr rfl (.s (.s (.s (.s .z)))) rfl pl72) (Jx (fun gh=>Jc rfl) (Jx (fun gh=>Ej u72 sz104 rfl rfl rfl (by omega) hf.sm) (Jx (fun gh=>JH rfl (hf.cell _ (by omega)) (hf.sm (i:=i) (by omega)) (by rw [Term.c_length (hf.wf _ (by omega))];exact ag104)) (HJ.mk (fun gh=>MK.lit1T u72 ze104 sz104 (hf.wf i (by omega)) rfl) (Ec 8 3 foll0 (by kernel_rfl) rfl rfl fun gh=>(Em (us':=(89,_)::(90,_)::(91,_)::(92,_)::(93,_)::(94,_)::(95,_)::(96,_)::_) (L':=_::_) rfl rfl (J.appendOT u72 ze104 sz104 by104 rfl rfl (by simp only [List.length_cons,List.length_nil];omega) .z (.s .z) (fun _ _=>(.s .z)) rfl fun qo97 co97=>(Jg (Jq u74 rfl sz72 rfl) rfl (Et rfl rfl rfl rfl sz72 (by simp [*]) (.s .z) ?_))))))))))))));refine Jf (Ed (Ef (Ja (hK7 (Jb (Jg (Jc rfl) rfl (Jg (JA rfl rfl (by first | exact nw _ (by omega) | rfl)) rfl (Jg (Jd rfl) rfl (Jf (JE (JE (Ja (JQ .z ?_)))))))))))));exact hAg0 (qo97,co97,O++[tm f i],i+1,j) ⟨by omega,by omega,hO.app (h1 rfl).2⟩ (by show f.length+g.length - _<f.length+g.length - (i+j);omega) 16 rfl rfl ⟨rfl,⟨rfl,trivial⟩⟩ rfl rfl
   ·
    subst h61;obtain ⟨hjl,hbf⟩:=h2 rfl;have hyv:=hsg.val _ (toS_at (ts:=g) hjl);simp only at hyv;have kb:=mul_sb (b:=(tm g j).fac) (B:=10006) (show -10006≤k∧k≤10006 by omega) hyv;have fb:=fld_bd (k * (tm g j).fac);refine CJ.cutU (σ:=Bool) (fun (b2:Bool)=>[(101,.bool b2)]) (fun (b2:Bool)=>H) (fun (b2:Bool)=>obj g7 (.cells [.slice q (O).length c].toArray 74 (0,0))::own 104 9 q (O).length c (tsC (O))::obj g6 (.cells [.slice none 0 0].toArray 74 (0,0))::obj g4 (.cells [.slice qg g.length cg].toArray 74 (0,0))::obj g3 (.cells [.slice qf f.length cf].toArray 74 (0,0))::L) (fun (b2:Bool)=>(b2=true→mrg k (f.drop i) (g.drop j)=if fld (k * (tm g j).fac)=0 then mrg k (f.drop i) (g.drop (j+1)) else [⟨(tm g j).mono,fld (k * (tm g j).fac)⟩]++mrg k (f.drop i) (g.drop (j+1)))∧(b2=false→i<f.length∧mrg k (f.drop i) (g.drop j)=if fld ((tm f i).fac+fld (k * (tm g j).fac))=0 then mrg k (f.drop (i+1)) (g.drop (j+1)) else [⟨(tm f i).mono,fld ((tm f i).fac+fld (k * (tm g j).fac))⟩]++mrg k (f.drop (i+1)) (g.drop (j+1)))) ?_ ?_
    ·
     intro _ hMt3;refine Ep [[], [], [1], [2], [0,3], [4], [5], [6,5], [5], [7,8,5], [9,5], [10,5], [5], [12,5], [5], [13,14,5], [15,5], [16,5]] (by kernel_rfl) (Jx (fun gh=>Jc rfl) (Jx (fun gh=>Jq u74 rfl sz72 rfl) (Jx (fun gh=>Jr rfl (.s (.s (.s (.s .z)))) rfl pl72) (Jx (fun gh=>Jn u72 rfl rfl) (Jx (fun gh=>Ew rfl rfl) (Jx (fun gh=>Jc rfl) (EF 5 rfl (fun hg107=>?_) (fun hg107=>?_))))))))
     ·
      try have hg107p:=of_decide_eq_true hg107
      refine JZ rfl (fun gh=>rfl) hg107 (JZ rfl (fun gh=>rfl) hg107 (JZ rfl (fun gh=>rfl) hg107 (JZ rfl (fun gh=>rfl) hg107 (JZ rfl (fun gh=>rfl) hg107 (JZ rfl (fun gh=>rfl) hg107 (JZ rfl (fun gh=>rfl) hg107 (JZ rfl (fun gh=>rfl) hg107 (JZ rfl (fun gh=>rfl) hg107 (JZ rfl (fun gh=>rfl) hg107 (JZ rfl (fun gh=>rfl) hg107 (JZ rfl (fun gh=>rfl) hg107 (Ec 18 1 foll0 (by kernel_rfl) rfl rfl fun gh=>(Em (us':=(102,_)::(103,_)::(104,_)::(105,_)::(106,_)::(107,_)::(108,_)::(109,_)::(110,_)::(111,_)::(112,_)::(113,_)::(114,_)::(115,_)::(116,_)::(117,_)::(118,_)::(119,_)::_) (L':=_) rfl rfl (JO rfl rfl rfl hg107 ?_))))))))))))));refine Jf (Ed (Jv (JX rfl hg107 rfl) rfl (Jv (Jd rfl) rfl (Ef (Ja ?_)))));exact hMt3 true ⟨fun _=>mrgB1 (by omega) hjl,fun h=>(by cases h)⟩ 21 rfl rfl ⟨rfl,trivial⟩ rfl rfl
     ·
      try have hg107p:=of_decide_eq_false hg107
      refine Ea (fun gh=>Jq u74 rfl sz72 rfl) rfl (fun gh=>rfl) hg107 (Ea (fun gh=>Jr rfl (.s (.s (.s .z))) rfl pl72) rfl (fun gh=>rfl) hg107 (Ea (fun gh=>Jc rfl) rfl (fun gh=>rfl) hg107 (Ea (fun gh=>Ej u72 sz104 rfl rfl rfl (by omega) hg.sm) rfl (fun gh=>rfl) hg107 (Ea (fun gh=>Eq u104 rfl sz78 rfl (hg.sm (i:=j) (by omega))) rfl (fun gh=>rfl) hg107 (Ea (fun gh=>JH rfl (hg.mono (by omega)) (hg.sm (i:=j) (by omega)) (by rw [bytesC_length,(hg.wf _ (by omega)).mono.len];exact ag78)) rfl (fun gh=>rfl) hg107 (Ea (fun gh=>Jq u74 rfl sz72 rfl) rfl (fun gh=>rfl) hg107 (Ea (fun gh=>Jr rfl (.s (.s (.s (.s .z)))) rfl pl72) rfl (fun gh=>rfl) hg107 (Ea (fun gh=>Jc rfl) rfl (fun gh=>rfl) hg107 (Ea (fun gh=>Ej u72 sz104 rfl rfl rfl (by omega) hf.sm) rfl (fun gh=>rfl) hg107 (Ea (fun gh=>Eq u104 rfl sz78 rfl (hf.sm (i:=i) (by omega))) rfl (fun gh=>rfl) hg107 (Ea (fun gh=>JH rfl (hf.mono (by omega)) (hf.sm (i:=i) (by omega)) (by rw [bytesC_length,(hf.wf _ (by omega)).mono.len];exact ag78)) rfl (fun gh=>rfl) hg107 (Ec 18 1 foll0 (by kernel_rfl) rfl rfl fun gh=>(Em (us':=(102,_)::(103,_)::(104,_)::(105,_)::(106,_)::(107,_)::(108,_)::(109,_)::(110,_)::(111,_)::(112,_)::(113,_)::(114,_)::(115,_)::(116,_)::(117,_)::(118,_)::(119,_)::_) (L':=_) rfl rfl (EE fn86 rfl rfl hg107 rfl rfl fun w hH=>(l01Before_c (hg.wf j (by omega)).mono (hf.wf i (by omega)).mono hH).mono ?_))))))))))))));rintro _ w ⟨rfl,hH⟩;refine ⟨_,rfl,fun a hF=>JT hF hH ?_⟩;refine Jf (Ed (Jv (JV rfl hg107 rfl) rfl (Jv (Jd rfl) rfl (Ef (Ja ?_)))));exact hMt3 (before (tm g j).mono (tm f i).mono) ⟨fun h=>mrgB2 (by omega) hjl (by rw [hbf (by omega)];decide) h,fun h=>⟨by omega,mrgC (by omega) hjl (by rw [hbf (by omega)];decide) (by rw [h];decide)⟩⟩ 21 rfl rfl ⟨rfl,trivial⟩ rfl rfl
    ·
     rintro b2 ⟨h3,h4⟩;refine Eh rfl (fun h101=>?_) (fun h101=>?_)
     ·
      subst h101;have hB:=h3 rfl;refine Je fun _ hK8 _=>(Je fun _ hK9 _=>(Jb (Jg (Jc rfl) rfl (Jg (Jq u74 rfl sz72 rfl) rfl (Jg (Jr rfl (.s (.s (.s .z))) rfl pl72) rfl (Jg (Jc rfl) rfl (Jg (Ej u72 sz104 rfl rfl rfl (by omega) hg.sm) rfl (Jg (Eq u104 rfl sz2 rfl (hg.sm (i:=j) (by omega))) rfl (Jg (JL rfl (hg.fac (by omega)) pl2) rfl (Jg (ED rfl rfl (by first | exact nw _ (by omega) | rfl)) rfl (Jz fn65 rfl rfl fun w hH=>(l01Mod_c (by omega) hH).mono ?_)))))))))));rintro _ w ⟨rfl,hH⟩;refine ⟨_,rfl,fun a hF=>JT hF hH ?_⟩;refine Jg (Jd rfl) rfl (Jf (Ja (hK9 (Je fun _ hK10 _=>(Jb (Jg (Jc rfl) rfl (Jg (Ek rfl rfl) rfl (Jf (Ja (hK10 (Jl rfl (fun h132=>?_) (fun h132=>?_))))))))))))
      ·
       refine Ep [[], [0], [], [2], [], [3,4], [5], [6], [], [7,8], [9]] (by kernel_rfl) (Jx (fun gh=>Jq u74 rfl sz72 rfl) (Jx (fun gh=>Jr rfl At.z rfl pl72) (Jx (fun gh=>Jq u74 rfl sz72 rfl) (Jx (fun gh=>Jr rfl (.s (.s (.s .z))) rfl pl72) (Jx (fun gh=>Jc rfl) (Jx (fun gh=>Ej u72 sz104 rfl rfl rfl (by omega) hg.sm) (Jx (fun gh=>Eq u104 rfl sz78 rfl (hg.sm (i:=j) (by omega))) (Jx (fun gh=>JH rfl (hg.mono (by omega)) (hg.sm (i:=j) (by omega)) (by rw [bytesC_length,(hg.wf _ (by omega)).mono.len];exact ag78)) (Jx (fun gh=>Jc rfl) (Jx (fun gh=>PR.build2 rfl rfl (fun w=>bt104 _ _ (hg.wf j (by omega)).mono.len w)) (HJ.mk (fun gh=>MK.lit1T u72 ze104 sz104 (Term.wf.of (hg.wf j (by omega)).mono (by omega)) rfl) (Ec 11 3 foll0 (by kernel_rfl) rfl rfl fun gh=>(Em (us':=(133,_)::(134,_)::(135,_)::(136,_)::(137,_)::(138,_)::(139,_)::(140,_)::(141,_)::(142,_)::(143,_)::_) (L':=_::_) rfl rfl (J.appendOT u72 ze104 sz104 by104 rfl rfl (by simp only [List.length_cons,List.length_nil];omega) .z (.s .z) (fun _ _=>(.s .z)) rfl fun qo144 co144=>?_))))))))))))));refine Jg (Jq u74 rfl sz72 rfl) rfl (Et rfl rfl rfl rfl sz72 (by simp [*]) (.s .z) (Jf (Ed (Ef (Ja (hK8 (Jb (Jg (Jc rfl) rfl (Jg (JA rfl rfl (by first | exact nw _ (by omega) | rfl)) rfl (Jg (Jd rfl) rfl (Jf (JE (JE (Ja (JQ .z ?_)))))))))))))));exact hAg0 (qo144,co144,O++[⟨(tm g j).mono,fld (k * (tm g j).fac)⟩],i,j+1) ⟨by omega,by omega,hO.app (hB.trans (if_neg h132))⟩ (by show f.length+g.length - _<f.length+g.length - (i+j);omega) 32 rfl rfl ⟨rfl,⟨rfl,trivial⟩⟩ rfl rfl
      ·
       refine Jj (Ja (hK8 (Jb (Jg (Jc rfl) rfl (Jg (JA rfl rfl (by first | exact nw _ (by omega) | rfl)) rfl (Jg (Jd rfl) rfl (Jf (JE (JE (Ja ?_))))))))));exact hAg0 (q,c,O,i,j+1) ⟨by omega,by omega,hO.skip (hB.trans (if_pos (Decidable.not_not.1 h132)))⟩ (by show f.length+g.length - _<f.length+g.length - (i+j);omega) 19 rfl rfl ⟨rfl,⟨rfl,trivial⟩⟩ rfl rfl
     ·
      subst h101;obtain ⟨hil,hC⟩:=h4 rfl;have hxv:=hsf.val _ (toS_at (ts:=f) hil);simp only at hxv;have fb2:=fld_bd ((tm f i).fac+fld (k * (tm g j).fac));refine Je fun _ hK11 _=>(Je fun _ hK12 _=>(Ep [[], [0], [], [1,2], [3], [4], [], [], [7], [], [8,9], [10], [11], [6,12], [13]] (by kernel_rfl) (Jx (fun gh=>Jq u74 rfl sz72 rfl) (Jx (fun gh=>Jr rfl (.s (.s (.s (.s .z)))) rfl pl72) (Jx (fun gh=>Jc rfl) (Jx (fun gh=>Ej u72 sz104 rfl rfl rfl (by omega) hf.sm) (Jx (fun gh=>Eq u104 rfl sz2 rfl (hf.sm (i:=i) (by omega))) (Jx (fun gh=>JL rfl (hf.fac (by omega)) pl2) (Jx (fun gh=>Jc rfl) (Jx (fun gh=>Jq u74 rfl sz72 rfl) (Jx (fun gh=>Jr rfl (.s (.s (.s .z))) rfl pl72) (Jx (fun gh=>Jc rfl) (Jx (fun gh=>Ej u72 sz104 rfl rfl rfl (by omega) hg.sm) (Jx (fun gh=>Eq u104 rfl sz2 rfl (hg.sm (i:=j) (by omega))) ?_))))))))))))));refine Jx (fun gh=>JL rfl (hg.fac (by omega)) pl2) (Jx (fun gh=>ED rfl rfl (by first | exact nw _ (by omega) | rfl)) (HJ.call fn65 (fun gh=>rfl) (fun w X hH=>l01Mod_c (by omega) hH) (Ec 15 2 foll0 (by kernel_rfl) rfl rfl fun gh=>(Em (us':=(25,_)::(26,_)::(27,_)::(28,_)::(29,_)::(30,_)::(31,_)::(32,_)::(33,_)::(34,_)::(35,_)::(36,_)::(37,_)::(38,_)::(39,_)::_) (L':=_) rfl rfl (Jg (JA rfl rfl (by first | exact nw _ (by omega) | rfl)) rfl (Jz fn65 rfl rfl fun w hH=>(l01Mod_c (by omega) hH).mono ?_))))));rintro _ w ⟨rfl,hH⟩;refine ⟨_,rfl,fun a hF=>JT hF hH ?_⟩;refine Jf (Ed (Jv (Jd rfl) rfl (Ef (Ja (hK12 (Je fun _ hK13 _=>(Jb (Jg (Jc rfl) rfl (Jg (Ek rfl rfl) rfl (Jf (Ja (hK13 (Jl rfl (fun h43=>?_) (fun h43=>?_))))))))))))))
      ·
       refine Ep [[], [0], [], [2], [], [3,4], [5], [6], [], [7,8], [9]] (by kernel_rfl) (Jx (fun gh=>Jq u74 rfl sz72 rfl) (Jx (fun gh=>Jr rfl At.z rfl pl72) (Jx (fun gh=>Jq u74 rfl sz72 rfl) (Jx (fun gh=>Jr rfl (.s (.s (.s (.s .z)))) rfl pl72) (Jx (fun gh=>Jc rfl) (Jx (fun gh=>Ej u72 sz104 rfl rfl rfl (by omega) hf.sm) (Jx (fun gh=>Eq u104 rfl sz78 rfl (hf.sm (i:=i) (by omega))) (Jx (fun gh=>JH rfl (hf.mono (by omega)) (hf.sm (i:=i) (by omega)) (by rw [bytesC_length,(hf.wf _ (by omega)).mono.len];exact ag78)) (Jx (fun gh=>Jc rfl) (Jx (fun gh=>PR.build2 rfl rfl (fun w=>bt104 _ _ (hf.wf i (by omega)).mono.len w)) (HJ.mk (fun gh=>MK.lit1T u72 ze104 sz104 (Term.wf.of (hf.wf i (by omega)).mono (by omega)) rfl) (Ec 11 3 foll0 (by kernel_rfl) rfl rfl fun gh=>(Em (us':=(44,_)::(45,_)::(46,_)::(47,_)::(48,_)::(49,_)::(50,_)::(51,_)::(52,_)::(53,_)::(54,_)::_) (L':=_::_) rfl rfl (J.appendOT u72 ze104 sz104 by104 rfl rfl (by simp only [List.length_cons,List.length_nil];omega) .z (.s .z) (fun _ _=>(.s .z)) rfl fun qo55 co55=>?_))))))))))))));refine Jg (Jq u74 rfl sz72 rfl) rfl (Et rfl rfl rfl rfl sz72 (by simp [*]) (.s .z) (Jf (Ed (Ef (Ja (hK11 (Je fun _ hK14 _=>(Jb (Jg (Jc rfl) rfl (Jg (JA rfl rfl (by first | exact nw _ (by omega) | rfl)) rfl (Jg (Jd rfl) rfl (Jf (Ja (hK14 (Jb (Jg (Jc rfl) rfl ?_))))))))))))))));refine Jg (JA rfl rfl (by first | exact nw _ (by omega) | rfl)) rfl (Jg (Jd rfl) rfl (Jf (JE (JE (Ja (JQ .z ?_))))));exact hAg0 (qo55,co55,O++[⟨(tm f i).mono,fld ((tm f i).fac+fld (k * (tm g j).fac))⟩],i+1,j+1) ⟨by omega,by omega,hO.app (hC.trans (if_neg h43))⟩ (by show f.length+g.length - _<f.length+g.length - (i+j);omega) 43 rfl rfl ⟨rfl,⟨rfl,trivial⟩⟩ rfl rfl
      ·
       refine Jj (Ja (hK11 (Je fun _ hK15 _=>(Jb (Jg (Jc rfl) rfl (Jg (JA rfl rfl (by first | exact nw _ (by omega) | rfl)) rfl (Jg (Jd rfl) rfl (Jf (Ja (hK15 (Jb (Jg (Jc rfl) rfl (Jg (JA rfl rfl (by first | exact nw _ (by omega) | rfl)) rfl (Jg (Jd rfl) rfl (Jf (JE ?_))))))))))))))));refine JE (Ja ?_);exact hAg0 (q,c,O,i+1,j+1) ⟨by omega,by omega,hO.skip (hC.trans (if_pos (Decidable.not_not.1 h43)))⟩ (by show f.length+g.length - _<f.length+g.length - (i+j);omega) 30 rfl rfl ⟨rfl,⟨rfl,trivial⟩⟩ rfl rfl
theorem fn64:Fn Try.prog 64:=⟨_,Try.func64,by kernel_rfl,rfl⟩
theorem fn87:Fn Try.prog 87:=⟨_,Try.func87,by kernel_rfl,rfl⟩
theorem bd74_0 : ∀(q0:Option Addr) (m0 c0:Nat) w,(Instr.build 74 #[(0,.slice q0 m0 c0)]).run Try.prog w = .ok (.agg [.slice q0 m0 c0].toArray) w:=fun q0 m0 c0 _=>by kernel_rfl
theorem addS_len (s:Sm) (p:Pw) (k:Int):(addS s p k).length≤s.length+1:=by
 induction s with
 | nil=>simp only [addS];split <;> simp
 | cons x s ih=>
  simp only [addS]
  split
  ·split
   ·simp;omega
   ·simp
  ·split
   ·split <;> simp
   ·simp only [List.length_cons];omega
theorem acc_len (l:Sm) : ∀s:Sm,(acc s l).length≤s.length+l.length:=by
 induction l with
 | nil=>intro s;simp [acc]
 | cons x l ih=>
  intro s;rw [acc_cons];have h1:=ih (addS s x.1 x.2);have h2:=addS_len s x.1 x.2;simp only [List.length_cons]
  omega
theorem mul1_len (ds:Pw) (x:Pw × Int) (t:Sm):(mul1 ds x t).length≤t.length:=by
 rw [mul1_raw,List.length_map];exact raw1_len ds x t
theorem mulL_len (ds:Pw) (t:Sm) : ∀s:Sm,(mulL ds s t).length≤s.length * t.length
 | []=>by simp [mulL]
 | x::s=>by
  have h1:=mulL_len ds t s
  have h2:=mul1_len ds x t
  unfold mulL at h1 ⊢
  rw [List.flatMap_cons,List.length_append,List.length_cons,Nat.succ_mul]
  omega
theorem gmulL {ds:Pw} {s t:Sm} {M N:Int} (hs:Gok M s) (ht:Gok N t) : ∀z∈mulL ds s t,Pok (M+N) z.1:=fun z hz=>by
 obtain ⟨x,hx,y,hy,_,e⟩:=mulL_mem hz
 rw [e]
 exact (hs.key x hx).add (ht.key y hy)
theorem mulL_one (ds:Pw) {ts:List Term} {k:Nat} (hk:k<ts.length) (t:Sm):mulL ds (toS (ts.take (k+1))) t=mulL ds (toS (ts.take k)) t++mul1 ds ((tm ts k).mono,(tm ts k).fac) t:=by
 rw [toS_take hk];unfold mulL;rw [List.flatMap_append]
 simp
theorem acc_mulL {ds:Pw} {ts:List Term} {k:Nat} (hk:k<ts.length) (t:Sm):acc (acc [] (mulL ds (toS (ts.take k)) t)) (scl (shf ds ((tm ts k).mono,(tm ts k).fac) t) 1)=acc [] (mulL ds (toS (ts.take (k+1))) t):=by
 rw [acc_shf,mulL_one ds hk,acc_app]
theorem mulL_kex {ds:Pw} {s t:Sm} {M N:Int} (hs:Gok M s) (ht:Gok N t) (h1:KEx ds s) (h2:KEx ds t):KEx ds (mulL ds s t):=fun z hz=>by
 obtain ⟨x,hx,h⟩:=List.mem_flatMap.1 hz
 exact mul1_kex (hs.key x hx) ht (h1 x hx) h2 z h
theorem KEx.nil {ds:Pw}:KEx ds []:=fun x hx=>by simp at hx
theorem times_kex {ds:Pw} {s t:Sm} {M N:Int} (hs:Gok M s) (ht:Gok N t) (h1:KEx ds s) (h2:KEx ds t):KEx ds (timesS ds s t):=acc_kex KEx.nil (mulL_kex hs ht h1 h2)
theorem gtimes {ds:Pw} {s t:Sm} {M N:Int} (hs:Gok M s) (ht:Gok N t):Sok (M+N) (timesS ds s t):=Sok.nil.acc (gmulL hs ht)
theorem times_lens {ds:Pw} {x:Pw × Int} {f g:List Term} {k:Nat} (hk:k<f.length) (hl:f.length * g.length≤1000000000000):(ofS (acc [] (mulL ds (toS (f.take k)) (toS g)))).length+(ofS (shf ds x (toS g))).length≤1000000000000:=by
 have h1:=acc_len (mulL ds (toS (f.take k)) (toS g)) [];have h2:=mulL_len ds (toS g) (toS (f.take k));have h3:=shf_len ds x (toS g);have h4:(k+1) * g.length≤f.length * g.length:=Nat.mul_le_mul_right _ hk;rw [toS_len,toS_len,List.length_take_of_le (by omega)] at h2;rw [toS_len] at h3;rw [ofS_len,ofS_len];rw [Nat.succ_mul] at h4;simp only [List.length_nil] at h1
 omega
theorem times_len (ds:Pw) (s t:Sm):(timesS ds s t).length≤s.length * t.length:=by
 have h1:=acc_len (mulL ds s t) [];have h2:=mulL_len ds t s;unfold timesS;simp only [List.length_nil] at h1
 omega
theorem l01Single_c {B:World} {H0 H:HP} {L:List SA} {w:World} {m:List Int} {x:Int} (hm:Mono m) (hx : -1000000000000≤x∧x≤1000000000000) (hH:Hp B H0 H L w):Calls Try.prog 39 [.agg (bytesC m).toArray,.int .i64 x].toArray w fun e w'=>∃q c,e = .returned (.agg [.slice q (ofS (addS [] m x)).length c].toArray)∧Hp B H0 H (own 104 9 q (ofS (addS [] m x)).length c (tsC (ofS (addS [] m x)))::L) w':=by
 refine Jt Try.func39 rfl 15 rfl rfl [(0,.agg (bytesC m).toArray),(1,.int .i64 x)] rfl hH ?_;have hml:=hm.len;clear hH;have fb:=fld_bd x;refine Je fun _ hK1 _=>(Jb (Eb rfl rfl rfl fun g2=>(JW ze74 rfl fun g4=>(Jf (Ja (hK1 (Je fun _ hK2 _=>(Je fun _ hK3 _=>(Jb (Jg (Jc rfl) rfl (Jz fn65 rfl rfl fun w hH=>(l01Mod_c (by omega) hH).mono ?_)))))))))));rintro _ w ⟨rfl,hH⟩;refine ⟨_,rfl,fun a hF=>JT hF hH ?_⟩;refine Jg (Ew rfl rfl) rfl (Jf (Ja (hK3 (Jl rfl (fun h7=>?_) (fun h7=>?_)))))
 ·
  refine Je fun _ hK4 _=>(Jb (J.own0 104 9 (Jg (Es bz74) rfl (JF rfl rfl (by first | exact bytesC_one _ | exact intsC_one _ | exact Term.c_one _ | simp [Value.oneCell']) (by simpa [*] using sz74) (by simp [*]) (.s .z) (Jf (Ja (hK4 (Jp (Jh (Jk rfl (Res.agg rfl (.s .z) (by simpa [*] using ag74)) fun w hH=>?_))))))))));replace hH:=hH.sublist (.cons_cons _ (.cons _ (.cons _ (List.Sublist.refl _))))
  have e9:ofS (addS [] m x)=[]:=by simp only [addS];rw [if_pos h7];rfl
  rw [e9];exact ⟨_,_,rfl,hH⟩
 ·
  refine Jj (Ja (hK2 (Je fun _ hK5 _=>(Ep [[], [], [1]] (by kernel_rfl) (Jx (fun gh=>Ju rfl (.s .z) (by simpa [*] using ag78)) (Jx (fun gh=>Jc rfl) (HJ.call fn65 (fun gh=>rfl) (fun w X hH=>l01Mod_c (by omega) hH) (Ec 3 4 foll0 (by kernel_rfl) rfl rfl fun gh=>(Em (us':=(9,_)::(10,_)::(11,_)::_) (L':=_) rfl rfl (Jg (PR.build2 rfl rfl (fun w=>bt104 _ _ hm.len w)) rfl (J.mk (MK.lit1T u72 ze104 sz104 (Term.wf.of hm (by omega)) rfl) rfl fun qo13 co13=>(Jg (PR.build1 rfl (fun w=>bd74_0 _ _ _ w)) rfl (JF rfl rfl (by first | exact bytesC_one _ | exact intsC_one _ | exact Term.c_one _ | simp [Value.oneCell']) (by simpa [*] using sz74) (by simp [*]) (.s .z) (Jf (Ed ?_)))))))))))))));refine Ef (Ja (hK5 (Jp (Jk rfl (Res.agg rfl (.s .z) (by simpa [*] using ag74)) fun w hH=>?_))));replace hH:=hH.sublist (.cons_cons _ (.cons _ (.cons _ (List.Sublist.refl _))))
  have e9:ofS (addS [] m x)=[⟨m,fld x⟩]:=by simp only [addS];rw [if_neg h7];rfl
  rw [e9];exact ⟨_,_,rfl,hH⟩
theorem l01Times_c {B:World} {H0 H:HP} {L:List SA} {w:World} {qds:Option Addr} {cds:Nat} {ds:List Int} {qf:Option Addr} {cf:Nat} {f:List Term} {qg:Option Addr} {cg:Nat} {g:List Term} {M N:Int} (hds:Ints H qds ds) (hf:Terms H qf f) (hg:Terms H qg g) (hn:ds.length≤8) (hd : ∀j,0≤ds.getD j 0∧ds.getD j 0≤12) (h1:KEx ds (toS f)) (h2:KEx ds (toS g)) (hp:Gok M (toS f)) (hq:Gok N (toS g)) (hM:M+N≤255) (hl:f.length * g.length≤1000000000000) (hlf:f.length≤1000000000000) (hH:Hp B H0 H L w):Calls Try.prog 63 [.slice qds ds.length cds,.agg [.slice qf f.length cf].toArray,.agg [.slice qg g.length cg].toArray].toArray w fun e w'=>∃q c,e = .returned (.agg [.slice q (ofS (timesS ds (toS f) (toS g))).length c].toArray)∧Hp B H0 H (own 104 9 q (ofS (timesS ds (toS f) (toS g))).length c (tsC (ofS (timesS ds (toS f) (toS g))))::L) w':=by
 refine Jt Try.func63 rfl 28 rfl rfl [(0,.slice qds ds.length cds),(1,.agg [.slice qf f.length cf].toArray),(2,.agg [.slice qg g.length cg].toArray)] rfl hH ?_;clear hH;have hw9 : ∀k,Wfs (ofS (acc [] (mulL ds (toS (f.take k)) (toS g)))):=fun k=>(Sok.nil.acc (gmulL (hp.take k) hq)).wf hM;refine Je fun _ hK1 _=>(Jb (Eb rfl rfl rfl fun g4=>(Eb rfl rfl rfl fun g5=>(JW ze74 rfl fun g6=>(Jf (Ja (hK1 (Je fun _ hK2 _=>(Jb (J.own0 104 9 (Jg (Es bz74) rfl (JW ze74 rfl fun g7=>(JF rfl rfl (by first | exact bytesC_one _ | exact intsC_one _ | exact Term.c_one _ | simp [Value.oneCell']) (by simpa [*] using sz74) (by simp [*]) At.z (Jf (Ja (hK2 ?_))))))))))))))));refine Je fun _ hK3 _=>(Je fun _ hK4 _=>(Jb (Jg (Jd rfl) rfl (Jf (Ja (hK4 (Jm (JC (σ:=Option Addr × Nat × Nat) (fun ⟨q,c,k⟩=>[(8,.int .i64 (k:Int))]) (fun ⟨q,c,k⟩=>H) (fun ⟨q,c,k⟩=>obj g7 (.cells [.slice q (ofS (acc [] (mulL ds (toS (f.take k)) (toS g)))).length c].toArray 74 (0,0))::own 104 9 q (ofS (acc [] (mulL ds (toS (f.take k)) (toS g)))).length c (tsC (ofS (acc [] (mulL ds (toS (f.take k)) (toS g)))))::obj g6 (.cells [.slice none 0 0].toArray 74 (0,0))::obj g5 (.cells [.slice qg g.length cg].toArray 74 (0,0))::obj g4 (.cells [.slice qf f.length cf].toArray 74 (0,0))::L) (fun ⟨q,c,k⟩=>k≤f.length) (fun ⟨q,c,k⟩=>f.length - k) (none,0,0) (by show 0≤f.length;omega) ⟨rfl,trivial⟩ rfl rfl ?_))))))));rintro ⟨q,c,k⟩ hI _ hAg0;have hk:=hI;have wfO:=hw9 k;refine Je fun _ hK5 _=>(Je fun _ hK6 _=>(Jb (Jg (Jc rfl) rfl (Jg (Jq u74 rfl sz72 rfl) rfl (Jg (Jr rfl (.s (.s (.s (.s .z)))) rfl pl72) rfl (Jg (Jn u72 rfl rfl) rfl (Jg (JM rfl rfl) rfl (Jf (Ja (hK6 (Jl rfl (fun hc14=>?_) (fun hc14=>?_))))))))))))
 ·
  refine Jj (Ja (hK5 (Je fun _ hK7 _=>(Jm (Ep [[], [], [], [2], [], [3,4], [5], [], [1,6,7]] (by kernel_rfl) (Jx (fun gh=>Ju rfl At.z (by simpa [*] using ag74)) (Jx (fun gh=>Jc rfl) (Jx (fun gh=>Jq u74 rfl sz72 rfl) (Jx (fun gh=>Jr rfl (.s (.s (.s (.s .z)))) rfl pl72) (Jx (fun gh=>Jc rfl) (Jx (fun gh=>Ej u72 sz104 rfl rfl rfl (by omega) hf.sm) (Jx (fun gh=>JH rfl (hf.cell _ (by omega)) (hf.sm (i:=k) (by omega)) (by rw [Term.c_length (hf.wf _ (by omega))];exact ag104)) (Jx (fun gh=>Ju rfl (.s (.s (.s .z))) (by simpa [*] using ag74)) (HJ.callN fn87 (fun gh=>rfl) (fun w X hH=>l01Shift_c hds (hf.wf k (by omega)) hg hn hd (h1 _ (toS_at (by omega))) h2 (hp.key _ (toS_at (by omega))) hq hM (hp.val _ (toS_at (by omega))) (Nat.le_trans (Nat.le_mul_of_pos_left _ (by omega)) hl) hH) (Ec 9 2 foll0 (by kernel_rfl) rfl rfl fun gh=>?_)))))))))))))));refine Em (us':=(17,_)::(18,_)::(19,_)::(20,_)::(21,_)::(22,_)::(23,_)::(24,_)::(25,_)::_) (L':=_::_) rfl rfl (Jz fn64 rfl rfl fun w hH=>hH.lend (.s (.s .z)) fun Hl1 hle1 hA1 hB1 hH=>hH.lend .z fun Hl2 hle2 hA2 hB2 hH=>(l01Add_c ((own_terms wfO hA1).le hle2) (own_terms (Gok.wf (shf_g (hp.key _ (toS_at (by omega))) hq) hM) hA2) (by rw [toS_ofS];exact Sok.nil.acc (gmulL (hp.take k) hq)) (by rw [toS_ofS];exact shf_g (hp.key _ (toS_at (by omega))) hq) hM (by omega) (times_lens (by omega) hl) hH).mono ?_);rintro _ w ⟨qo26,co26,rfl,hH⟩;replace hH:=hB2 _ _ hH;replace hH:=hB1 _ _ hH;refine ⟨_,rfl,fun a hF=>JT hF hH ?_⟩;refine JF rfl rfl (by first | exact bytesC_one _ | exact intsC_one _ | exact Term.c_one _ | simp [Value.oneCell']) (by simpa [*] using sz74) (by simp [*]) (.s (.s (.s .z))) (Jf (Ed (Ef (JE (Ja (hK7 (Jb (Jg (Jc rfl) rfl (Jg (JA rfl rfl (by first | exact nw _ (by omega) | rfl)) rfl (Jg (Jd rfl) rfl (Jf (Ja (JQ .z (JQ .z (Jw (.s (.s (.s (.s .z)))) ?_)))))))))))))));refine Jw (.s (.s (.s (.s .z)))) (Jw (.s (.s (.s (.s .z)))) (Jw (.s (.s (.s .z))) (Jw (.s (.s (.s (.s .z)))) ?_)));exact hAg0 (qo26,co26,k+1) (by show k+1≤f.length;omega) (by show f.length - (k+1)<f.length - k;omega) 19 rfl rfl ⟨rfl,trivial⟩ rfl (by simp only [toS_ofS];rw [acc_mulL (by omega)])
 ·
  refine JG (Ji (Ji (JN (Ja (hK3 (Je fun _ hK8 _=>(Jb (Jg (Ju rfl At.z (by simpa [*] using ag74)) rfl (JF rfl rfl (by first | exact bytesC_one _ | exact intsC_one _ | exact Term.c_one _ | simp [Value.oneCell']) (by simpa [*] using sz74) (by simp [*]) (.s (.s .z)) (Jf (Ja (hK8 (Jp (Jk rfl (Res.agg rfl (.s (.s .z)) (by simpa [*] using ag74)) fun w hH=>?_))))))))))))));replace hH:=hH.sublist (.cons _ (.cons_cons _ (.cons _ (.cons _ (.cons _ (List.Sublist.refl _))))))
  obtain rfl:k=f.length:=by omega
  rw [List.take_length] at hH ⊢;exact ⟨_,_,rfl,hH⟩
theorem fn39:Fn Try.prog 39:=⟨_,Try.func39,by kernel_rfl,rfl⟩
theorem fn63:Fn Try.prog 63:=⟨_,Try.func63,by kernel_rfl,rfl⟩
def frK (p:Pw) (k j:Nat):Pw:=(List.range 8).map fun t=>if t<j∧k≤t then 0 else p.getD t 0
def bkK (p:Pw) (k j:Nat):Pw:=(List.range 8).map fun t=>if t<j∧t≤k then 0 else p.getD t 0
@[simp] theorem frK_len (p:Pw) (k j:Nat):(frK p k j).length=8:=by simp [frK]
@[simp] theorem bkK_len (p:Pw) (k j:Nat):(bkK p k j).length=8:=by simp [bkK]
theorem frK_get {p:Pw} {k j t:Nat} (h:t<8):(frK p k j).getD t 0=if t<j∧k≤t then 0 else p.getD t 0:=by simp [frK,List.getD_eq_getElem?_getD,h]
theorem bkK_get {p:Pw} {k j t:Nat} (h:t<8):(bkK p k j).getD t 0=if t<j∧t≤k then 0 else p.getD t 0:=by simp [bkK,List.getD_eq_getElem?_getD,h]
theorem frK_zero {p:Pw} (hp:p.length=8) (k:Nat):frK p k 0=p:=list8 (by simp) hp fun t ht=>by rw [frK_get ht,if_neg (by omega)]
theorem bkK_zero {p:Pw} (hp:p.length=8) (k:Nat):bkK p k 0=p:=list8 (by simp) hp fun t ht=>by rw [bkK_get ht,if_neg (by omega)]
theorem frK_end (p:Pw) (k:Nat):frK p k 8=aheadP p k:=list8 (by simp) (by simp) fun t ht=>by
 rw [frK_get ht,aheadP_get ht]
 by_cases h:t<k
 ·rw [if_neg (by omega),if_pos h]
 ·rw [if_pos (by omega),if_neg h]
theorem bkK_end (p:Pw) (k:Nat):bkK p k 8=behP p (k+1):=list8 (by simp) (by simp) fun t ht=>by
 rw [bkK_get ht,behP_get ht]
 by_cases h:t<k+1
 ·rw [if_pos (by omega),if_pos h]
 ·rw [if_neg (by omega),if_neg h]
theorem frK_yes {p:Pw} {k j:Nat} (hj:j<8) (h:k≤j):(frK p k j).set j 0=frK p k (j+1):=list8 (by simp) (by simp) fun t ht=>by
 rw [getD_set8,frK_get ht,frK_get ht]
 by_cases e:j=t
 ·subst e
  rw [if_pos ⟨rfl,by simpa using hj⟩,if_pos (by omega)]
 ·rw [if_neg fun h=>e h.1]
  by_cases h2:t<j∧k≤t
  ·rw [if_pos h2,if_pos (by omega)]
  ·rw [if_neg h2,if_neg (by omega)]
theorem frK_no {p:Pw} {k j:Nat} (h : ¬k≤j):frK p k j=frK p k (j+1):=list8 (by simp) (by simp) fun t ht=>by
 rw [frK_get ht,frK_get ht,if_neg (by omega),if_neg (by omega)]
theorem bkK_yes {p:Pw} {k j:Nat} (hj:j<8) (h:j≤k):(bkK p k j).set j 0=bkK p k (j+1):=list8 (by simp) (by simp) fun t ht=>by
 rw [getD_set8,bkK_get ht,bkK_get ht]
 by_cases e:j=t
 ·subst e
  rw [if_pos ⟨rfl,by simpa using hj⟩,if_pos (by omega)]
 ·rw [if_neg fun h=>e h.1]
  by_cases h2:t<j∧t≤k
  ·rw [if_pos h2,if_pos (by omega)]
  ·rw [if_neg h2,if_neg (by omega)]
theorem bkK_no {p:Pw} {k j:Nat} (h : ¬j≤k):bkK p k j=bkK p k (j+1):=list8 (by simp) (by simp) fun t ht=>by
 rw [bkK_get ht,bkK_get ht]
 by_cases h2:t<j∧t≤k
 ·rw [if_pos h2,if_pos (by omega)]
 ·rw [if_neg h2,if_neg (by omega)]
theorem aheadP_pok {M:Int} {p:Pw} (h:Pok M p) (k:Nat):Pok M (aheadP p k):=⟨by simp,fun j=>by
 have:=h.bd j
 rcases Nat.lt_or_ge j 8 with hj | hj
 ·rw [aheadP_get hj]
  split <;> omega
 ·rw [getD_ge (by simp;omega)]
  omega⟩
theorem Pok.mn {M:Int} {p:Pw} (h:Pok M p) (hM:M≤255):Mono p:=⟨h.len,(h.mono hM).bd⟩
theorem wsum_ahead {ds p:Pw} {k:Nat} : ∀{n:Nat},n≤8→wsum ds (aheadP p k) n=wsum ds p (min n k)
 | 0,_=>by simp [wsum]
 | n+1,h=>by
  simp only [wsum]
  rw [wsum_ahead (by omega),aheadP_get (by omega)]
  by_cases hk:n<k
  ·rw [if_pos hk,Nat.min_eq_left (by omega),Nat.min_eq_left (by omega)]
   rfl
  ·rw [if_neg hk,Nat.min_eq_right (by omega),Nat.min_eq_right (by omega),Int.mul_zero,Int.add_zero]
theorem dsg_wsum {ds p:Pw} (hd : ∀j,0≤ds.getD j 0∧ds.getD j 0≤12) (hp : ∀j,0≤p.getD j 0) : ∀{k:Nat},k≤ds.length→dsg ds p k=if wsum ds p k % 2=1 then -1 else 1
 | 0,_=>by simp [dsg,wsum]
 | k+1,h=>by
  have ih:=dsg_wsum hd hp (k:=k) (by omega)
  have e1:=Int.tmod_eq_emod_of_nonneg (b:=2) (hd k).1
  have e2:=Int.tmod_eq_emod_of_nonneg (b:=2) (hp k)
  have em:=Int.mul_emod (ds.getD k 0) (p.getD k 0) 2
  have e:wsum ds p (k+1)=wsum ds p k+ds.getD k 0 * p.getD k 0:=rfl
  by_cases hc:(ds.getD k 0).tmod 2=1∧(p.getD k 0).tmod 2=1
  ·rw [show ds.getD k 0 % 2=1 by omega,show p.getD k 0 % 2=1 by omega] at em
   rw [← dsg_yes (by omega) hc.1 hc.2,ih]
   by_cases c:wsum ds p k % 2=1
   ·rw [if_pos c,if_neg (by omega)];rfl
   ·rw [if_neg c,if_pos (by omega)];rfl
  ·have em2:(ds.getD k 0 * p.getD k 0) % 2=0:=by
    rcases (show ds.getD k 0 % 2=0∨ds.getD k 0 % 2=1 by omega) with a | a <;> rcases (show p.getD k 0 % 2=0∨p.getD k 0 % 2=1 by omega) with b | b <;> rw [a,b] at em <;> omega
   rw [← dsg_no (fun h=>hc h.2),ih]
   by_cases c:wsum ds p k % 2=1
   ·rw [if_pos c,if_pos (by omega)]
   ·rw [if_neg c,if_neg (by omega)]
theorem wsum_nn {ds p:Pw} (hd : ∀j,0≤ds.getD j 0∧ds.getD j 0≤12) (hp : ∀j,0≤p.getD j 0) : ∀k,0≤wsum ds p k
 | 0=>by simp [wsum]
 | k+1=>by
  have h1:=wsum_nn hd hp k
  have h2:=Int.mul_nonneg (hd k).1 (hp k)
  simp only [wsum]
  omega
theorem sg_neg {ds p:Pw} {k:Nat} (hn:ds.length≤8) (hd : ∀j,0≤ds.getD j 0∧ds.getD j 0≤12) (hp : ∀j,0≤p.getD j 0) (hk:k<ds.length) (h:(wsum ds (aheadP p k) ds.length).tmod 2≠0):dsg ds p k = -1:=by
 rw [wsum_ahead hn,Nat.min_eq_right (by omega)] at h;rw [dsg_wsum hd hp (by omega),if_pos];have:=Int.tmod_eq_emod_of_nonneg (b:=2) (show 0≤wsum ds p k from wsum_nn hd hp k)
 omega
theorem sg_pos {ds p:Pw} {k:Nat} (hn:ds.length≤8) (hd : ∀j,0≤ds.getD j 0∧ds.getD j 0≤12) (hp : ∀j,0≤p.getD j 0) (hk:k<ds.length) (h : ¬(wsum ds (aheadP p k) ds.length).tmod 2≠0):dsg ds p k=1:=by
 rw [wsum_ahead hn,Nat.min_eq_right (by omega)] at h;rw [dsg_wsum hd hp (by omega),if_neg];have:=Int.tmod_eq_emod_of_nonneg (b:=2) (show 0≤wsum ds p k from wsum_nn hd hp k)
 omega
theorem addS_one (p:Pw):addS [] p 1=[(p,1)]:=by
 simp only [addS];rw [fld_id (by omega),if_neg (by omega)]
theorem one_wf {p:Pw} (h:Mono p):Wfs (ofS (addS [] p 1)):=by
 rw [addS_one]
 exact fun t ht=>by
  simp [ofS] at ht
  subst ht;exact ⟨⟨h.len,h.bd⟩,by show -9223372036854775808≤(1:Int)∧(1:Int)≤9223372036854775807;omega⟩
theorem one_g {M:Int} {p:Pw} (h:Pok M p):Gok M (toS (ofS (addS [] p 1))):=by
 rw [toS_ofS,addS_one];exact (Sok.one h (by omega)).g
theorem one_kex {ds p:Pw} (h:Ex ds p):KEx ds (toS (ofS (addS [] p 1))):=by
 rw [toS_ofS,addS_one];intro x hx
 simp at hx
 rw [hx];exact h
theorem one_len (p:Pw):(ofS (addS [] p 1)).length=1:=by rw [addS_one];rfl
theorem Ex.le {ds p q:Pw} (h:Ex ds p) (hq : ∀j,0≤q.getD j 0∧q.getD j 0≤p.getD j 0):Ex ds q:=
 ⟨fun i hi=>by have:=h.out i hi;have:=hq i;omega,fun i hi ho=>by have:=h.odd i hi ho;have:=hq i;omega⟩
theorem leftP_ex {ds p:Pw} {M:Int} (hp:Pok M p) (h:Ex ds p) {k:Nat} (hk:0<p.getD k 0):Ex ds (leftP p k):=h.le fun j=>by
 have b:=hp.bd j
 have c:=hp.bd k
 unfold leftP
 rw [getD_set8]
 split
 ·rename_i e
  rw [← e.1]
  omega
 ·rcases Nat.lt_or_ge j 8 with hj | hj
  ·rw [aheadP_get hj]
   split <;> omega
  ·rw [getD_ge (by simp;omega)]
   omega
theorem behP_ex {ds p:Pw} {M:Int} (hp:Pok M p) (h:Ex ds p) (k:Nat):Ex ds (behP p k):=h.le fun j=>by
 have b:=hp.bd j
 rcases Nat.lt_or_ge j 8 with hj | hj
 ·rw [behP_get hj]
  split <;> omega
 ·rw [getD_ge (by simp;omega)]
  omega
theorem dT_len (ds:Pw) (im:Sm) (p:Pw) (k:Nat):(dT ds im p k).length≤im.length:=by
 unfold dT;have h1:=times_len ds (timesS ds [(leftP p k,1)] im) [(behP p (k+1),1)];have h2:=times_len ds [(leftP p k,1)] im;simp only [List.length_singleton] at h1 h2
 omega
theorem dP_len {ds:Pw} {fs:List (List Term)} {x:Pw × Int} {k:Nat} (hL : ∀i,i<fs.length→(fm fs i).length≤10000) (hk:0<x.1.getD k 0→k<fs.length):(dP ds fs x k).length≤10000:=by
 unfold dP
 split
 ·rename_i h
  have h1:=dT_len ds (toS (fm fs k)) x.1 k;have h2:=hL k (hk h);rw [toS_len] at h1;unfold scl;rw [List.length_map]
  omega
 ·simp
theorem dLk_len {ds:Pw} {fs:List (List Term)} {x:Pw × Int} (hL : ∀i,i<fs.length→(fm fs i).length≤10000) (ho : ∀k,0<x.1.getD k 0→k<fs.length) : ∀k,(dLk ds fs x k).length≤k * 10000
 | 0=>by simp [dLk]
 | k+1=>by
  have h1:=dLk_len (ds:=ds) hL ho k
  have h2:=dP_len (ds:=ds) hL (ho k)
  rw [dLk_succ,List.length_append]
  omega
theorem dAll_len {ds:Pw} {fs:List (List Term)} (hL : ∀i,i<fs.length→(fm fs i).length≤10000) : ∀{s:Sm},Occ fs.length s→(dAll ds fs s).length≤s.length * 80000
 | [],_=>by simp [dAll]
 | x::s,ho=>by
  have h1:=dAll_len (ds:=ds) hL (s:=s) fun y hy=>ho y (by simp [hy])
  have h2:=dLk_len (ds:=ds) hL (ho x (by simp)) 8
  unfold dAll at h1 ⊢
  rw [List.flatMap_cons,List.length_append,List.length_cons]
  omega
theorem dAll_take {ds:Pw} {fs:List (List Term)} {f:List Term} {i:Nat} (hi:i<f.length):dAll ds fs (toS (f.take (i+1)))=dAll ds fs (toS (f.take i))++dLk ds fs ((tm f i).mono,(tm f i).fac) 8:=by
 rw [toS_take hi];unfold dAll;rw [List.flatMap_append]
 simp
theorem dLk_same {ds:Pw} {fs:List (List Term)} {x:Pw × Int} {n:Nat} (h : ∀k,n≤k→x.1.getD k 0=0) : ∀m,dLk ds fs x (n+m)=dLk ds fs x n
 | 0=>rfl
 | m+1=>by
  rw [← Nat.add_assoc,dLk_succ,dLk_same h m]
  unfold dP
  rw [if_neg (by rw [h _ (by omega)];omega),List.append_nil]
theorem dLk_8 {ds:Pw} {fs:List (List Term)} {x:Pw × Int} (hn:ds.length≤8) (h:Ex ds x.1):dLk ds fs x ds.length=dLk ds fs x 8:=by
 rw [← dLk_same (ds:=ds) (fs:=fs) (x:=x) (n:=ds.length) h.out (8 - ds.length),Nat.add_sub_cancel' hn]
theorem Ex.occ {ds:Pw} {s:Sm} {n:Nat} (h:KEx ds s) (hl:n=ds.length):Occ n s:=fun x hx i hi=>by
 have:=(h x hx).out i
 omega
theorem toS_tk (ts:List Term) (k:Nat):toS (ts.take k)=(toS ts).take k:=by simp [toS,List.map_take]
theorem Sok.tk {M:Int} {ts:List Term} (h:Sok M (toS ts)) (k:Nat):Sok M (toS (ts.take k)):=by
 rw [toS_tk];exact ⟨h.srt.sublist (List.take_sublist _ _),fun x hx=>h.key x (List.mem_of_mem_take hx),fun x hx=>h.val x (List.mem_of_mem_take hx)⟩
theorem Occ.tk {n:Nat} {ts:List Term} (h:Occ n (toS ts)) (k:Nat):Occ n (toS (ts.take k)):=by
 rw [toS_tk];exact fun x hx=>h x (List.mem_of_mem_take hx)
theorem d1_sok {ad:Pw} {af:List (List Term)} {f:List Term} {Mi Ms:Int} (hf:Fok Mi af) (hs:Sok Ms (toS f)) (ho:Occ af.length (toS f)) (i:Nat):Sok (Ms+Mi+Ms) (acc [] (dAll ad af (toS (f.take i)))):=Sok.nil.acc (dAll_pok (hs.tk i) hf (ho.tk i))
theorem d2_sok {ad:Pw} {af:List (List Term)} {f:List Term} {Mi Ms:Int} (hf:Fok Mi af) (hs:Sok Ms (toS f)) (ho:Occ af.length (toS f)) {i:Nat} (hi:i<f.length) (k:Nat):Sok (Ms+Mi+Ms) (acc [] (dAll ad af (toS (f.take i))++dLk ad af ((tm f i).mono,(tm f i).fac) k)):=Sok.nil.acc fun z hz=>by
 rcases List.mem_append.1 hz with h | h
 ·exact dAll_pok (hs.tk i) hf (ho.tk i) z h
 ·exact dLk_pok (hs.key _ (toS_at hi)) hf (ho _ (toS_at hi)) z h
theorem d2_len {ad:Pw} {af:List (List Term)} {f:List Term} (hL : ∀i,i<af.length→(fm af i).length≤10000) (ho:Occ af.length (toS f)) (hlf:f.length≤10000) {i k:Nat} (hi:i<f.length) (hk:k≤8):(acc [] (dAll ad af (toS (f.take i))++dLk ad af ((tm f i).mono,(tm f i).fac) k)).length≤900000000:=by
 have h1:=acc_len (dAll ad af (toS (f.take i))++dLk ad af ((tm f i).mono,(tm f i).fac) k) [];have h2:=dAll_len (ds:=ad) hL (ho.tk i);have h3:=dLk_len (ds:=ad) hL (ho _ (toS_at hi)) k;rw [toS_len,List.length_take_of_le (by omega)] at h2;rw [List.length_append,List.length_nil] at h1
 omega
theorem fac_neg {ds p:Pw} {k:Nat} {x:Int} (h:dsg ds p k = -1):fld (dsg ds p k * x * p.getD k 0)=fld (0 - x * p.getD k 0):=by rw [h];simp only [Int.neg_mul,Int.one_mul,Int.zero_sub]
theorem fac_pos {ds p:Pw} {k:Nat} {x:Int} (h:dsg ds p k=1):fld (dsg ds p k * x * p.getD k 0)=fld (x * p.getD k 0):=by rw [h,Int.one_mul]
theorem l02D_c {B:World} {H0 H:HP} {L:List SA} {w:World} {qad qaf:Option Addr} {cad caf:Nat} {ad:List Int} {af:List (List Term)} {qf:Option Addr} {cf:Nat} {f:List Term} {Mi Ms:Int} (had:Ints H qad ad) (haf:Forms H qaf af) (hf:Terms H qf f) (hn:ad.length≤8) (hd : ∀j,0≤ad.getD j 0∧ad.getD j 0≤12) (hf9:Fok Mi af) (hl:af.length=ad.length) (hk9 : ∀i,i<af.length→KEx ad (toS (fm af i))) (hs:Sok Ms (toS f)) (hfk:KEx ad (toS f)) (hM:0≤Mi∧0≤Ms∧Ms+Mi+Ms≤255) (hL : ∀i,i<af.length→(fm af i).length≤10000) (hlf:f.length≤10000) (hH:Hp B H0 H L w):Calls Try.prog 38 [.agg [.slice qad ad.length cad,.slice qaf af.length caf].toArray,.agg [.slice qf f.length cf].toArray].toArray w fun e w'=>∃q c,e = .returned (.agg [.slice q (ofS (dS ad af (toS f))).length c].toArray)∧Hp B H0 H (own 104 9 q (ofS (dS ad af (toS f))).length c (tsC (ofS (dS ad af (toS f))))::L) w':=by
 refine Jt Try.func38 rfl 103 rfl rfl [(0,.agg [.slice qad ad.length cad,.slice qaf af.length caf].toArray),(1,.agg [.slice qf f.length cf].toArray)] rfl hH ?_;clear hH;have hoc:=Ex.occ hfk hl;refine Je fun _ hK1 _=>(Jb (Eb rfl rfl rfl fun g2=>(Eb rfl rfl rfl fun g3=>(JW ze74 rfl fun g4=>(Jf (Ja (hK1 (Je fun _ hK2 _=>(Jb (J.own0 104 9 (Jg (Es bz74) rfl (JW ze74 rfl fun g5=>(JF rfl rfl (by first | exact bytesC_one _ | exact intsC_one _ | exact Term.c_one _ | simp [Value.oneCell']) (by simpa [*] using sz74) (by simp [*]) At.z (Jf (Ja (hK2 ?_))))))))))))))));refine Je fun _ hK3 _=>(Je fun _ hK4 _=>(Jb (Jg (Jd rfl) rfl (Jf (Ja (hK4 (Jm (JC (σ:=Option Addr × Nat × Nat) (fun ⟨q,c,i⟩=>[(6,.int .i64 (i:Int))]) (fun ⟨q,c,i⟩=>H) (fun ⟨q,c,i⟩=>obj g5 (.cells [.slice q (ofS (acc [] (dAll ad af (toS (f.take i))))).length c].toArray 74 (0,0))::own 104 9 q (ofS (acc [] (dAll ad af (toS (f.take i))))).length c (tsC (ofS (acc [] (dAll ad af (toS (f.take i))))))::obj g4 (.cells [.slice none 0 0].toArray 74 (0,0))::obj g3 (.cells [.slice qf f.length cf].toArray 74 (0,0))::obj g2 (.cells [.slice qad ad.length cad,.slice qaf af.length caf].toArray 32 (0,0))::L) (fun ⟨q,c,i⟩=>i≤f.length) (fun ⟨q,c,i⟩=>f.length - i) (none,0,0) (by show 0≤f.length;omega) ⟨rfl,trivial⟩ rfl rfl ?_))))))));rintro ⟨q,c,i⟩ hI _ hAg0;have hi:=hI;have wfO:=(d1_sok (ad:=ad) hf9 hs hoc i).wf (by omega);refine Je fun _ hK5 _=>(Je fun _ hK6 _=>(Jb (Jg (Jc rfl) rfl (Jg (Jq u74 rfl sz72 rfl) rfl (Jg (Jr rfl (.s (.s (.s .z))) rfl pl72) rfl (Jg (Jn u72 rfl rfl) rfl (Jg (JM rfl rfl) rfl (Jf (Ja (hK6 (Jl rfl (fun h20=>?_) (fun h20=>?_))))))))))))
 ·
  have hxi:=toS_at (ts:=f) (k:=i) (by omega);have hxp:=hs.key _ hxi;have hxv:=hs.val _ hxi;have hxe:=hfk _ hxi;simp only at hxp hxv hxe;have hx8:=hxp.len;have hxn : ∀j,0≤(tm f i).mono.getD j 0:=fun j=>(hxp.bd j).1;refine Jj (Ja (hK5 (Je fun _ hK7 _=>(Jm (Je fun _ hK8 _=>(Jb (Jg (Jq u74 rfl sz72 rfl) rfl (Jg (Jr rfl (.s (.s (.s .z))) rfl pl72) rfl (Jg (Jc rfl) rfl (Jg (Ej u72 sz104 rfl rfl rfl (by omega) hf.sm) rfl (Jg (Eq u104 rfl sz78 rfl (hf.sm (i:=i) (by omega))) rfl (Jg (JH rfl (hf.mono (by omega)) (hf.sm (i:=i) (by omega)) (by rw [bytesC_length,(hf.wf _ (by omega)).mono.len];exact ag78)) rfl (JW ze78 rfl fun g7=>(JF rfl rfl (by first | exact bytesC_one _ | exact intsC_one _ | exact Term.c_one _ | simp [Value.oneCell']) (by simpa [*] using sz78) (by simp [*]) At.z (Jf ?_)))))))))))))));refine Ja (hK8 (Je fun _ hK9 _=>(Jb (Jg (Jd rfl) rfl (Jf (Ja (hK9 (Jm (JC (σ:=Option Addr × Nat × Nat) (fun ⟨q1,c1,k⟩=>[(8,.int .i64 (k:Int))]) (fun ⟨q1,c1,k⟩=>H) (fun ⟨q1,c1,k⟩=>obj g7 (.cells (bytesC ((tm f i).mono)).toArray 78 (0,0))::obj g5 (.cells [.slice q1 (ofS (acc [] (dAll ad af (toS (f.take i))++dLk ad af ((tm f i).mono,(tm f i).fac) k))).length c1].toArray 74 (0,0))::own 104 9 q1 (ofS (acc [] (dAll ad af (toS (f.take i))++dLk ad af ((tm f i).mono,(tm f i).fac) k))).length c1 (tsC (ofS (acc [] (dAll ad af (toS (f.take i))++dLk ad af ((tm f i).mono,(tm f i).fac) k))))::obj g4 (.cells [.slice none 0 0].toArray 74 (0,0))::obj g3 (.cells [.slice qf f.length cf].toArray 74 (0,0))::obj g2 (.cells [.slice qad ad.length cad,.slice qaf af.length caf].toArray 32 (0,0))::L) (fun ⟨q1,c1,k⟩=>k≤ad.length) (fun ⟨q1,c1,k⟩=>ad.length - k) (q,c,0) (by show 0≤ad.length;omega) ⟨rfl,trivial⟩ rfl (by simp only [dLk,List.range_zero,List.flatMap_nil,List.append_nil]) ?_)))))))));rintro ⟨q1,c1,k⟩ hkI _ hAg1;have hk:=hkI;have wfO:=(d2_sok (ad:=ad) hf9 hs hoc (i:=i) (by omega) k).wf (by omega);refine Je fun _ hK10 _=>(Je fun _ hK11 _=>(Jb (Jg (Jc rfl) rfl (Jg (Jq u32 rfl sz22 rfl) rfl (Jg (Jr rfl (.s (.s (.s (.s (.s .z))))) rfl pl22) rfl (Jg (Jn u22 rfl rfl) rfl (Jg (JM rfl rfl) rfl (Jf (Ja (hK11 (Jl rfl (fun h33=>?_) (fun h33=>?_))))))))))))
  ·
   have hkl:k<af.length:=by omega
   have hpk:=hxp.bd k;refine Jj (Ja (hK10 (Je fun _ hK12 _=>(Jm (Je fun _ hK13 _=>(Je fun _ hK14 _=>(Jb (Jg (Jc rfl) rfl (Jg (JP u78 sz5 rfl rfl rfl (by omega)) rfl (Jg (Jr rfl At.z (bytesC_get (by omega)) pl5) rfl (Jg (Ew rfl rfl) rfl (Jf (Ja (hK14 (Jl rfl (fun h39=>?_) (fun h39=>?_))))))))))))))))
   ·
    refine JG (Ji (JN (Ja (hK12 (Jb (Jg (Jc rfl) rfl (Jg (JA rfl rfl (by first | exact nw _ (by omega) | rfl)) rfl (Jg (Jd rfl) rfl (Jf (Ja ?_))))))))));exact hAg1 (q1,c1,k+1) (by show k+1≤ad.length;omega) (by show ad.length - (k+1)<ad.length - k;omega) 13 rfl rfl ⟨rfl,trivial⟩ rfl (by simp only [acc_dN (ds:=ad) (fs:=af) (x:=((tm f i).mono,(tm f i).fac)) (k:=k) (show ¬0<(tm f i).mono.getD k 0 by omega)])
   ·
    have hpos:0<(tm f i).mono.getD k 0:=by omega
    have hlp:=leftP_pok hxp hpos;have hfp:=aheadP_pok hxp k;have hbp:=behP_pok hxp (k+1);have hlm:=hlp.mn (by omega);have hfm:=hfp.mn (by omega);have hbm:=hbp.mn (by omega);have hle:=leftP_ex hxp hxe hpos;have hbe:=behP_ex hxp hxe (k+1);have mb:=mul_sb (b:=(tm f i).mono.getD k 0) (B:=255) (show -10006≤(tm f i).fac∧(tm f i).fac≤10006 by omega) (by omega);have gt1:=gtimes (ds:=ad) (Sok.one hlp (k:=1) (by omega)).g (hf9 k hkl).1.g;have gt2:=gtimes (ds:=ad) (gt1.g) (Sok.one hbp (k:=1) (by omega)).g;have l9:=hL k hkl;have l8:=d2_len (ad:=ad) hL hoc hlf (i:=i) (k:=k) (by omega) (by omega);refine Jj (Ja (hK13 (Je fun _ hK15 _=>(Ey (Rs:=[_,_,_,_,_,_]) 6 [[], [], [], [], [0,2,3], [0,1,2,3,4]] [[6], [6], [], [], [], []] [[], [], [], [], [2], [3]] rfl rfl (by kernel_rfl) ?_))));apply Jy 1 rfl
    iterate 3 focus (intros;(conv=>lhs;simp only [Jo,JB,Ee,JD,JR,eq_self,Nat.reduceEqDiff,reduceIte,Nat.reduceSub,Nat.reduceAdd,List.cons_append,List.nil_append]);all_goals rfl)
    ·
     intro gh X K zq zc zq2 zc2 zb zv hK;refine Jg (Ju rfl At.z (by simpa [*] using ag78)) rfl (Js ?_);exact hK zq zc zq2 zc2 zb zv
    ·
     intro gh gh' h
     rfl
    apply Jy 2 rfl
    iterate 3 focus (intros;(conv=>lhs;simp only [Jo,JB,Ee,JD,JR,eq_self,Nat.reduceEqDiff,reduceIte,Nat.reduceSub,Nat.reduceAdd,List.cons_append,List.nil_append]);all_goals rfl)
    ·
     intro gh X K zq zc zq2 zc2 zb zv hK;refine Jg (Ju rfl At.z (by simpa [*] using ag78)) rfl (Js ?_);exact hK zq zc zq2 zc2 zb zv
    ·
     intro gh gh' h
     rfl
    apply En 3 rfl
    iterate 3 focus (intros;(conv=>lhs;simp only [Jo,JB,Ee,JD,JR,eq_self,Nat.reduceEqDiff,reduceIte,Nat.reduceSub,Nat.reduceAdd,List.cons_append,List.nil_append]);all_goals rfl)
    ·
     intro gh X K zq zc zq2 zc2 zb zv hK;refine JW ze78 rfl fun g9=>(Js ?_);exact hK zq zc zq2 zc2 g9 zv
    ·
     intro gh gh' h;refine ⟨?_,?_⟩ <;> rfl
    apply En 4 rfl
    iterate 3 focus (intros;(conv=>lhs;simp only [Jo,JB,Ee,JD,JR,eq_self,Nat.reduceEqDiff,reduceIte,Nat.reduceSub,Nat.reduceAdd,List.cons_append,List.nil_append]);all_goals rfl)
    ·
     intro gh X K zq zc zq2 zc2 zb zv hK;refine JW ze78 rfl fun g10=>(Js ?_);exact hK zq zc zq2 zc2 g10 zv
    ·
     intro gh gh' h;refine ⟨?_,?_⟩ <;> rfl
    apply GJ.sn1 5 rfl
    iterate 3 focus (intros;(conv=>lhs;simp only [Jo,JB,Ee,JD,JR,eq_self,Nat.reduceEqDiff,reduceIte,Nat.reduceSub,Nat.reduceAdd,List.cons_append,List.nil_append]);all_goals rfl)
    ·
     intro gh X K hK;refine JF rfl rfl (by first | exact bytesC_one _ | exact intsC_one _ | exact Term.c_one _ | simp [Value.oneCell']) (by simpa [*] using sz78) (by simp [*]) At.z (Js ?_);exact hK
    ·
     intro gh gh' h
     first | simp only [h 2 rfl,h 3 rfl] | rfl
    apply GJ.sn1 6 rfl
    iterate 3 focus (intros;(conv=>lhs;simp only [Jo,JB,Ee,JD,JR,eq_self,Nat.reduceEqDiff,reduceIte,Nat.reduceSub,Nat.reduceAdd,List.cons_append,List.nil_append]);all_goals rfl)
    ·
     intro gh X K hK;refine JF rfl rfl (by first | exact bytesC_one _ | exact intsC_one _ | exact Term.c_one _ | simp [Value.oneCell']) (by simpa [*] using sz78) (by simp [*]) At.z (Js ?_);exact hK
    ·
     intro gh gh' h
     first | simp only [h 2 rfl,h 3 rfl] | rfl
    apply Ez [0,1,2,3,4,5] [0,1,4,5,6,7,8,9,10,11] foll0 rfl rfl rfl (by rfl)
    iterate 2 focus (intros;(conv=>lhs;simp only [Jo,JB,Ee,JD,JR,eq_self,Nat.reduceEqDiff,reduceIte,Nat.reduceSub,Nat.reduceAdd,List.cons_append,List.nil_append]);all_goals rfl)
    intro gh;generalize (gh 2).b=g9;generalize (gh 3).b=g10;clear gh;refine Ja (hK15 (Je fun _ hK16 _=>(Je fun _ hK17 _=>(Jb (Jg (Jd rfl) rfl (Jf (Ja (hK17 (Jm (JC (σ:=Nat) (fun (j:Nat)=>[(11,.int .i64 (j:Int))]) (fun (j:Nat)=>H) (fun (j:Nat)=>obj g9 (.cells (bytesC (frK (tm f i).mono k j)).toArray 78 (0,0))::obj g10 (.cells (bytesC (bkK (tm f i).mono k j)).toArray 78 (0,0))::obj g7 (.cells (bytesC ((tm f i).mono)).toArray 78 (0,0))::obj g5 (.cells [.slice q1 (ofS (acc [] (dAll ad af (toS (f.take i))++dLk ad af ((tm f i).mono,(tm f i).fac) k))).length c1].toArray 74 (0,0))::own 104 9 q1 (ofS (acc [] (dAll ad af (toS (f.take i))++dLk ad af ((tm f i).mono,(tm f i).fac) k))).length c1 (tsC (ofS (acc [] (dAll ad af (toS (f.take i))++dLk ad af ((tm f i).mono,(tm f i).fac) k))))::obj g4 (.cells [.slice none 0 0].toArray 74 (0,0))::obj g3 (.cells [.slice qf f.length cf].toArray 74 (0,0))::obj g2 (.cells [.slice qad ad.length cad,.slice qaf af.length caf].toArray 32 (0,0))::L) (fun (j:Nat)=>j≤8) (fun (j:Nat)=>8 - j) 0 (by omega) ⟨rfl,trivial⟩ rfl (by rw [bkK_zero hx8,frK_zero hx8]) ?_))))))))));rintro j hj _ hAg2;refine Je fun _ hK18 _=>(Je fun _ hK19 _=>(Jb (Jg (Jc rfl) rfl (Jg (JM rfl rfl) rfl (Jf (Ja (hK19 (Jl rfl (fun h43=>?_) (fun h43=>?_)))))))))
    ·
     refine Jj (Ja (hK18 (Je fun _ hK20 _=>(Jm (Je fun _ hK21 _=>(Je fun _ hK22 _=>(Jb (Jg (Jc rfl) rfl (Jg (Jc rfl) rfl (Jg (PR.geq rfl rfl) rfl (Jf (Ja (hK22 (Jl rfl (fun h48=>?_) (fun h48=>?_)))))))))))))))
     ·
      refine Jb (Jg (Jc rfl) rfl (Jg (JP u78 sz5 rfl rfl rfl (by omega)) rfl (J.storeB rfl rfl sz5 (by simp;omega) At.z (Jf (Ja (hK21 (Je fun _ hK23 _=>(Jb (Jg (Jc rfl) rfl (Jg (Jc rfl) rfl (Jg (PR.leq rfl rfl) rfl (Jf (Ja (hK23 (Jl rfl (fun h53=>?_) (fun h53=>?_))))))))))))))))
      ·
       refine Jb (Jg (Jc rfl) rfl (Jg (JP u78 sz5 rfl rfl rfl (by omega)) rfl (J.storeB rfl rfl sz5 (by simp;omega) (.s .z) (Jf (JE (Ja (hK20 (Jb (Jg (Jc rfl) rfl (Jg (JA rfl rfl (by first | exact nw _ (by omega) | rfl)) rfl (Jg (Jd rfl) rfl (Jf (Ja ?_)))))))))))));exact hAg2 (j+1) (by omega) (by omega) 16 rfl rfl ⟨rfl,trivial⟩ rfl (by simp only [frK_yes (p:=(tm f i).mono) (show j<8 by omega) (show k≤j by omega),bkK_yes (p:=(tm f i).mono) (show j<8 by omega) (show j≤k by omega)])
      ·
       refine Jj (JE (Ja (hK20 (Jb (Jg (Jc rfl) rfl (Jg (JA rfl rfl (by first | exact nw _ (by omega) | rfl)) rfl (Jg (Jd rfl) rfl (Jf (Ja ?_)))))))));exact hAg2 (j+1) (by omega) (by omega) 14 rfl rfl ⟨rfl,trivial⟩ rfl (by simp only [frK_yes (p:=(tm f i).mono) (show j<8 by omega) (show k≤j by omega),bkK_no (p:=(tm f i).mono) (show ¬j≤k by omega)])
     ·
      refine Jj (Ja (hK21 (Je fun _ hK24 _=>(Jb (Jg (Jc rfl) rfl (Jg (Jc rfl) rfl (Jg (PR.leq rfl rfl) rfl (Jf (Ja (hK24 (Jl rfl (fun h53=>?_) (fun h53=>?_))))))))))))
      ·
       refine Jb (Jg (Jc rfl) rfl (Jg (JP u78 sz5 rfl rfl rfl (by omega)) rfl (J.storeB rfl rfl sz5 (by simp;omega) (.s .z) (Jf (JE (Ja (hK20 (Jb (Jg (Jc rfl) rfl (Jg (JA rfl rfl (by first | exact nw _ (by omega) | rfl)) rfl (Jg (Jd rfl) rfl (Jf (Ja ?_)))))))))))));exact hAg2 (j+1) (by omega) (by omega) 14 rfl rfl ⟨rfl,trivial⟩ rfl (by simp only [frK_no (p:=(tm f i).mono) (show ¬k≤j by omega),bkK_yes (p:=(tm f i).mono) (show j<8 by omega) (show j≤k by omega)])
      ·
       refine Jj (JE (Ja (hK20 (Jb (Jg (Jc rfl) rfl (Jg (JA rfl rfl (by first | exact nw _ (by omega) | rfl)) rfl (Jg (Jd rfl) rfl (Jf (Ja ?_)))))))));exact hAg2 (j+1) (by omega) (by omega) 12 rfl rfl ⟨rfl,trivial⟩ rfl (by simp only [frK_no (p:=(tm f i).mono) (show ¬k≤j by omega),bkK_no (p:=(tm f i).mono) (show ¬j≤k by omega)])
    ·
     obtain rfl:j=8:=by omega
     rw [frK_end,bkK_end];refine JG (Ji (Ji (JN (Ja (hK16 (Je fun _ hK25 _=>(Jb (Jg (Ju rfl At.z (by simpa using ag78)) rfl (JW ze78 rfl fun g12=>(JF rfl rfl (by first | exact bytesC_one _ | exact intsC_one _ | exact Term.c_one _ | simp [Value.oneCell']) (by simpa [*] using sz78) (by simp [*]) At.z (Jf (Ja (hK25 (Je fun _ hK26 _=>(Jb (Jg (Jc rfl) rfl ?_))))))))))))))));refine Jg (Jc rfl) rfl (Jg (JP u78 sz5 rfl rfl rfl (by omega)) rfl (Jg (Jr rfl (.s (.s (.s .z))) (bytesC_get (by omega)) pl5) rfl (Jg (PR.sub rfl rfl (u8_id (by omega))) rfl (Jg (JP u78 sz5 rfl rfl rfl (by omega)) rfl (J.storeB rfl rfl sz5 (by simp;omega) At.z (Jf (Ja (hK26 (Je fun _ hK27 _=>(Eo foll0 (by kernel_rfl) (Jv (Jq u74 rfl sz72 rfl) rfl (Jv (Jr rfl (.s (.s (.s (.s (.s (.s (.s .z))))))) rfl pl72) rfl (Jv (Jc rfl) rfl (Jv (Ej u72 sz104 rfl rfl rfl (by omega) hf.sm) rfl (Jv (Eq u104 rfl sz2 rfl (hf.sm (i:=i) (by omega))) rfl ?_)))))))))))))));refine Jv (JL rfl (hf.fac (by omega)) pl2) rfl (Jv (Jc rfl) rfl (Jv (JP u78 sz5 rfl rfl rfl (by omega)) rfl (Jv (Jr rfl (.s (.s (.s .z))) (bytesC_get (by omega)) pl5) rfl (Jv (PR.conv u5 u2 rfl (by first | exact nw _ (by omega) | rfl)) rfl (Jv (ED rfl rfl (by first | exact nw _ (by omega) | rfl)) rfl (Jv (Jd rfl) rfl (Ef (Ja (hK27 (CJ.cutU (σ:=Int) (fun (v:Int)=>[(13,.int .i64 v)]) (fun (v:Int)=>H) (fun (v:Int)=>obj g12 (.cells (bytesC (leftP (tm f i).mono k)).toArray 78 (0,0))::obj g9 (.cells (bytesC (aheadP (tm f i).mono k)).toArray 78 (0,0))::obj g10 (.cells (bytesC (behP (tm f i).mono (k+1))).toArray 78 (0,0))::obj g7 (.cells (bytesC ((tm f i).mono)).toArray 78 (0,0))::obj g5 (.cells [.slice q1 (ofS (acc [] (dAll ad af (toS (f.take i))++dLk ad af ((tm f i).mono,(tm f i).fac) k))).length c1].toArray 74 (0,0))::own 104 9 q1 (ofS (acc [] (dAll ad af (toS (f.take i))++dLk ad af ((tm f i).mono,(tm f i).fac) k))).length c1 (tsC (ofS (acc [] (dAll ad af (toS (f.take i))++dLk ad af ((tm f i).mono,(tm f i).fac) k))))::obj g4 (.cells [.slice none 0 0].toArray 74 (0,0))::obj g3 (.cells [.slice qf f.length cf].toArray 74 (0,0))::obj g2 (.cells [.slice qad ad.length cad,.slice qaf af.length caf].toArray 32 (0,0))::L) (fun (v:Int)=>fld v=fld (dsg ad (tm f i).mono k * (tm f i).fac * (tm f i).mono.getD k 0)∧ -1000000000000≤v∧v≤1000000000000) ?_ ?_))))))))))
     ·
      intro _ hMt1;refine Je fun _ hK28 _=>(Jb (Jg (Jq u32 rfl sz22 rfl) rfl (Jg (Jr rfl (.s (.s (.s (.s (.s (.s (.s (.s .z)))))))) rfl pl22) rfl (Jg (Ju rfl (.s .z) (by simpa using ag78)) rfl (Jz fn62 rfl rfl fun w hH=>(l01Weight_c had hfm hn hd hH).mono ?_)))));rintro _ w ⟨rfl,hH⟩;refine ⟨_,rfl,fun a hF=>JT hF hH ?_⟩;refine Jg (EA rfl rfl (by decide) rfl) rfl (Jg (Ek rfl rfl) rfl (Jf (Ja (hK28 (Jl rfl (fun h79=>?_) (fun h79=>?_))))))
      ·
       refine Jb (Jg (Jc rfl) rfl (Jg (PR.neg rfl (by first | exact nw _ (by omega) | rfl)) rfl (Jg (Jd rfl) rfl (Jf (Ja ?_)))));exact hMt1 (0 - (tm f i).fac * (tm f i).mono.getD k 0) ⟨(fac_neg (sg_neg hn hd hxn (by omega) h79)).symm,by omega,by omega⟩ 9 rfl rfl ⟨(vi (by omega)),trivial⟩ rfl rfl
      ·
       refine Jj (Ja ?_);exact hMt1 ((tm f i).fac * (tm f i).mono.getD k 0) ⟨(fac_pos (sg_pos hn hd hxn (by omega) h79)).symm,by omega,by omega⟩ 6 rfl rfl ⟨rfl,trivial⟩ rfl rfl
     ·
      rintro v ⟨hv,hvb⟩;refine Je fun _ hK29 _=>(Ey (Rs:=[_,_,_,_,_,_,_,_,_]) 12 [[], [0], [], [2], [], [4], [], [4,5,6], [4,5,6,7], [0,1,2,3,4,5,6,7,8], [], [0,1,2,3,4,5,6,7,8,9,10]] [[], [20], [12], [], [], [20], [], [], [], [3], [], []] [[], [], [], [], [], [], [], [], [], [], [], [10]] rfl rfl (by kernel_rfl) ?_);apply Jy 1 rfl
      iterate 3 focus (intros;(conv=>lhs;simp only [Jo,JB,Ee,JD,JR,eq_self,Nat.reduceEqDiff,reduceIte,Nat.reduceSub,Nat.reduceAdd,List.cons_append,List.nil_append]);all_goals rfl)
      ·
       intro gh X K zq zc zq2 zc2 zb zv hK;refine Jg (Jq u32 rfl sz22 rfl) rfl (Js ?_);exact hK zq zc zq2 zc2 zb zv
      ·
       intro gh gh' h
       rfl
      apply Jy 2 rfl
      iterate 3 focus (intros;(conv=>lhs;simp only [Jo,JB,Ee,JD,JR,eq_self,Nat.reduceEqDiff,reduceIte,Nat.reduceSub,Nat.reduceAdd,List.cons_append,List.nil_append]);all_goals rfl)
      ·
       intro gh X K zq zc zq2 zc2 zb zv hK;refine Jg (Jr rfl At.z rfl pl22) rfl (Js ?_);exact hK zq zc zq2 zc2 zb zv
      ·
       intro gh gh' h
       rfl
      apply Jy 3 rfl
      iterate 3 focus (intros;(conv=>lhs;simp only [Jo,JB,Ee,JD,JR,eq_self,Nat.reduceEqDiff,reduceIte,Nat.reduceSub,Nat.reduceAdd,List.cons_append,List.nil_append]);all_goals rfl)
      ·
       intro gh X K zq zc zq2 zc2 zb zv hK;refine Jg (Ju rfl At.z (by simpa using ag78)) rfl (Js ?_);exact hK zq zc zq2 zc2 zb zv
      ·
       intro gh gh' h
       rfl
      apply En 4 rfl
      iterate 3 focus (intros;(conv=>lhs;simp only [Jo,JB,Ee,JD,JR,eq_self,Nat.reduceEqDiff,reduceIte,Nat.reduceSub,Nat.reduceAdd,List.cons_append,List.nil_append]);all_goals rfl)
      ·
       intro gh X K zq zc zq2 zc2 zb zv hK;refine Jz fn39 rfl rfl fun w hH=>(l01Single_c hlm (by omega) hH).mono ?_;rintro _ w ⟨qo85,co85,rfl,hH⟩;refine ⟨_,rfl,fun a hF=>JT hF hH ?_⟩;refine Js ?_;exact hK qo85 co85 zq2 zc2 zb zv
      ·
       intro gh gh' h;refine ⟨?_,?_⟩ <;> rfl
      apply Jy 5 rfl
      iterate 3 focus (intros;(conv=>lhs;simp only [Jo,JB,Ee,JD,JR,eq_self,Nat.reduceEqDiff,reduceIte,Nat.reduceSub,Nat.reduceAdd,List.cons_append,List.nil_append]);all_goals rfl)
      ·
       intro gh X K zq zc zq2 zc2 zb zv hK;refine Jg (Jq u32 rfl sz30 rfl) rfl (Js ?_);exact hK zq zc zq2 zc2 zb zv
      ·
       intro gh gh' h
       rfl
      apply Jy 6 rfl
      iterate 3 focus (intros;(conv=>lhs;simp only [Jo,JB,Ee,JD,JR,eq_self,Nat.reduceEqDiff,reduceIte,Nat.reduceSub,Nat.reduceAdd,List.cons_append,List.nil_append]);all_goals rfl)
      ·
       intro gh X K zq zc zq2 zc2 zb zv hK;refine Jg (Jr rfl At.z rfl pl30) rfl (Js ?_);exact hK zq zc zq2 zc2 zb zv
      ·
       intro gh gh' h
       rfl
      apply Jy 7 rfl
      iterate 3 focus (intros;(conv=>lhs;simp only [Jo,JB,Ee,JD,JR,eq_self,Nat.reduceEqDiff,reduceIte,Nat.reduceSub,Nat.reduceAdd,List.cons_append,List.nil_append]);all_goals rfl)
      ·
       intro gh X K zq zc zq2 zc2 zb zv hK;refine Jg (Jc rfl) rfl (Js ?_);exact hK zq zc zq2 zc2 zb zv
      ·
       intro gh gh' h
       rfl
      apply Jy 8 rfl
      iterate 3 focus (intros;(conv=>lhs;simp only [Jo,JB,Ee,JD,JR,eq_self,Nat.reduceEqDiff,reduceIte,Nat.reduceSub,Nat.reduceAdd,List.cons_append,List.nil_append]);all_goals rfl)
      ·
       intro gh X K zq zc zq2 zc2 zb zv hK;refine Jg (JY u30 sz74 rfl rfl rfl (by omega) haf.sm) rfl (Js ?_);exact hK zq zc zq2 zc2 zb zv
      ·
       intro gh gh' h
       rfl
      obtain ⟨qe90,ce90,he90,le90,Fe90⟩:=haf k (by omega);apply Jy 9 rfl
      iterate 3 focus (intros;(conv=>lhs;simp only [Jo,JB,Ee,JD,JR,eq_self,Nat.reduceEqDiff,reduceIte,Nat.reduceSub,Nat.reduceAdd,List.cons_append,List.nil_append]);all_goals rfl)
      ·
       intro gh X K zq zc zq2 zc2 zb zv hK;refine Jg (JH (cs:=[_]) rfl (one_cell he90) (haf.sm (i:=k) (by omega)) ag74) rfl (Js ?_);exact hK zq zc zq2 zc2 zb zv
      ·
       intro gh gh' h
       rfl
      apply En 10 rfl
      iterate 3 focus (intros;(conv=>lhs;simp only [Jo,JB,Ee,JD,JR,eq_self,Nat.reduceEqDiff,reduceIte,Nat.reduceSub,Nat.reduceAdd,List.cons_append,List.nil_append]);all_goals rfl)
      ·
       intro gh X K zq zc zq2 zc2 zb zv hK;refine Jz fn63 rfl rfl fun w hH=>hH.lend .z fun Hl1 hle1 hA1 hB1 hH=>(l01Times_c (had.le hle1) (own_terms (one_wf hlm) hA1) (Fe90.le hle1) hn hd (one_kex hle) (hk9 k hkl) (one_g hlp) (hf9 k hkl).1.g (by omega) (by rw [one_len];omega) (by rw [one_len];omega) hH).mono ?_;rintro _ w ⟨qo91,co91,rfl,hH⟩;replace hH:=hB1 _ _ hH;refine ⟨_,rfl,fun a hF=>JT hF hH ?_⟩;refine Jw .z (Jw (.s .z) (Js ?_));exact hK qo91 co91 zq2 zc2 zb zv
      ·
       intro gh gh' h;refine ⟨?_,?_⟩ <;> (first | simp only [h 3 rfl] | rfl)
      apply En 11 rfl
      iterate 3 focus (intros;(conv=>lhs;simp only [Jo,JB,Ee,JD,JR,eq_self,Nat.reduceEqDiff,reduceIte,Nat.reduceSub,Nat.reduceAdd,List.cons_append,List.nil_append]);all_goals rfl)
      ·
       intro gh X K zq zc zq2 zc2 zb zv hK;refine JW ze74 rfl fun g14=>(Js ?_);exact hK zq zc zq2 zc2 g14 zv
      ·
       intro gh gh' h;refine ⟨?_,?_⟩ <;> rfl
      apply GJ.sn1 12 rfl
      iterate 3 focus (intros;(conv=>lhs;simp only [Jo,JB,Ee,JD,JR,eq_self,Nat.reduceEqDiff,reduceIte,Nat.reduceSub,Nat.reduceAdd,List.cons_append,List.nil_append]);all_goals rfl)
      ·
       intro gh X K hK;refine JF rfl rfl (by first | exact bytesC_one _ | exact intsC_one _ | exact Term.c_one _ | simp [Value.oneCell']) (by simpa [*] using sz74) (by simp [*]) At.z (Js ?_);exact hK
      ·
       intro gh gh' h
       first | simp only [h 3 rfl,h 9 rfl,h 10 rfl] | rfl
      apply Ez [0,1,2,3,4,5,6,7,8,9,10,11] [0,1,2,3,4,5,6,7,8,9,11,12,13,14,15,16,17,18,19,20] foll0 rfl rfl rfl (by rfl)
      iterate 2 focus (intros;(conv=>lhs;simp only [Jo,JB,Ee,JD,JR,eq_self,Nat.reduceEqDiff,reduceIte,Nat.reduceSub,Nat.reduceAdd,List.cons_append,List.nil_append]);all_goals rfl)
      intro gh;generalize (gh 3).c=co85;generalize (gh 3).q=qo85;generalize (gh 9).c=co91;generalize (gh 9).q=qo91;generalize (gh 10).b=g14;clear gh;refine Ja (hK29 (Ey (Rs:=[_,_,_,_,_,_,_,_,_,_,_,_]) 11 [[], [], [1], [], [], [4], [1,2,3,4,5], [], [1,2,3,4,5,6,7], [0,1,2,3,4,5,6,7,8], [0,1,2,3,4,5,6,7,8,9]] [[18], [], [22], [13], [16], [], [5,12], [], [], [6,19], []] [[], [], [], [], [], [], [], [], [], [], [18]] rfl rfl (by kernel_rfl) ?_));apply Jy 1 rfl
      iterate 3 focus (intros;(conv=>lhs;simp only [Jo,JB,Ee,JD,JR,eq_self,Nat.reduceEqDiff,reduceIte,Nat.reduceSub,Nat.reduceAdd,List.cons_append,List.nil_append]);all_goals rfl)
      ·
       intro gh X K zq zc zq2 zc2 zb zv hK;refine Jg (Ju rfl At.z (by simpa [*] using ag74)) rfl (Js ?_);exact hK zq zc zq2 zc2 zb zv
      ·
       intro gh gh' h
       rfl
      apply Jy 2 rfl
      iterate 3 focus (intros;(conv=>lhs;simp only [Jo,JB,Ee,JD,JR,eq_self,Nat.reduceEqDiff,reduceIte,Nat.reduceSub,Nat.reduceAdd,List.cons_append,List.nil_append]);all_goals rfl)
      ·
       intro gh X K zq zc zq2 zc2 zb zv hK;refine Jg (Jq u32 rfl sz22 rfl) rfl (Js ?_);exact hK zq zc zq2 zc2 zb zv
      ·
       intro gh gh' h
       rfl
      apply Jy 3 rfl
      iterate 3 focus (intros;(conv=>lhs;simp only [Jo,JB,Ee,JD,JR,eq_self,Nat.reduceEqDiff,reduceIte,Nat.reduceSub,Nat.reduceAdd,List.cons_append,List.nil_append]);all_goals rfl)
      ·
       intro gh X K zq zc zq2 zc2 zb zv hK;refine Jg (Jr rfl At.z rfl pl22) rfl (Js ?_);exact hK zq zc zq2 zc2 zb zv
      ·
       intro gh gh' h
       rfl
      apply Jy 4 rfl
      iterate 3 focus (intros;(conv=>lhs;simp only [Jo,JB,Ee,JD,JR,eq_self,Nat.reduceEqDiff,reduceIte,Nat.reduceSub,Nat.reduceAdd,List.cons_append,List.nil_append]);all_goals rfl)
      ·
       intro gh X K zq zc zq2 zc2 zb zv hK;refine Jg (Ju rfl At.z (by simpa [*] using ag74)) rfl (Js ?_);exact hK zq zc zq2 zc2 zb zv
      ·
       intro gh gh' h
       rfl
      apply Jy 5 rfl
      iterate 3 focus (intros;(conv=>lhs;simp only [Jo,JB,Ee,JD,JR,eq_self,Nat.reduceEqDiff,reduceIte,Nat.reduceSub,Nat.reduceAdd,List.cons_append,List.nil_append]);all_goals rfl)
      ·
       intro gh X K zq zc zq2 zc2 zb zv hK;refine Jg (Ju rfl At.z (by simpa using ag78)) rfl (Js ?_);exact hK zq zc zq2 zc2 zb zv
      ·
       intro gh gh' h
       rfl
      apply En 6 rfl
      iterate 3 focus (intros;(conv=>lhs;simp only [Jo,JB,Ee,JD,JR,eq_self,Nat.reduceEqDiff,reduceIte,Nat.reduceSub,Nat.reduceAdd,List.cons_append,List.nil_append]);all_goals rfl)
      ·
       intro gh X K zq zc zq2 zc2 zb zv hK;refine Jz fn39 rfl rfl fun w hH=>(l01Single_c hbm (by omega) hH).mono ?_;rintro _ w ⟨qo97,co97,rfl,hH⟩;refine ⟨_,rfl,fun a hF=>JT hF hH ?_⟩;refine Js ?_;exact hK qo97 co97 zq2 zc2 zb zv
      ·
       intro gh gh' h;refine ⟨?_,?_⟩ <;> rfl
      apply En 7 rfl
      iterate 3 focus (intros;(conv=>lhs;simp only [Jo,JB,Ee,JD,JR,eq_self,Nat.reduceEqDiff,reduceIte,Nat.reduceSub,Nat.reduceAdd,List.cons_append,List.nil_append]);all_goals rfl)
      ·
       intro gh X K zq zc zq2 zc2 zb zv hK;refine Jz fn63 rfl rfl fun w hH=>hH.lend (.s .z) fun Hl1 hle1 hA1 hB1 hH=>hH.lend .z fun Hl2 hle2 hA2 hB2 hH=>(l01Times_c ((had.le hle1).le hle2) ((own_terms (by simp only [toS_ofS,addS_one];exact gt1.wf (by omega)) hA1).le hle2) (own_terms (one_wf hbm) hA2) hn hd (by rw [toS_ofS];exact times_kex (one_g hlp) (hf9 k hkl).1.g (one_kex hle) (hk9 k hkl)) (one_kex hbe) (by simp only [toS_ofS,addS_one];exact gt1.g) (one_g hbp) (by omega) (by have h:=times_len ad (toS (ofS (addS [] (leftP (tm f i).mono k) 1))) (toS (fm af k));rw [toS_len,toS_len,one_len] at h;rw [one_len,ofS_len];omega) (by have h:=times_len ad (toS (ofS (addS [] (leftP (tm f i).mono k) 1))) (toS (fm af k));rw [toS_len,toS_len,one_len] at h;rw [ofS_len];omega) hH).mono ?_;rintro _ w ⟨qo98,co98,rfl,hH⟩;replace hH:=hB2 _ _ hH;replace hH:=hB1 _ _ hH;refine ⟨_,rfl,fun a hF=>JT hF hH ?_⟩;refine Jw .z (Jw (.s .z) (Jw (.s (.s .z)) (Js ?_)));exact hK qo98 co98 zq2 zc2 zb zv
      ·
       intro gh gh' h;refine ⟨?_,?_⟩ <;> (first | simp only [h 5 rfl] | rfl)
      apply Jy 8 rfl
      iterate 3 focus (intros;(conv=>lhs;simp only [Jo,JB,Ee,JD,JR,eq_self,Nat.reduceEqDiff,reduceIte,Nat.reduceSub,Nat.reduceAdd,List.cons_append,List.nil_append]);all_goals rfl)
      ·
       intro gh X K zq zc zq2 zc2 zb zv hK;refine Jg (Jc rfl) rfl (Js ?_);exact hK zq zc zq2 zc2 zb zv
      ·
       intro gh gh' h
       rfl
      apply Jy 9 rfl
      iterate 3 focus (intros;(conv=>lhs;simp only [Jo,JB,Ee,JD,JR,eq_self,Nat.reduceEqDiff,reduceIte,Nat.reduceSub,Nat.reduceAdd,List.cons_append,List.nil_append]);all_goals rfl)
      ·
       intro gh X K zq zc zq2 zc2 zb zv hK;refine Jz fn65 rfl rfl fun w hH=>(l01Mod_c (by omega) hH).mono ?_;rintro _ w ⟨rfl,hH⟩;refine ⟨_,rfl,fun a hF=>JT hF hH ?_⟩;refine Js ?_;exact hK zq zc zq2 zc2 zb zv
      ·
       intro gh gh' h
       first | simp only [h 5 rfl,h 6 rfl] | rfl
      apply En 10 rfl
      iterate 3 focus (intros;(conv=>lhs;simp only [Jo,JB,Ee,JD,JR,eq_self,Nat.reduceEqDiff,reduceIte,Nat.reduceSub,Nat.reduceAdd,List.cons_append,List.nil_append]);all_goals rfl)
      ·
       intro gh X K zq zc zq2 zc2 zb zv hK;refine Jz fn64 rfl rfl fun w hH=>hH.lend (.s .z) fun Hl1 hle1 hA1 hB1 hH=>hH.lend .z fun Hl2 hle2 hA2 hB2 hH=>(l01Add_c ((own_terms wfO hA1).le hle2) (own_terms (by simp only [toS_ofS,addS_one];exact gt2.wf (by omega)) hA2) (by rw [toS_ofS];exact d2_sok hf9 hs hoc (by omega) k) (by simp only [toS_ofS,addS_one];exact gt2.g) (by omega) (fld_bd _) (by have h1:=dT_len ad (toS (fm af k)) (tm f i).mono k;unfold dT at h1;rw [toS_len] at h1;simp only [toS_ofS,addS_one,ofS_len];omega) hH).mono ?_;rintro _ w ⟨qo101,co101,rfl,hH⟩;replace hH:=hB2 _ _ hH;replace hH:=hB1 _ _ hH;refine ⟨_,rfl,fun a hF=>JT hF hH ?_⟩;refine Jw .z (Jw (.s .z) (Jw (.s (.s .z)) (Js ?_)));exact hK qo101 co101 zq2 zc2 zb zv
      ·
       intro gh gh' h;refine ⟨?_,?_⟩ <;> (first | simp only [h 5 rfl,h 6 rfl] | rfl)
      apply GJ.sn1 11 rfl
      iterate 3 focus (intros;(conv=>lhs;simp only [Jo,JB,Ee,JD,JR,eq_self,Nat.reduceEqDiff,reduceIte,Nat.reduceSub,Nat.reduceAdd,List.cons_append,List.nil_append]);all_goals rfl)
      ·
       intro gh X K hK;refine JF rfl rfl (by first | exact bytesC_one _ | exact intsC_one _ | exact Term.c_one _ | simp [Value.oneCell']) (by simpa [*] using sz74) (by simp [*]) At.z (Js ?_);exact hK
      ·
       intro gh gh' h
       first | simp only [h 5 rfl,h 6 rfl,h 9 rfl] | rfl
      apply Ez [0,1,2,3,4,5,6,7,8,9,10] [0,1,2,3,4,5,6,7,8,9,10,11,12,13,14,15,16,17,19,20,21,22] foll0 rfl rfl rfl (by rfl)
      iterate 2 focus (intros;(conv=>lhs;simp only [Jo,JB,Ee,JD,JR,eq_self,Nat.reduceEqDiff,reduceIte,Nat.reduceSub,Nat.reduceAdd,List.cons_append,List.nil_append]);all_goals rfl)
      intro gh;generalize (gh 5).c=co97;generalize (gh 5).q=qo97;generalize (gh 6).c=co98;generalize (gh 6).q=qo98;generalize (gh 9).c=co101;generalize (gh 9).q=qo101;clear gh;refine JE (Ja (hK12 (Jb (Jg (Jc rfl) rfl (Jg (JA rfl rfl (by first | exact nw _ (by omega) | rfl)) rfl (Jg (Jd rfl) rfl (Jf (Ja (JQ (.s (.s (.s (.s (.s (.s (.s (.s (.s (.s (.s .z))))))))))) (JQ .z (JQ .z (JQ (.s (.s .z)) (JQ (.s (.s .z)) (JQ (.s (.s .z)) (JQ (.s (.s .z)) ?_)))))))))))))));refine JQ (.s (.s .z)) (JQ (.s (.s .z)) (Jw (.s (.s (.s (.s (.s .z))))) (Jw (.s (.s (.s (.s (.s .z))))) (Jw (.s (.s (.s (.s (.s .z))))) (Jw (.s (.s (.s .z))) (Jw (.s (.s (.s (.s .z)))) (Jw (.s (.s (.s (.s (.s .z))))) ?_)))))));exact hAg1 (qo101,co101,k+1) (by show k+1≤ad.length;omega) (by show ad.length - (k+1)<ad.length - k;omega) 63 rfl rfl ⟨rfl,trivial⟩ rfl (by simp only [toS_ofS,addS_one];rw [← acc_dP (ds:=ad) (fs:=af) (x:=((tm f i).mono,(tm f i).fac)) (k:=k) hpos,← hv];rfl)
  ·
   refine JG (Ji (Ji (JN (JE (Ja (hK7 (Jb (Jg (Jc rfl) rfl (Jg (JA rfl rfl (by first | exact nw _ (by omega) | rfl)) rfl (Jg (Jd rfl) rfl (Jf (Ja (JQ .z ?_)))))))))))));exact hAg0 (q1,c1,i+1) (by show i+1≤f.length;omega) (by show f.length - (i+1)<f.length - i;omega) 23 rfl rfl ⟨rfl,trivial⟩ rfl (by dsimp only;rw [dAll_take (by omega),← dLk_8 hn hxe,show ad.length=k by omega])
 ·
  refine JG (Ji (Ji (JN (Ja (hK3 (Je fun _ hK30 _=>(Jb (Jg (Ju rfl At.z (by simpa [*] using ag74)) rfl (JF rfl rfl (by first | exact bytesC_one _ | exact intsC_one _ | exact Term.c_one _ | simp [Value.oneCell']) (by simpa [*] using sz74) (by simp [*]) (.s (.s .z)) (Jf (Ja (hK30 (Jp (Jk rfl (Res.agg rfl (.s (.s .z)) (by simpa [*] using ag74)) fun w hH=>?_))))))))))))));replace hH:=hH.sublist (.cons _ (.cons_cons _ (.cons _ (.cons _ (.cons _ (List.Sublist.refl _))))))
  obtain rfl:i=f.length:=by omega
  rw [List.take_length] at hH ⊢;exact ⟨_,_,rfl,hH⟩
theorem fn109:Fn Try.prog 109:=⟨_,Try.func109,by kernel_rfl,rfl⟩
theorem fn93:Fn Try.prog 93:=⟨_,Try.func93,by kernel_rfl,rfl⟩
def ClF (B:World) (H0 H:HP) (g:Nat) (cap:Array Value) (S:List Term→Prop) (p:List Term→Bool):Prop:=∀(H':HP) (L:List SA) (w:World) (q:Option Addr) (c:Nat) (x:List Term),Le H H' →S x→Terms H' q x→Hp B H0 H' L w→Calls Try.prog g (#[]++[.agg [.slice q x.length c].toArray].toArray++cap) w fun e w'=>e = .returned (.bool (p x))∧Hp B H0 H' L w'
def idxF (xs:List (List Term)) (p:List Term→Bool):Int:=if xs.any p then (xs.findIdx p:Int) else -1
theorem fm_eq {xs:List (List Term)} {j:Nat} (hj:j<xs.length):xs[j]=fm xs j:=by simp [fm,List.getD_eq_getElem?_getD,List.getElem?_eq_getElem hj]
theorem fm_mem {xs:List (List Term)} {j:Nat} (hj:j<xs.length):fm xs j∈xs:=by rw [← fm_eq hj];exact List.getElem_mem hj
theorem idxF_hit {xs:List (List Term)} {p:List Term→Bool} {k:Nat} (hk:k<xs.length) (h : ∀j,j<k→p (fm xs j)=false) (hp:p (fm xs k)=true):idxF xs p=k:=by
 unfold idxF;have ha:xs.any p=true:=List.any_eq_true.2 ⟨xs[k],List.getElem_mem hk,by rw [fm_eq];exact hp⟩;rw [if_pos ha]
 have:xs.findIdx p=k:=by
  rw [List.findIdx_eq hk];exact ⟨by rw [fm_eq];exact hp,fun j hj=>by rw [fm_eq];exact h j hj⟩
 rw [this]
theorem idxF_miss {xs:List (List Term)} {p:List Term→Bool} (h : ∀j,j<xs.length→p (fm xs j)=false):idxF xs p = -1:=by
 unfold idxF;rw [if_neg];intro ha;obtain ⟨x,hx,hp⟩:=List.any_eq_true.1 ha;obtain ⟨j,hj,rfl⟩:=List.mem_iff_getElem.1 hx;rw [fm_eq hj,h j hj] at hp
 cases hp
theorem idxF_ge (xs:List (List Term)) (p:List Term→Bool):decide (idxF xs p≥0)=xs.any p:=by
 unfold idxF
 cases h:xs.any p with
 | true=>rw [if_pos rfl];exact decide_eq_true (by omega)
 | false=>rw [if_neg (by simp)];exact decide_eq_false (by omega)
def degOk (ds:List Int) (ts:List Term) (x:Int):Bool:=homog ds ts && (decide (degF ds ts = -1) || decide (degF ds ts=x))
def imOk (ds:List Int) (fs:List (List Term)) (i:Nat):Bool:=isForm ds (fm fs i) && degOk ds (fm fs i) (ds.getD i 0+1)
def imsOk (ds:List Int) (fs:List (List Term)):Bool:=(List.range fs.length).all (imOk ds fs)
def noD (ds:List Int) (fs:List (List Term)):Bool:=(List.range fs.length).all fun i=>decide ((dS ds fs (toS (fm fs i))).length=0)
def isAlg (ds:List Int) (fs:List (List Term)):Bool:=isDeg ds && decide (fs.length=ds.length) && imsOk ds fs && noD ds fs
theorem imsOk_bad {ds:List Int} {fs:List (List Term)} {i:Nat} (hi:i<fs.length) (h:imOk ds fs i=false):imsOk ds fs=false:=List.all_eq_false.2 ⟨i,by simpa using hi,by simp [h]⟩
theorem imsOk_good {ds:List Int} {fs:List (List Term)} (h : ∀j,j<fs.length→imOk ds fs j=true):imsOk ds fs=true:=List.all_eq_true.2 fun j hj=>h j (by simpa using hj)
theorem imsOk_at {ds:List Int} {fs:List (List Term)} (h:imsOk ds fs=true) {i:Nat} (hi:i<fs.length):imOk ds fs i=true:=List.all_eq_true.1 h i (by simpa using hi)
theorem noD_bad {ds:List Int} {fs:List (List Term)} {i:Nat} (hi:i<fs.length) (h : ¬(dS ds fs (toS (fm fs i))).length=0):noD ds fs=false:=List.all_eq_false.2 ⟨i,by simpa using hi,by simpa using h⟩
theorem noD_good {ds:List Int} {fs:List (List Term)} (h : ∀j,j<fs.length→(dS ds fs (toS (fm fs j))).length=0):noD ds fs=true:=List.all_eq_true.2 fun j hj=>by simpa using h j (by simpa using hj)
theorem isMono_le {ds m:List Int} (h:isMono ds m=true) {j:Nat} (hj:j<8):m.getD j 0≤most ds j:=by
 unfold isMono at h
 simpa using List.all_eq_true.1 h j (by simpa using hj)
theorem isMono_pok {ds m:List Int} (h:isMono ds m=true) (hm:Mono m):Pok 20 m:=⟨hm.len,fun j=>by
 have b:=hm.bd j
 rcases Nat.lt_or_ge j 8 with hj | hj
 ·have:=isMono_le h hj
  unfold most at this
  split at this
  ·split at this <;> omega
  ·omega
 ·rw [getD_ge (by rw [hm.len];omega)]
  omega⟩
theorem isMono_ex {ds m:List Int} (hd : ∀j,0≤ds.getD j 0∧ds.getD j 0≤12) (hn:ds.length≤8) (h:isMono ds m=true) (hm:Mono m):Ex ds m:=⟨fun i hi=>by
 rcases Nat.lt_or_ge i 8 with hj | hj
 ·have a:=isMono_le h hj
  have b:=(hm.bd i).1
  rw [most_ge (by omega)] at a
  omega
 ·exact getD_ge (by rw [hm.len];omega),fun i hi ho=>by
 have a:=isMono_le h (j:=i) (by omega)
 rw [most_odd (by omega) ho (hd i).1] at a
 exact a⟩
theorem isForm_at {ds:List Int} {ts:List Term} (h:isForm ds ts=true) {i:Nat} (hi:i<ts.length):goodAt ds ts i=true:=by
 unfold isForm at h;exact List.all_eq_true.1 (Bool.and_eq_true_iff.1 h).2 i (by simpa using hi)
theorem srt_of {s:Sm}:(∀i,0<i→i<s.length→before (s.getD (i - 1) ([],0)).1 (s.getD i ([],0)).1=true)→s.Pairwise fun x y=>before x.1 y.1=true:=by
 induction s with
 | nil=>intro _;exact List.Pairwise.nil
 | cons x s ih=>
  intro h
  have h2:=ih fun i h0 hi=>by
   have:=h (i+1) (by omega) (by simp;omega);simp only [Nat.add_sub_cancel,List.getD_cons_succ] at this;rw [show i=(i - 1)+1 by omega,List.getD_cons_succ] at this
   rwa [show i - 1+1=i by omega] at this
  refine List.pairwise_cons.2 ⟨fun y hy=>?_,h2⟩
  cases s with
  | nil=>simp at hy
  | cons z s=>
   have hz:before x.1 z.1=true:=by simpa using h 1 (by omega) (by simp)
   rcases List.mem_cons.1 hy with rfl | hy
   ·exact hz
   ·exact before_tr hz ((List.pairwise_cons.1 h2).1 y hy)
theorem toS_getD {ts:List Term} {i:Nat} (hi:i<ts.length):(toS ts).getD i ([],0)=((tm ts i).mono,(tm ts i).fac):=by
 simp [toS,tm,List.getD_eq_getElem?_getD,hi]
theorem isForm_sok {ds:List Int} {ts:List Term} (hw:Wfs ts) (h:isForm ds ts=true):Sok 20 (toS ts):=by
 have hg : ∀i,i<ts.length→isMono ds (tm ts i).mono=true∧(1≤(tm ts i).fac∧(tm ts i).fac≤10006)∧(i=0∨before (tm ts (i - 1)).mono (tm ts i).mono=true):=fun i hi=>by
  have:=isForm_at h hi;unfold goodAt at this
  simpa [and_assoc] using this
 refine ⟨srt_of fun i h0 hi=>?_,fun x hx=>?_,fun x hx=>?_⟩
 ·rw [toS_len] at hi;rw [toS_getD hi,toS_getD (by omega)];exact (hg i hi).2.2.resolve_left (by omega)
 ·obtain ⟨t,ht,rfl⟩:=toS_mem hx;obtain ⟨i,hi,rfl⟩:=List.mem_iff_getElem.1 ht;rw [tm_eq hi];exact isMono_pok (hg i hi).1 (hw _ (by rw [← tm_eq hi];exact ht)).mono
 ·obtain ⟨t,ht,rfl⟩:=toS_mem hx;obtain ⟨i,hi,rfl⟩:=List.mem_iff_getElem.1 ht;rw [tm_eq hi];exact (hg i hi).2.1
theorem isForm_kex {ds:List Int} {ts:List Term} (hd : ∀j,0≤ds.getD j 0∧ds.getD j 0≤12) (hn:ds.length≤8) (hw:Wfs ts) (h:isForm ds ts=true):KEx ds (toS ts):=fun x hx=>by
 obtain ⟨t,ht,rfl⟩:=toS_mem hx
 obtain ⟨i,hi,rfl⟩:=List.mem_iff_getElem.1 ht
 have:=isForm_at h hi
 unfold goodAt at this
 rw [tm_eq hi]
 exact isMono_ex hd hn (by simp at this;exact this.1.1) (hw _ (by rw [← tm_eq hi];exact ht)).mono
theorem isForm_len4 {ds:List Int} {ts:List Term} (h:isForm ds ts=true):ts.length≤400:=by
 unfold isForm at h
 simpa using (Bool.and_eq_true_iff.1 h).1
theorem Wfss.fm {fs:List (List Term)} (h:Wfss fs) (i:Nat):Wfs (G.fm fs i):=by
 rcases Nat.lt_or_ge i fs.length with hi | hi
 ·exact h _ (fm_mem hi)
 ·rw [G.fm,List.getD_eq_getElem?_getD,List.getElem?_eq_none hi];exact Wfs.nil
structure AlgOk (ds:List Int) (fs:List (List Term)):Prop where
 hn:ds.length≤8
 hd : ∀j,0≤ds.getD j 0∧ds.getD j 0≤12
 hl:fs.length=ds.length
 ok : ∀i,i<fs.length→isForm ds (fm fs i)=true
 wf:Wfss fs
theorem AlgOk.fok {ds:List Int} {fs:List (List Term)} (h:AlgOk ds fs):Fok 20 fs:=fun i hi=>⟨isForm_sok (h.wf.fm i) (h.ok i hi),by have:=isForm_len4 (h.ok i hi);omega⟩
theorem AlgOk.kex {ds:List Int} {fs:List (List Term)} (h:AlgOk ds fs) : ∀i,i<fs.length→KEx ds (toS (G.fm fs i)):=fun i hi=>isForm_kex h.hd h.hn (h.wf.fm i) (h.ok i hi)
theorem AlgOk.len {ds:List Int} {fs:List (List Term)} (h:AlgOk ds fs) : ∀i,i<fs.length→(G.fm fs i).length≤10000:=fun i hi=>by have:=isForm_len4 (h.ok i hi);omega
theorem AlgOk.of {ds:List Int} {fs:List (List Term)} (hD:isDeg ds=true) (hl:fs.length=ds.length) (hi:imsOk ds fs=true) (hw:Wfss fs):AlgOk ds fs:=⟨isDeg_len hD,isDeg_bd hD,hl,fun i h=>(Bool.and_eq_true_iff.1 (imsOk_at hi h)).1,hw⟩
theorem isAlg_ok {ds:List Int} {fs:List (List Term)} (h:isAlg ds fs=true) (hw:Wfss fs):AlgOk ds fs:=by
 unfold isAlg at h;simp only [Bool.and_eq_true,decide_eq_true_eq] at h;exact AlgOk.of h.1.1.1 h.1.1.2 h.1.2 hw
theorem degF_neg {ds:List Int} {ts:List Term} (hn:ds.length≤8) (hd : ∀j,0≤ds.getD j 0∧ds.getD j 0≤12) (hw:Wfs ts) (hh:homog ds ts=true):degF ds ts = -1↔¬(0<ts.length):=by
 unfold degF outAt;rw [hh,if_pos rfl]
 by_cases e:ts.length=0
 ·rw [if_pos e];omega
 ·rw [if_neg e];have:=wd_bd (i:=0) (ts:=ts) hn hd (hw _ (by rw [← tm_eq (by omega)];exact List.getElem_mem (by omega))).mono
  omega
theorem IndexFuncF_c {B:World} {H0 H:HP} {L:List SA} {w:World} {qxs:Option Addr} {cxs:Nat} {xs:List (List Term)} {gp:Nat} {capp:Array Value} {Sp:List Term→Prop} {p:List Term→Bool} (hxs:Forms H qxs xs) (hgp:Fn Try.prog gp) (hp:ClF B H0 H gp capp Sp p) (hn:xs.length≤9223372036854775807) (hS : ∀i,i<xs.length→Sp (fm xs i)) (hH:Hp B H0 H L w):Calls Try.prog 93 [.slice qxs xs.length cxs,.func (.func gp) #[] capp].toArray w fun e w'=>e = .returned (.int .i64 (idxF xs p))∧Hp B H0 H L w':=by
 refine Jt Try.func93 rfl 19 rfl rfl [(0,.slice qxs xs.length cxs),(1,.func (.func gp) #[] capp)] rfl hH ?_;clear hH;refine Je fun _ hK1 _=>(Jb (Jg (Jd rfl) rfl (Jf (Ja (hK1 (Je fun _ hK2 _=>(Je fun _ hK3 _=>(Jb (Jg (Jc rfl) rfl (Jg (Jn u30 rfl rfl) rfl (Jg (Jc rfl) rfl (Jf (Ja (hK3 (Jm (JC (σ:=Nat) (fun (k:Nat)=>[(8,.int .i64 (k:Int))]) (fun (k:Nat)=>H) (fun (k:Nat)=>L) (fun (k:Nat)=>k≤xs.length∧∀j,j<k→p (fm xs j)=false) (fun (k:Nat)=>xs.length - k) 0 ⟨by omega,fun j hj=>by omega⟩ ⟨rfl,trivial⟩ rfl rfl ?_))))))))))))))));rintro k hI _ hAg0;have hk:=hI.1;refine Je fun _ hK4 _=>(Jb (Jg (JM rfl rfl) rfl (Jf (Ja (hK4 (Je fun _ hK5 _=>(Jl rfl (fun hc9=>?_) (fun hc9=>?_))))))))
 ·
  refine Jj (Ja (hK5 (Je fun _ hK6 _=>(Jm (Je fun _ hK7 _=>(Jb (Jg (Jc rfl) rfl (Jg (Jd rfl) rfl (Jf (Ja (hK7 (Je fun _ hK8 _=>(Jb (Jg (Jc rfl) rfl (Jg (Jc rfl) rfl (Jg (Jc rfl) rfl ?_))))))))))))))));refine Jg (JY u30 sz74 rfl rfl rfl (by omega) hxs.sm) rfl ?_;obtain ⟨qe15,ce15,he15,le15,Fe15⟩:=hxs k (by omega);refine Jg (JH (cs:=[_]) rfl (one_cell he15) (hxs.sm (i:=k) (by omega)) ag74) rfl (J.callV hgp rfl rfl rfl fun w hH=>(hp _ _ w _ _ _ (Le.refl _) (hS _ (by omega)) Fe15 hH).mono ?_);rintro _ w ⟨rfl,hH⟩;refine ⟨_,rfl,fun a hF=>JT hF hH ?_⟩;refine Jf (Ja (hK8 (Eh rfl (fun h16=>?_) (fun h16=>?_))))
  ·
   refine Je fun _ hK9 _=>(Jb (Jg (Jc rfl) rfl (Jg (Jd rfl) rfl (Jf (Ja (hK9 (Jp (JJ (Jh (Jh (JJ (Jh (Jk rfl (Res.tmp rfl) fun w hH=>?_)))))))))))));exact ⟨ri (idxF_hit (by omega) hI.2 h16).symm,hH⟩
  ·
   refine Jj (JE (Ja (hK6 (Jb (Jg (JA rfl rfl (by first | exact nw _ (by omega) | rfl)) rfl (Jg (Jc rfl) rfl (Jf (Ja ?_))))))));exact hAg0 (k+1) ⟨by omega,upto hI.2 h16⟩ (by omega) 12 rfl rfl ⟨rfl,trivial⟩ rfl rfl
 ·
  refine JG (Ji (Ji (JN (Ja (hK2 (Je fun _ hK10 _=>(Jb (Jg (Jd rfl) rfl (Jf (Ja (hK10 (Jp (Jk rfl (Res.tmp rfl) fun w hH=>?_)))))))))))));exact ⟨ri (idxF_miss (fun j hj=>hI.2 j (by omega))).symm,hH⟩
theorem ContainsFuncF_c {B:World} {H0 H:HP} {L:List SA} {w:World} {qxs:Option Addr} {cxs:Nat} {xs:List (List Term)} {gp:Nat} {capp:Array Value} {Sp:List Term→Prop} {p:List Term→Bool} (hxs:Forms H qxs xs) (hgp:Fn Try.prog gp) (hp:ClF B H0 H gp capp Sp p) (hn:xs.length≤9223372036854775807) (hS : ∀i,i<xs.length→Sp (fm xs i)) (hH:Hp B H0 H L w):Calls Try.prog 70 [.slice qxs xs.length cxs,.func (.func gp) #[] capp].toArray w fun e w'=>e = .returned (.bool (xs.any p))∧Hp B H0 H L w':=by
 refine Jt Try.func70 rfl 9 rfl rfl [(0,.slice qxs xs.length cxs),(1,.func (.func gp) #[] capp)] rfl hH ?_;clear hH;refine Je fun _ hK1 _=>(Jb (Jg (Jd rfl) rfl (Jf (Ja (hK1 (Je fun _ hK2 _=>(Jb (Jg (Jc rfl) rfl (Jg (Jc rfl) rfl (Jz fn93 rfl rfl fun w hH=>(IndexFuncF_c hxs hgp hp (by omega) hS hH).mono ?_))))))))));rintro _ w ⟨rfl,hH⟩;refine ⟨_,rfl,fun a hF=>JT hF hH ?_⟩;refine Jg (PR.geq rfl rfl) rfl (Jg (Jd rfl) rfl (Jf (Ja (hK2 (Jp (Jk rfl (Res.tmp rfl) fun w hH=>?_))))));exact ⟨rb (idxF_ge xs p),hH⟩
theorem isOfDegree_c {B:World} {H0 H:HP} {L:List SA} {w:World} {qds:Option Addr} {cds:Nat} {ds:List Int} {qts:Option Addr} {cts:Nat} {ts:List Term} {x:Int} (hds:Ints H qds ds) (hts:Terms H qts ts) (hn:ds.length≤8) (hd : ∀j,0≤ds.getD j 0∧ds.getD j 0≤12) (hl:ts.length≤9223372036854775807) (hH:Hp B H0 H L w):Calls Try.prog 90 [.slice qds ds.length cds,.agg [.slice qts ts.length cts].toArray,.int .i64 x].toArray w fun e w'=>e = .returned (.bool (degOk ds ts x))∧Hp B H0 H L w':=by
 refine Jt Try.func90 rfl 25 rfl rfl [(0,.slice qds ds.length cds),(1,.agg [.slice qts ts.length cts].toArray),(2,.int .i64 x)] rfl hH ?_;clear hH;refine Je fun _ hK1 _=>(Jb (Eb rfl rfl rfl fun g4=>(Jg (Jd rfl) rfl (Jf (Ja (hK1 (Je fun _ hK2 _=>(Jb (Jg (Jc rfl) rfl (Jg (Ju rfl At.z (by simpa [*] using ag74)) rfl (Jz fn109 rfl rfl fun w hH=>(degreeOf_c hds hts hn hd (by omega) hH).mono ?_)))))))))));rintro _ w ⟨rfl,hH⟩;refine ⟨_,rfl,fun a hF=>JT hF hH ?_⟩;refine Jg (Jc rfl) rfl (Jg (JI rfl rfl) rfl (Jg (JI rfl rfl) rfl (Jg (Jd rfl) rfl (Jg (Jd rfl) rfl (Jf (Ja (hK2 (Je fun _ hK3 _=>(Jb (Jg (Jc rfl) rfl (Jg (Jc rfl) rfl (Eg (jd:=16) rfl (fun hg16=>?_) (fun hg16=>?_)))))))))))))
 ·
  try have hg16p:=of_decide_eq_true hg16
  refine JU (Jc rfl) rfl rfl rfl hg16 (JU (Ew rfl rfl) rfl rfl rfl hg16 (JU (Jc rfl) rfl rfl rfl hg16 (Eg (jd:=19) rfl (fun hg19=>?_) (fun hg19=>?_))))
  ·
   try have hg19p:=of_decide_eq_true hg19
   refine JO rfl rfl rfl hg19 (JO rfl rfl rfl hg19 (JO rfl rfl rfl hg19 (JU (JX rfl hg19 rfl) rfl rfl rfl hg16 (Jg (JX rfl hg16 rfl) rfl (Jg (Jd rfl) rfl (Jf (Ja (hK3 (Jp (Jk rfl (Res.tmp rfl) fun w hH=>?_))))))))));replace hH:=hH.tail;exact ⟨rb (by unfold degOk;rw [hg16,hg19];rfl),hH⟩
  ·
   try have hg19p:=of_decide_eq_false hg19
   refine JU (Jc rfl) rfl rfl rfl hg19 (JU (Jc rfl) rfl rfl rfl hg19 (JU (Ew rfl rfl) rfl rfl rfl hg19 (JU (JV rfl hg19 rfl) rfl rfl rfl hg16 (Jg (JX rfl hg16 rfl) rfl (Jg (Jd rfl) rfl (Jf (Ja (hK3 (Jp (Jk rfl (Res.tmp rfl) fun w hH=>?_))))))))));replace hH:=hH.tail;exact ⟨rb (by unfold degOk;rw [hg16,hg19];simp),hH⟩
 ·
  try have hg16p:=of_decide_eq_false hg16
  refine JO rfl rfl rfl hg16 (JO rfl rfl rfl hg16 (JO rfl rfl rfl hg16 (J.gu rfl rfl rfl (J.gu rfl rfl rfl (J.gu rfl rfl rfl (JO rfl rfl rfl hg16 (Jg (JV rfl hg16 rfl) rfl (Jg (Jd rfl) rfl (Jf (Ja (hK3 (Jp (Jk rfl (Res.tmp rfl) fun w hH=>?_)))))))))))));replace hH:=hH.tail;exact ⟨rb (by unfold degOk;rw [hg16];rfl),hH⟩
theorem ag32:Agg Try.prog 32 2:=⟨_,u32,rfl,by kernel_rfl⟩
theorem fn38:Fn Try.prog 38:=⟨_,Try.func38,by kernel_rfl,rfl⟩
theorem fn52:Fn Try.prog 52:=⟨_,Try.func52,by kernel_rfl,rfl⟩
theorem fn58:Fn Try.prog 58:=⟨_,Try.func58,by kernel_rfl,rfl⟩
theorem fn59:Fn Try.prog 59:=⟨_,Try.func59,by kernel_rfl,rfl⟩
theorem fn60:Fn Try.prog 60:=⟨_,Try.func60,by kernel_rfl,rfl⟩
theorem fn70:Fn Try.prog 70:=⟨_,Try.func70,by kernel_rfl,rfl⟩
theorem fn72:Fn Try.prog 72:=⟨_,Try.func72,by kernel_rfl,rfl⟩
theorem fn89:Fn Try.prog 89:=⟨_,Try.func89,by kernel_rfl,rfl⟩
theorem fn90:Fn Try.prog 90:=⟨_,Try.func90,by kernel_rfl,rfl⟩
theorem fn91:Fn Try.prog 91:=⟨_,Try.func91,by kernel_rfl,rfl⟩
theorem imOk_yes {ds:List Int} {fs:List (List Term)} {i:Nat} (h1:isForm ds (fm fs i)=true) (h2:homog ds (fm fs i)=true) (h3:degF ds (fm fs i) = -1∨degF ds (fm fs i)=ds.getD i 0+1):imOk ds fs i=true:=by
 unfold imOk degOk;rw [h1,h2]
 rcases h3 with h | h <;> rw [decide_eq_true h] <;> simp
theorem imOk_no1 {ds:List Int} {fs:List (List Term)} {i:Nat} (h1:isForm ds (fm fs i)=false):imOk ds fs i=false:=by unfold imOk;rw [h1];rfl
theorem imOk_no2 {ds:List Int} {fs:List (List Term)} {i:Nat} (h1:homog ds (fm fs i)=false):imOk ds fs i=false:=by unfold imOk degOk;rw [h1];simp
theorem imOk_no3 {ds:List Int} {fs:List (List Term)} {i:Nat} (h1 : ¬degF ds (fm fs i) = -1) (h2 : ¬degF ds (fm fs i)=ds.getD i 0+1):imOk ds fs i=false:=by unfold imOk degOk;rw [decide_eq_false h1,decide_eq_false h2];simp
theorem l02Is_c {B:World} {H0 H:HP} {L:List SA} {w:World} {qad qaf:Option Addr} {cad caf:Nat} {ad:List Int} {af:List (List Term)} (had:Ints H qad ad) (haf:Forms H qaf af) (hn8:ad.length≤1048576) (hn9:af.length≤1048576) (hl9 : ∀i,i<af.length→(fm af i).length≤1048576) (hH:Hp B H0 H L w):Calls Try.prog 33 [.agg [.slice qad ad.length cad,.slice qaf af.length caf].toArray].toArray w fun e w'=>e = .returned (.bool (isAlg ad af))∧Hp B H0 H L w':=by
 refine Jt Try.func33 rfl 86 rfl rfl [(0,.agg [.slice qad ad.length cad,.slice qaf af.length caf].toArray)] rfl hH ?_;clear hH;refine Je fun _ hK1 _=>(Jb (Eb rfl rfl rfl fun g1=>(Jg (Jd rfl) rfl (Jf (Ja (hK1 (Je fun _ hK2 _=>(Je fun _ hK3 _=>(Jb (Jg (Jq u32 rfl sz22 rfl) rfl (Jg (Jr rfl At.z rfl pl22) rfl (Jz fn58 rfl rfl fun w hH=>(l01Degrees_c had (by omega) hH).mono ?_))))))))))));rintro _ w ⟨rfl,hH⟩;refine ⟨_,rfl,fun a hF=>JT hF hH ?_⟩;refine Jg (Ei rfl) rfl (Jg (Jc rfl) rfl (Eg (jd:=11) rfl (fun hg11=>?_) (fun hg11=>?_)))
 ·
  try have hg11p:=of_decide_eq_true hg11
  refine JO rfl rfl rfl hg11 (JO rfl rfl rfl hg11 (JO rfl rfl rfl hg11 (JO rfl rfl rfl hg11 (JO rfl rfl rfl hg11 (JO rfl rfl rfl hg11 (JO rfl rfl rfl hg11 (Jg (JX rfl hg11 rfl) rfl (Jf (Ja (hK3 (El rfl (Je fun _ hK4 _=>(Jb (Jg (Jd rfl) rfl (Jf ?_)))))))))))))));refine Ja (hK4 (Jp (Jh (Jk rfl (Res.tmp rfl) fun w hH=>?_))));replace hH:=hH.tail;exact ⟨rb (by unfold isAlg;rw [show isDeg ad=false by simpa using hg11];rfl),hH⟩
 ·
  try have hg11p:=of_decide_eq_false hg11
  refine JU (Jq u32 rfl sz30 rfl) rfl rfl rfl hg11 (JU (Jr rfl At.z rfl pl30) rfl rfl rfl hg11 (JU (Jn u30 rfl rfl) rfl rfl rfl hg11 (JU (Jq u32 rfl sz22 rfl) rfl rfl rfl hg11 (JU (Jr rfl At.z rfl pl22) rfl rfl rfl hg11 (JU (Jn u22 rfl rfl) rfl rfl rfl hg11 (JU (Ek rfl rfl) rfl rfl rfl hg11 (Jg (JV rfl hg11 rfl) rfl (Jf (Ja (hK3 (Jl rfl (fun hc19=>?_) (fun hc19=>?_))))))))))))
  ·
   refine Je fun _ hK5 _=>(Jb (Jg (Jd rfl) rfl (Jf (Ja (hK5 (Jp (Jh (Jk rfl (Res.tmp rfl) fun w hH=>?_))))))));replace hH:=hH.tail;exact ⟨rb (by unfold isAlg;rw [decide_eq_false (show ¬af.length=ad.length by omega)];simp),hH⟩
  ·
   have hD:isDeg ad=true:=by simpa using hg11
   have hn:=isDeg_len hD;have hd:=isDeg_bd hD
   have hlen:af.length=ad.length:=by omega
   have hpos9 : ∀j,j<ad.length→0≤ad.getD j 0:=fun j _=>(hd j).1;refine Jj (Ja (hK2 (Je fun _ hK6 _=>(Je fun _ hK7 _=>(Jb (Jg (Jd rfl) rfl (Jf (Ja (hK7 (Jm (JC (σ:=Nat) (fun (i:Nat)=>[(3,.int .i64 (i:Int))]) (fun (i:Nat)=>H) (fun (i:Nat)=>obj g1 (.cells [.slice qad ad.length cad,.slice qaf af.length caf].toArray 32 (0,0))::L) (fun (i:Nat)=>i≤af.length∧∀j,j<i→imOk ad af j=true) (fun (i:Nat)=>af.length - i) 0 ⟨by omega,fun j hj=>by omega⟩ ⟨rfl,trivial⟩ rfl rfl ?_)))))))))));rintro i ⟨hi,hI⟩ _ hAg0;refine Je fun _ hK8 _=>(Je fun _ hK9 _=>(Jb (Jg (Jc rfl) rfl (Jg (Jq u32 rfl sz30 rfl) rfl (Jg (Jr rfl At.z rfl pl30) rfl (Jg (Jn u30 rfl rfl) rfl (Jg (JM rfl rfl) rfl (Jf (Ja (hK9 (Jl rfl (fun hc24=>?_) (fun hc24=>?_))))))))))))
   ·
    have hl0:=hl9 i (by omega);have hdi:=hd i;refine Jj (Ja (hK8 (Je fun _ hK10 _=>(Jm (Je fun _ hK11 _=>(Je fun _ hK12 _=>(Ep [[], [0], [], [2], [], [3,4], [5]] (by kernel_rfl) (Jx (fun gh=>Jq u32 rfl sz22 rfl) (Jx (fun gh=>Jr rfl At.z rfl pl22) (Jx (fun gh=>Jq u32 rfl sz30 rfl) (Jx (fun gh=>Jr rfl At.z rfl pl30) (Jx (fun gh=>Jc rfl) (Jx (fun gh=>JY u30 sz74 rfl rfl rfl (by omega) haf.sm) ?_)))))))))))));obtain ⟨qe33,ce33,he33,le33,Fe33⟩:=haf i (by omega);refine Jx (fun gh=>JH (cs:=[_]) rfl (one_cell he33) (haf.sm (i:=i) (by omega)) ag74) (Ec 7 1 foll0 (by kernel_rfl) rfl rfl fun gh=>(Em (us':=(27,_)::(28,_)::(29,_)::(30,_)::(31,_)::(32,_)::(33,_)::_) (L':=_) rfl rfl (Jz fn59 rfl rfl fun w hH=>(l01Is_c had Fe33 (by omega) hpos9 (by omega) hH).mono ?_)));rintro _ w ⟨rfl,hH⟩;refine ⟨_,rfl,fun a hF=>JT hF hH ?_⟩;refine Jf (Ed (Jv (Ei rfl) rfl (Ef (Ja (hK12 (Eh rfl (fun h35=>?_) (fun h35=>?_)))))))
    ·
     refine Je fun _ hK13 _=>(Jb (Jg (Jd rfl) rfl (Jf (Ja (hK13 (Jp (Jh (JJ (Jh (Jh (JJ (Jh (Jk rfl (Res.tmp rfl) fun w hH=>?_)))))))))))));replace hH:=hH.tail;exact ⟨rb (by unfold isAlg;rw [imsOk_bad (i:=i) (by omega) (imOk_no1 (by simpa using h35))];simp),hH⟩
    ·
     have hfo:isForm ad (fm af i)=true:=by simpa using h35
     refine Jj (Ja (hK11 (Je fun _ hK14 _=>(Ep [[], [0], [], [2], [], [3,4], [5]] (by kernel_rfl) (Jx (fun gh=>Jq u32 rfl sz22 rfl) (Jx (fun gh=>Jr rfl At.z rfl pl22) (Jx (fun gh=>Jq u32 rfl sz30 rfl) (Jx (fun gh=>Jr rfl At.z rfl pl30) (Jx (fun gh=>Jc rfl) (Jx (fun gh=>JY u30 sz74 rfl rfl rfl (by omega) haf.sm) ?_))))))))));obtain ⟨qe43,ce43,he43,le43,Fe43⟩:=haf i (by omega);refine Jx (fun gh=>JH (cs:=[_]) rfl (one_cell he43) (haf.sm (i:=i) (by omega)) ag74) (Ec 7 1 foll0 (by kernel_rfl) rfl rfl fun gh=>(Em (us':=(37,_)::(38,_)::(39,_)::(40,_)::(41,_)::(42,_)::(43,_)::_) (L':=_) rfl rfl (Jz fn60 rfl rfl fun w hH=>(l01Degree_c had Fe43 hn hd (by omega) hH).mono ?_)));rintro _ w ⟨rfl,hH⟩;refine ⟨_,rfl,fun a hF=>JT hF hH ?_⟩;refine Jf (Ed (Jv (Jc rfl) rfl (Jv (JI rfl rfl) rfl (Jv (JI rfl rfl) rfl (Jv (Jd rfl) rfl (Jv (Jd rfl) rfl (Ef (Ja (hK14 (Je fun _ hK15 _=>(Jb (Jg (Jc rfl) rfl (Jg (Ei rfl) rfl (Jg (Jc rfl) rfl (Eg (jd:=49) rfl (fun h49=>?_) (fun h49=>?_))))))))))))))))
     ·
      try have h49p:=of_decide_eq_true h49
      refine JO rfl rfl rfl h49 (JO rfl rfl rfl h49 (JO rfl rfl rfl h49 (JO rfl rfl rfl h49 (JO rfl rfl rfl h49 (JO rfl rfl rfl h49 (JO rfl rfl rfl h49 (JO rfl rfl rfl h49 (JO rfl rfl rfl h49 (J.gu rfl rfl rfl (J.gu rfl rfl rfl (J.gu rfl rfl rfl (J.gu rfl rfl rfl (J.gu rfl rfl rfl (J.gu rfl rfl rfl ?_))))))))))))));refine J.gu rfl rfl rfl (J.gu rfl rfl rfl (JO rfl rfl rfl h49 (Jg (JX rfl h49 rfl) rfl (Jf (Ja (hK15 (El rfl (Je fun _ hK16 _=>(Jb (Jg (Jd rfl) rfl (Jf (Ja (hK16 (Jp (JJ (Jh ?_))))))))))))))));refine Jh (JJ (Jh (Jk rfl (Res.tmp rfl) fun w hH=>?_)));replace hH:=hH.tail;exact ⟨rb (by unfold isAlg;rw [imsOk_bad (i:=i) (by omega) (imOk_no2 (by simpa using h49))];simp),hH⟩
     ·
      try have h49p:=of_decide_eq_false h49
      refine JU (Jq u32 rfl sz30 rfl) rfl rfl rfl h49 (JU (Jr rfl At.z rfl pl30) rfl rfl rfl h49 (JU (Jc rfl) rfl rfl rfl h49 (JU (JY u30 sz74 rfl rfl rfl (by omega) haf.sm) rfl rfl rfl h49 (JU (Eq u74 rfl sz72 rfl (haf.sm (i:=i) (by omega))) rfl rfl rfl h49 ?_))));obtain ⟨qe55,ce55,he55,le55,Fe55⟩:=haf i (by omega);refine JU (JL rfl he55 pl72) rfl rfl rfl h49 (JU (Jn u72 rfl rfl) rfl rfl rfl h49 (JU (EC rfl rfl) rfl rfl rfl h49 (JU (Jc rfl) rfl rfl rfl h49 (Eg (jd:=58) rfl (fun h58=>?_) (fun h58=>?_)))))
      ·
       try have h58p:=of_decide_eq_true h58
       refine JU (Jc rfl) rfl rfl rfl h58 (JU (Jq u32 rfl sz22 rfl) rfl rfl rfl h58 (JU (Jr rfl At.z rfl pl22) rfl rfl rfl h58 (JU (Jc rfl) rfl rfl rfl h58 (JU (JY u22 sz2 rfl rfl rfl (by omega) had.sm) rfl rfl rfl h58 (JU (JL rfl (had _ (by omega)) pl2) rfl rfl rfl h58 (JU (JA rfl rfl (by first | exact nw _ (by omega) | rfl)) rfl rfl rfl h58 (JU (Ek rfl rfl) rfl rfl rfl h58 (JU (JX rfl h58 rfl) rfl rfl rfl h49 (Jg (JV rfl h49 rfl) rfl (Jf (Ja (hK15 (Jl rfl (fun h68=>?_) (fun h68=>?_))))))))))))))
       ·
        refine Je fun _ hK17 _=>(Jb (Jg (Jd rfl) rfl (Jf (Ja (hK17 (Jp (JJ (Jh (Jh (JJ (Jh (Jk rfl (Res.tmp rfl) fun w hH=>?_))))))))))));replace hH:=hH.tail;exact ⟨rb (by unfold isAlg;rw [imsOk_bad (i:=i) (by omega) (imOk_no3 (fun e=>(degF_neg hn hd (haf.wfss.fm i) (by simpa using h49)).1 e (by omega)) h68)];simp),hH⟩
       ·
        refine Jj (JE (Ja (hK10 (Jb (Jg (Jc rfl) rfl (Jg (JA rfl rfl (by first | exact nw _ (by omega) | rfl)) rfl (Jg (Jd rfl) rfl (Jf (Ja ?_)))))))));exact hAg0 (i+1) ⟨by omega,upto hI (imOk_yes hfo (by simpa using h49) (.inr (Decidable.not_not.1 h68)))⟩ (by omega) 53 rfl rfl ⟨rfl,trivial⟩ rfl rfl
      ·
       try have h58p:=of_decide_eq_false h58
       refine JO rfl rfl rfl h58 (JO rfl rfl rfl h58 (JO rfl rfl rfl h58 (JO rfl rfl rfl h58 (JO rfl rfl rfl h58 (JO rfl rfl rfl h58 (JO rfl rfl rfl h58 (JO rfl rfl rfl h58 (JU (JV rfl h58 rfl) rfl rfl rfl h49 (Jg (JV rfl h49 rfl) rfl (Jf (Ja (hK15 (Er rfl (Jj (JE ?_)))))))))))))));refine Ja (hK10 (Jb (Jg (Jc rfl) rfl (Jg (JA rfl rfl (by first | exact nw _ (by omega) | rfl)) rfl (Jg (Jd rfl) rfl (Jf (Ja ?_)))))));exact hAg0 (i+1) ⟨by omega,upto hI (imOk_yes hfo (by simpa using h49) (.inl ((degF_neg hn hd (haf.wfss.fm i) (by simpa using h49)).2 (by omega))))⟩ (by omega) 53 rfl rfl ⟨rfl,trivial⟩ rfl rfl
   ·
    have hM9:=imsOk_good (ds:=ad) (fs:=af) (fun j hj=>hI j (by omega));have hA:=AlgOk.of hD hlen hM9 haf.wfss;refine JG (Ji (Ji (JN (Ja (hK6 (Je fun _ hK18 _=>(Je fun _ hK19 _=>(Jb (Jg (Jd rfl) rfl (Jf (Ja (hK19 (Jm (JC (σ:=Nat) (fun (k:Nat)=>[(6,.int .i64 (k:Int))]) (fun (k:Nat)=>H) (fun (k:Nat)=>obj g1 (.cells [.slice qad ad.length cad,.slice qaf af.length caf].toArray 32 (0,0))::L) (fun (k:Nat)=>k≤af.length∧∀j,j<k→(dS ad af (toS (fm af j))).length=0) (fun (k:Nat)=>af.length - k) 0 ⟨by omega,fun j hj=>by omega⟩ ⟨rfl,trivial⟩ rfl rfl ?_))))))))))))));rintro k ⟨hk,hJ⟩ _ hAg1;refine Je fun _ hK20 _=>(Je fun _ hK21 _=>(Jb (Jg (Jc rfl) rfl (Jg (Jq u32 rfl sz30 rfl) rfl (Jg (Jr rfl At.z rfl pl30) rfl (Jg (Jn u30 rfl rfl) rfl (Jg (JM rfl rfl) rfl (Jf (Ja (hK21 (Jl rfl (fun h73=>?_) (fun h73=>?_))))))))))))
    ·
     have hkl:k<af.length:=by omega
     refine Jj (Ja (hK20 (Je fun _ hK22 _=>(Jm (Je fun _ hK23 _=>(Ep [[], [], [1], [], [2,3], [4]] (by kernel_rfl) (Jx (fun gh=>Ju rfl At.z (by simpa [*] using ag32)) (Jx (fun gh=>Jq u32 rfl sz30 rfl) (Jx (fun gh=>Jr rfl At.z rfl pl30) (Jx (fun gh=>Jc rfl) (Jx (fun gh=>JY u30 sz74 rfl rfl rfl (by omega) haf.sm) ?_)))))))))));obtain ⟨qe81,ce81,he81,le81,Fe81⟩:=haf k (by omega);refine Jx (fun gh=>JH (cs:=[_]) rfl (one_cell he81) (haf.sm (i:=k) (by omega)) ag74) (Ec 6 1 foll0 (by kernel_rfl) rfl rfl fun gh=>(Em (us':=(76,_)::(77,_)::(78,_)::(79,_)::(80,_)::(81,_)::_) (L':=_) rfl rfl (Jz fn38 rfl rfl fun w hH=>(l02D_c had haf Fe81 hn hd hA.fok hA.hl hA.kex (hA.fok k hkl).1 (hA.kex k hkl) (by omega) hA.len (hA.len k hkl) hH).mono ?_)));rintro _ w ⟨qo82,co82,rfl,hH⟩;refine ⟨_,rfl,fun a hF=>JT hF hH ?_⟩;refine Jf (Ed (Jv (PR.fieldV u74 rfl pl72 rfl rfl) rfl (Jv (Jn u72 rfl rfl) rfl (Jv (EC rfl rfl) rfl (Ef (Ja (hK23 (Jl rfl (fun h85=>?_) (fun h85=>?_)))))))))
     ·
      refine Je fun _ hK24 _=>(Jb (Jg (Jd rfl) rfl (Jf (Ja (hK24 (Jp (JJ (Jh (Jh (JJ (Jh (Jk rfl (Res.tmp rfl) fun w hH=>?_))))))))))));replace hH:=hH.tail;replace hH:=hH.tail;exact ⟨rb (by unfold isAlg;rw [noD_bad (i:=k) (by omega) (by rw [ofS_len] at h85;omega)];simp),hH⟩
     ·
      refine Jj (JE (Ja (hK22 (Jb (Jg (Jc rfl) rfl (Jg (JA rfl rfl (by first | exact nw _ (by omega) | rfl)) rfl (Jg (Jd rfl) rfl (Jf (Ja (JQ .z ?_))))))))));exact hAg1 (k+1) ⟨by omega,upto hJ (by rw [ofS_len] at h85;omega)⟩ (by omega) 19 rfl rfl ⟨rfl,trivial⟩ rfl rfl
    ·
     refine JG (Ji (Ji (JN (Ja (hK18 (Je fun _ hK25 _=>(Jb (Jg (Jd rfl) rfl (Jf (Ja (hK25 (Jp (Jk rfl (Res.tmp rfl) fun w hH=>?_)))))))))))));replace hH:=hH.tail;exact ⟨rb (by unfold isAlg;rw [hD,decide_eq_true hlen,hM9,noD_good (fun j hj=>hJ j (by omega))];rfl),hH⟩
def noDf (ds:List Int) (fs:List (List Term)) (ts:List Term):Bool:=decide ((dS ds fs (toS ts)).length>0)
theorem noD_any {ds:List Int} {fs:List (List Term)}:noD ds fs = !(fs.any (noDf ds fs)):=by
 cases h:fs.any (noDf ds fs) with
 | true=>
  obtain ⟨x,hx,hp⟩:=List.any_eq_true.1 h;obtain ⟨j,hj,rfl⟩:=List.mem_iff_getElem.1 hx;rw [fm_eq hj] at hp;rw [noD_bad hj (by unfold noDf at hp;have:=of_decide_eq_true hp;omega)]
  rfl
 | false=>
  rw [noD_good fun j hj=>by
   have:=List.any_eq_false.1 h _ (fm_mem hj);unfold noDf at this;rw [decide_eq_true_eq] at this
   omega]
  rfl
theorem IsAlgebra1_c {B:World} {H0 H:HP} {L:List SA} {w:World} {qts:Option Addr} {cts:Nat} {ts:List Term} {ba:Nat} {qad qaf:Option Addr} {cad caf:Nat} {ad:List Int} {af:List (List Term)} {Mi Ms:Int} (hts:Terms H qts ts) (pad:CellAt H ba 0 (.slice qad ad.length cad)) (paf:CellAt H ba 1 (.slice qaf af.length caf)) (had:Ints H qad ad) (haf:Forms H qaf af) (hn:ad.length≤8) (hd : ∀j,0≤ad.getD j 0∧ad.getD j 0≤12) (hf:Fok Mi af) (hl:af.length=ad.length) (hs:Sok Ms (toS ts)) (ho:Occ af.length (toS ts)) (hM:0≤Mi∧Ms+Mi+Ms≤1000000) (hll:ts.length≤1000000000) (hH:Hp B H0 H L w):Calls Try.prog 91 [.agg [.slice qts ts.length cts].toArray,.pointer (some ⟨ba,0,none⟩)].toArray w fun e w'=>e = .returned (.bool (noDf ad af ts))∧Hp B H0 H L w':=by
 refine Jt Try.func91 rfl 9 rfl rfl [(0,.agg [.slice qts ts.length cts].toArray),(1,.pointer (some ⟨ba,0,none⟩))] rfl hH ?_;clear hH;refine Je fun _ hK1 _=>(Jb (Eb rfl rfl rfl fun g2=>(Jg (Jd rfl) rfl (Jf (Ja (hK1 (Je fun _ hK2 _=>(Jb (Jg (Ju rfl At.z (by simpa [*] using ag74)) rfl (Jz fn92 rfl rfl fun w hH=>(sumOf_c hts hs (by omega) hH).mono ?_))))))))));rintro _ w ⟨bo5,rfl,hH⟩;refine ⟨_,rfl,fun a hF=>JT hF hH ?_⟩;refine Jz fn52 rfl rfl fun w hH=>hH.lend .z fun Hl1 hle1 hA1 hB1 hH=>(d_c (pad.le hle1) (paf.le hle1) (had.le hle1) (haf.le hle1) (omap_H hA1) hs hn hd hf hl ho hM hH).mono ?_;rintro _ w ⟨bo6,rfl,hH⟩;replace hH:=hB1 _ _ hH;refine ⟨_,rfl,fun a hF=>JT hF hH ?_⟩;refine Jg (PR.lenO u90 rfl (.s .z) rfl) rfl (Jg (EC rfl rfl) rfl (Jg (Jd rfl) rfl (Jf (Ja (hK2 (Jp (Jk rfl (Res.tmp rfl) fun w hH=>?_)))))));replace hH:=hH.tail;replace hH:=hH.tail;replace hH:=hH.tail;exact ⟨rb (by unfold noDf;exact decide_eq_decide.2 (by omega)),hH⟩
theorem IsAlgebra_c {B:World} {H0 H:HP} {L:List SA} {w:World} {qad qaf:Option Addr} {cad caf:Nat} {ad:List Int} {af:List (List Term)} (had:Ints H qad ad) (haf:Forms H qaf af) (hn8:ad.length≤1048576) (hn9:af.length≤1048576) (hl9 : ∀i,i<af.length→(fm af i).length≤1048576) (hH:Hp B H0 H L w):Calls Try.prog 69 [.agg [.slice qad ad.length cad,.slice qaf af.length caf].toArray].toArray w fun e w'=>e = .returned (.bool (isAlg ad af))∧Hp B H0 H L w':=by
 refine Jt Try.func69 rfl 50 rfl rfl [(0,.agg [.slice qad ad.length cad,.slice qaf af.length caf].toArray)] rfl hH ?_;have hw0:=hH.old;have hw1:=hH.le;clear hH;refine Je fun _ hK1 _=>(Jb (Eb rfl rfl rfl fun g1=>(Jg (Jd rfl) rfl (Jf (Ja (hK1 (Je fun _ hK2 _=>(Je fun _ hK3 _=>(Jb (Jg (Jq u32 rfl sz22 rfl) rfl (Jg (Jr rfl At.z rfl pl22) rfl (Jz fn89 rfl rfl fun w hH=>(AreDegrees_c had (by omega) hH).mono ?_))))))))))));rintro _ w ⟨rfl,hH⟩;refine ⟨_,rfl,fun a hF=>JT hF hH ?_⟩;refine Jg (Ei rfl) rfl (Jg (Jc rfl) rfl (Eg (jd:=9) rfl (fun hg9=>?_) (fun hg9=>?_)))
 ·
  try have hg9p:=of_decide_eq_true hg9
  refine JO rfl rfl rfl hg9 (JO rfl rfl rfl hg9 (JO rfl rfl rfl hg9 (JO rfl rfl rfl hg9 (JO rfl rfl rfl hg9 (JO rfl rfl rfl hg9 (JO rfl rfl rfl hg9 (Jg (JX rfl hg9 rfl) rfl (Jf (Ja (hK3 (El rfl (Je fun _ hK4 _=>(Jb (Jg (Jd rfl) rfl (Jf ?_)))))))))))))));refine Ja (hK4 (Jp (Jh (Jk rfl (Res.tmp rfl) fun w hH=>?_))));replace hH:=hH.tail;exact ⟨rb (by unfold isAlg;rw [show isDeg ad=false by simpa using hg9];rfl),hH⟩
 ·
  try have hg9p:=of_decide_eq_false hg9
  refine JU (Jq u32 rfl sz30 rfl) rfl rfl rfl hg9 (JU (Jr rfl At.z rfl pl30) rfl rfl rfl hg9 (JU (Jn u30 rfl rfl) rfl rfl rfl hg9 (JU (Jq u32 rfl sz22 rfl) rfl rfl rfl hg9 (JU (Jr rfl At.z rfl pl22) rfl rfl rfl hg9 (JU (Jn u22 rfl rfl) rfl rfl rfl hg9 (JU (Ek rfl rfl) rfl rfl rfl hg9 (Jg (JV rfl hg9 rfl) rfl (Jf (Ja (hK3 (Jl rfl (fun hc19=>?_) (fun hc19=>?_))))))))))))
  ·
   refine Je fun _ hK5 _=>(Jb (Jg (Jd rfl) rfl (Jf (Ja (hK5 (Jp (Jh (Jk rfl (Res.tmp rfl) fun w hH=>?_))))))));replace hH:=hH.tail;exact ⟨rb (by unfold isAlg;rw [decide_eq_false (show ¬af.length=ad.length by omega)];simp),hH⟩
  ·
   have hD:isDeg ad=true:=by simpa using hg9
   have hn:=isDeg_len hD;have hd:=isDeg_bd hD
   have hlen:af.length=ad.length:=by omega
   have hpos9 : ∀j,j<ad.length→0≤ad.getD j 0:=fun j _=>(hd j).1;refine Jj (Ja (hK2 (Je fun _ hK6 _=>(Je fun _ hK7 _=>(Jb (Jg (Jq u32 rfl sz30 rfl) rfl (Jg (Jr rfl At.z rfl pl30) rfl (Jg (Jn u30 rfl rfl) rfl (Jg (Jc rfl) rfl (Jf (Ja (hK7 (Jm (JC (σ:=Nat) (fun (k:Nat)=>[(21,.int .i64 (k:Int))]) (fun (k:Nat)=>H) (fun (k:Nat)=>obj g1 (.cells [.slice qad ad.length cad,.slice qaf af.length caf].toArray 32 (0,0))::L) (fun (k:Nat)=>k≤af.length∧∀j,j<k→imOk ad af j=true) (fun (k:Nat)=>af.length - k) 0 ⟨by omega,fun j hj=>by omega⟩ ⟨rfl,trivial⟩ rfl rfl ?_))))))))))))));rintro k ⟨hk,hI⟩ _ hAg0;refine Je fun _ hK8 _=>(Jb (Jg (JM rfl rfl) rfl (Jf (Ja (hK8 (Je fun _ hK9 _=>(Jl rfl (fun hc24=>?_) (fun hc24=>?_))))))))
   ·
    have hl0:=hl9 k (by omega);have hdi:=hd k;refine Jj (Ja (hK9 (Je fun _ hK10 _=>(Jm (Je fun _ hK11 _=>(Jb (Jg (Jc rfl) rfl (Jg (JY u30 sz74 rfl rfl rfl (by omega) haf.sm) rfl ?_))))))));obtain ⟨qe25,ce25,he25,le25,Fe25⟩:=haf k (by omega);refine Jg (JH (cs:=[_]) rfl (one_cell he25) (haf.sm (i:=k) (by omega)) ag74) rfl (JW ze74 rfl fun g4=>(Jg (Jd rfl) rfl (JF rfl rfl (by first | exact bytesC_one _ | exact intsC_one _ | exact Term.c_one _ | simp [Value.oneCell']) (by simpa [*] using sz74) (by simp [*]) At.z (Jf (Ja (hK11 (Je fun _ hK12 _=>(Ep [[], [0], [], [1,2], [3], [4], [5], [6,5], [5], [5], [9,5], [5], [10,11,5], [12,5], [13,5]] (by kernel_rfl) (Jx (fun gh=>Jq u32 rfl sz22 rfl) (Jx (fun gh=>Jr rfl (.s .z) rfl pl22) (Jx (fun gh=>Ju rfl At.z (by simpa [*] using ag74)) (HJ.call fn72 (fun gh=>rfl) (fun w X hH=>isForm_c had Fe25 (by omega) (by omega) hH) (Jx (fun gh=>Ei rfl) (Jx (fun gh=>Jc rfl) (EF 5 rfl (fun h31=>?_) (fun h31=>?_))))))))))))))))
    ·
     try have h31p:=of_decide_eq_true h31
     refine JZ rfl (fun gh=>rfl) h31 (JZ rfl (fun gh=>rfl) h31 (JZ rfl (fun gh=>rfl) h31 (JZ rfl (fun gh=>rfl) h31 (JZ rfl (fun gh=>rfl) h31 (JZ rfl (fun gh=>rfl) h31 (JZ rfl (fun gh=>rfl) h31 (JZ rfl (fun gh=>rfl) h31 (JZ rfl (fun gh=>rfl) h31 (Ec 15 1 foll0 (by kernel_rfl) rfl rfl fun gh=>(Em (us':=(26,_)::(27,_)::(28,_)::(29,_)::(30,_)::(31,_)::(32,_)::(33,_)::(34,_)::(35,_)::(36,_)::(37,_)::(38,_)::(39,_)::(40,_)::_) (L':=_) rfl rfl (JO rfl rfl rfl h31 (Jf (Ed (JS.gn rfl rfl rfl h31 ?_))))))))))))));refine Jv (JX rfl h31 rfl) rfl (Ef (Ja (hK12 (El rfl (Je fun _ hK13 _=>(Jb (Jg (Jd rfl) rfl (Jf (Ja (hK13 (Jp (JJ (Jh (Jh (JJ (Jh ?_))))))))))))))));refine Jk rfl (Res.tmp rfl) fun w hH=>?_;replace hH:=hH.tail;replace hH:=hH.tail;exact ⟨rb (by unfold isAlg;rw [imsOk_bad (i:=k) (by omega) (imOk_no1 (by simpa using h31))];simp),hH⟩
    ·
     try have h31p:=of_decide_eq_false h31
     refine Ea (fun gh=>Jq u32 rfl sz22 rfl) rfl (fun gh=>rfl) h31 (Ea (fun gh=>Jr rfl (.s .z) rfl pl22) rfl (fun gh=>rfl) h31 (Ea (fun gh=>Ju rfl At.z (by simpa [*] using ag74)) rfl (fun gh=>rfl) h31 (Ea (fun gh=>Jq u32 rfl sz22 rfl) rfl (fun gh=>rfl) h31 (Ea (fun gh=>Jr rfl (.s .z) rfl pl22) rfl (fun gh=>rfl) h31 (Ea (fun gh=>Jc rfl) rfl (fun gh=>rfl) h31 (Ea (fun gh=>JY u22 sz2 rfl rfl rfl (by omega) had.sm) rfl (fun gh=>rfl) h31 (Ea (fun gh=>JL rfl (had _ (by omega)) pl2) rfl (fun gh=>rfl) h31 (Ea (fun gh=>JA rfl rfl (by first | exact nw _ (by omega) | rfl)) rfl (fun gh=>rfl) h31 (Ec 15 1 foll0 (by kernel_rfl) rfl rfl fun gh=>(Em (us':=(26,_)::(27,_)::(28,_)::(29,_)::(30,_)::(31,_)::(32,_)::(33,_)::(34,_)::(35,_)::(36,_)::(37,_)::(38,_)::(39,_)::(40,_)::_) (L':=_) rfl rfl (EE fn90 rfl rfl h31 rfl rfl fun w hH=>(isOfDegree_c had Fe25 hn hd (by omega) hH).mono ?_)))))))))));rintro _ w ⟨rfl,hH⟩;refine ⟨_,rfl,fun a hF=>JT hF hH ?_⟩;refine Jf (Ed (JS.gy (Ei rfl) rfl rfl rfl h31 (Jv (JV rfl h31 rfl) rfl (Ef (Ja (hK12 (Eh rfl (fun h43=>?_) (fun h43=>?_))))))))
     ·
      refine Je fun _ hK14 _=>(Jb (Jg (Jd rfl) rfl (Jf (Ja (hK14 (Jp (JJ (Jh (Jh (JJ (Jh (Jk rfl (Res.tmp rfl) fun w hH=>?_))))))))))));replace hH:=hH.tail;replace hH:=hH.tail;exact ⟨rb (by unfold isAlg;rw [imsOk_bad (i:=k) (by omega) (by unfold imOk;rw [show degOk ad (fm af k) (ad.getD k 0+1)=false by simpa using h43];simp)];simp),hH⟩
     ·
      refine Jj (JE (Ja (hK10 (Jb (Jg (JA rfl rfl (by first | exact nw _ (by omega) | rfl)) rfl (Jg (Jc rfl) rfl (Jf (Ja (JQ .z ?_)))))))));exact hAg0 (k+1) ⟨by omega,upto hI (by unfold imOk;rw [show isForm ad (fm af k)=true by simpa using h31,show degOk ad (fm af k) (ad.getD k 0+1)=true by simpa using h43];rfl)⟩ (by omega) 27 rfl rfl ⟨rfl,trivial⟩ rfl rfl
   ·
    have hM9:=imsOk_good (ds:=ad) (fs:=af) (fun j hj=>hI j (by omega));have hA:=AlgOk.of hD hlen hM9 haf.wfss;refine JG (Ji (Ji (JN (Ja (hK6 (Je fun _ hK15 _=>(Jb (Jg (Jq u32 rfl sz30 rfl) rfl (Jg (Jr rfl At.z rfl pl30) rfl (Jg (PR.makeFunc (ys:=[]) (zs:=[_]) rfl rfl) rfl (J.freezeRow .z fun H3 hle3 hc3=>?_)))))))))));have had3:=had.le hle3;have haf3:=haf.le hle3;have hcl:ClF B H0 H3 91 #[.pointer (some ⟨g1,0,none⟩)] (fun ts=>isForm ad ts=true∧Wfs ts) (noDf ad af):=fun H' L w q c x hle hS hx hH=>IsAlgebra1_c (Mi:=20) (Ms:=20) hx (CellAt.le (hc3 0 _ rfl) hle) (CellAt.le (hc3 1 _ rfl) hle) (had3.le hle) (haf3.le hle) hn hd hA.fok hA.hl (isForm_sok hS.2 hS.1) (Ex.occ (isForm_kex hd hn hS.2 hS.1) hA.hl) (by omega) (by have:=isForm_len4 hS.1;omega) hH;refine Jz fn70 rfl rfl fun w hH=>(ContainsFuncF_c haf3 fn91 hcl (by omega) (fun i hi=>⟨hA.ok i hi,hA.wf.fm i⟩) hH).mono ?_;rintro _ w ⟨rfl,hH⟩;refine ⟨_,rfl,fun a hF=>JT hF hH ?_⟩;refine Jg (Ei rfl) rfl (Jg (Jd rfl) rfl (Jf (Ja (hK15 (Jp (Jk rfl (Res.tmp rfl) fun w hH=>?_))))));exact ⟨rb (by unfold isAlg;rw [hD,decide_eq_true hlen,hM9,noD_any];rfl),hH.weaken hle3 hw0 hw1⟩
theorem u23:Try.prog.underlying 23=some (TypeDesc.slice 65):=by kernel_rfl
theorem u25:Try.prog.underlying 25=some (TypeDesc.struct #[{name:="Degrees",type:=22,offset:=0,embedded:=false,tag:="",pkgPath:="",byteOffset:=0},{name:="Images",type:=23,offset:=1,embedded:=false,tag:="",pkgPath:="",byteOffset:=24}]):=by kernel_rfl
theorem sz23:Size Try.prog 23 1:=by unfold Size;kernel_rfl
theorem sz32:Size Try.prog 32 2:=by unfold Size;kernel_rfl
theorem sz65:Size Try.prog 65 1:=by unfold Size;kernel_rfl
theorem by74:Bytes Try.prog 74 24:=by unfold Bytes;kernel_rfl
theorem ze32:Zero Try.prog 32 [.slice none 0 0,.slice none 0 0]:=by unfold Zero;kernel_rfl
theorem pl23:Plain Try.prog 23:=⟨_,u23,rfl⟩
theorem ag65:Agg Try.prog 65 1:=⟨_,u65,rfl,by kernel_rfl⟩
theorem fn16:Fn Try.prog 16:=⟨_,Try.func16,by kernel_rfl,rfl⟩
theorem fn17:Fn Try.prog 17:=⟨_,Try.func17,by kernel_rfl,rfl⟩
theorem fn20:Fn Try.prog 20:=⟨_,Try.func20,by kernel_rfl,rfl⟩
theorem fn21:Fn Try.prog 21:=⟨_,Try.func21,by kernel_rfl,rfl⟩
theorem fn32:Fn Try.prog 32:=⟨_,Try.func32,by kernel_rfl,rfl⟩
theorem fn40:Fn Try.prog 40:=⟨_,Try.func40,by kernel_rfl,rfl⟩
def szv (x:Int):Int:=if x<0 then -1 else x
def updV (vs:Vs) (k:Nat) (x:Option Addr × Nat):Vs:=fun j=>if j=k then x else vs j
theorem ownTs_congr {T:TypeId} : ∀{gs:List (List Term)} {vs vs':Vs},(∀j,j<gs.length→vs j=vs' j)→ownTs T vs gs=ownTs T vs' gs
 | [],_,_,_=>rfl
 | g::gs,vs,vs',h=>by
  have h0:=h 0 (by simp)
  have ih:=ownTs_congr (T:=T) (gs:=gs) (vs:=vs.tl) (vs':=vs'.tl) fun j hj=>h (j+1) (by simpa using hj)
  simp only [ownTs,h0,ih]
theorem slicesC_congr : ∀{gs:List (List Term)} {vs vs':Vs},(∀j,j<gs.length→vs j=vs' j)→slicesC vs gs=slicesC vs' gs
 | [],_,_,_=>rfl
 | g::gs,vs,vs',h=>by
  have h0:=h 0 (by simp)
  have ih:=slicesC_congr (gs:=gs) (vs:=vs.tl) (vs':=vs'.tl) fun j hj=>h (j+1) (by simpa using hj)
  simp only [slicesC,h0,ih]
theorem slicesC_app : ∀(vs:Vs) (gs:List (List Term)) (f:List Term),slicesC vs (gs++[f])=slicesC vs gs++[.slice (vs gs.length).1 f.length (vs gs.length).2]
 | vs, [],f=>rfl
 | vs,g::gs,f=>by
  simp only [List.cons_append,slicesC]
  rw [slicesC_app vs.tl gs f]
  rfl
theorem take_fm {fs:List (List Term)} {k:Nat} (hk:k<fs.length):fs.take (k+1)=fs.take k++[fm fs k]:=by
 rw [List.take_succ_eq_append_getElem hk,fm_eq hk]
def fillF (vs:Vs) (fs:List (List Term)) (k:Nat):List Value:=slicesC vs (fs.take k)++List.replicate (fs.length - k) (.slice none 0 0)
@[simp] theorem fillF_len {vs:Vs} {fs:List (List Term)} {k:Nat} (hk:k≤fs.length):(fillF vs fs k).length=fs.length:=by simp [fillF];omega
theorem slicesC_upd {vs:Vs} {fs:List (List Term)} {k:Nat} (hk:k<fs.length) (x:Option Addr × Nat):slicesC (updV vs k x) (fs.take (k+1))=slicesC vs (fs.take k)++[.slice x.1 (fm fs k).length x.2]:=by
 have hl:(fs.take k).length=k:=List.length_take_of_le (by omega);rw [take_fm hk,slicesC_app,hl,slicesC_congr (vs':=vs) fun j hj=>by unfold updV;rw [if_neg (by omega)]]
 simp [updV]
theorem fillF_step {vs:Vs} {fs:List (List Term)} {k:Nat} (hk:k<fs.length) (q:Option Addr) (c:Nat):(fillF vs fs k).take k++[.slice q (fm fs k).length c]++(fillF vs fs k).drop (k+1)=fillF (updV vs k (q,c)) fs (k+1):=by
 have hl:(slicesC vs (fs.take k)).length=k:=by simp;omega
 unfold fillF;rw [slicesC_upd hk,List.take_append_of_le_length (by omega),List.take_of_length_le (by omega),List.drop_append,List.drop_of_length_le (by omega),List.nil_append,hl,List.drop_replicate]
 congr 2
 omega
theorem fillF_end (vs:Vs) (fs:List (List Term)):fillF vs fs fs.length=slicesC vs fs:=by simp [fillF]
theorem flat1 (z:Value) : ∀m,(List.replicate m [z]).flatten=List.replicate m z
 | 0=>rfl
 | m+1=>by rw [List.replicate_succ,List.replicate_succ,List.flatten_cons,flat1 z m];rfl
section
variable {P : Program} {ops : Array Oper} {Q : Exit → Act → World → Prop} {n : Nat} {B : World} {H0 H : HP} {rest : List Oper} {us : List (Nat × Value)} {L : List SA} {t : TypeId} {p : String} {af : Array Edge} {d : Nat} {x y : Operand} {R : Act → World → Prop}
theorem J.makeSl (T:TypeId) {ty e:TypeId} {k k':IntKind} {i j:Int} {m:Nat} (hu:P.underlying ty=some (.slice e)) (hz:Zero P e [.slice none 0 0]) (hs:Size P e 1) (hb:Bytes P e 24) (hx:opv us x=some (.int k i)) (hy:opv us y=some (.int k' j)) (hi:i=(m:Int)) (hj:j=(m:Int)) (hl:m≤1048576) (hd:Nat.blt d n=true) (hk : ∀g,J P ops Q n B H0 rest ((d,.slice (some ⟨g,0,none⟩) m m)::us) H (obj g (.cells (List.replicate m (.slice none 0 0)).toArray e (0,0))::ownTs T nilVs []::L)):J P ops Q n B H0 (⟨some d,.makeSlice ty x y,t,p,af,none⟩::rest) us H L:=by
 refine J.make hu hz hs hb hx hy hi hj (Nat.le_refl _) (by omega) (by omega) hd fun g=>?_;rw [flat1];exact fun a w hF hH=>hk g a w hF (hH.emp.front (.s .z))
theorem EJ.tsSnoc {T:TypeId} {q:Option Addr} {c k:Nat} {fs:List (List Term)} {vs:Vs} (hk:k<fs.length) (h:EJ R n B H0 us H (ownTs T (updV vs k (q,c)) (fs.take (k+1))::L)):EJ R n B H0 us H (own T 9 q (fm fs k).length c (tsC (fm fs k))::ownTs T vs (fs.take k)::L):=fun a w hF hH=>by
 have hl:(fs.take k).length=k:=List.length_take_of_le (by omega)
 rw [take_fm hk] at h
 refine h a w hF (Hp.fsOut ?_)
 rw [hl,show updV vs k (q,c) k=(q,c) by simp [updV],ownTs_congr (vs':=vs) fun j hj=>by unfold updV;rw [if_neg (by omega)]]
 exact hH
end
theorem tot_pre {fs:List (List Term)} {i:Nat} (hi:i≤fs.length):tot (fs.take i)≤tot fs:=by
 conv=>rhs;rw [← List.take_append_drop i fs,tot_app]
 omega
theorem tot_fm {fs:List (List Term)} {i:Nat} (hi:i<fs.length):(fm fs i).length≤tot fs:=by
 have h1:=tot_succ hi;have h2:=tot_pre (fs:=fs) (i:=i+1) hi
 omega
theorem toFormS_c {B:World} {H0 H:HP} {L:List SA} {w:World} {qfs:Option Addr} {cfs:Nat} {fs:List (List Term)} (hfs:Forms H qfs fs) (hn:fs.length≤1048576) (hl : ∀i,i<fs.length→(fm fs i).length≤1048576) (hH:Hp B H0 H L w):Calls Try.prog 21 [.slice qfs fs.length cfs].toArray w fun e w'=>∃q c vs,e = .returned (.slice q fs.length c)∧Hp B H0 H (ownFs 74 104 q c vs fs::L) w':=by
 refine Jt Try.func21 rfl 23 rfl rfl [(0,.slice qfs fs.length cfs)] rfl hH ?_;clear hH;refine Je fun _ hK1 _=>(Jb (Jg (Jd rfl) rfl (Jf (Ja (hK1 (Je fun _ hK2 _=>(Jb (Jg (Jc rfl) rfl (Jg (Jn u23 rfl rfl) rfl (J.makeSl 104 (m:=fs.length) u30 ze74 sz74 by74 rfl rfl rfl rfl (by omega) rfl fun g7=>(Jg (Jd rfl) rfl (Jf (Ja (hK2 (Je fun _ hK3 _=>(Je fun _ hK4 _=>?_))))))))))))))));refine Jb (Jg (Jd rfl) rfl (Jf (Ja (hK4 (Jm (JC (σ:=Vs × Nat) (fun ⟨vs,k⟩=>[(4,.int .i64 (k:Int))]) (fun ⟨vs,k⟩=>H) (fun ⟨vs,k⟩=>obj g7 (.cells (fillF vs fs k).toArray 74 (0,0))::ownTs 104 vs (fs.take k)::L) (fun ⟨vs,k⟩=>k≤fs.length) (fun ⟨vs,k⟩=>fs.length - k) (nilVs,0) (by show 0≤fs.length;omega) ⟨rfl,trivial⟩ rfl (by simp [fillF,slicesC]) ?_))))));rintro ⟨vs,k⟩ hI _ hAg0;have hk:=hI;refine Je fun _ hK5 _=>(Je fun _ hK6 _=>(Jb (Jg (Jc rfl) rfl (Jg (Jc rfl) rfl (Jg (Jn u23 rfl rfl) rfl (Jg (JM rfl rfl) rfl (Jf (Ja (hK6 (Jl rfl (fun h11=>?_) (fun h11=>?_)))))))))))
 ·
  have hlk:=hl k (by omega);refine Jj (Ja (hK5 (Je fun _ hK7 _=>(Jm (Jb (Jg (Jc rfl) rfl (Jg (Jc rfl) rfl (Jg (Jc rfl) rfl (Jg (Jc rfl) rfl (Jg (JY u23 sz65 rfl rfl rfl (by omega) hfs.sm) rfl ?_))))))))));obtain ⟨qe19,ce19,he19,le19,Fe19⟩:=hfs k (by omega);refine Jg (JH (cs:=[_]) rfl (one_cell he19) (hfs.sm (i:=k) (by omega)) ag65) rfl (Jz fn40 rfl rfl fun w hH=>(toForm_c Fe19 (by omega) hH).mono ?_);rintro _ w ⟨qo20,co20,rfl,hH⟩;refine ⟨_,rfl,fun a hF=>JT hF hH ?_⟩;refine Jg (PR.idxO1 u30 sz74 rfl rfl rfl (by omega)) rfl (J.stores (vs:=[.slice qo20 (fm fs k).length co20]) rfl rfl rfl (by simp [Value.oneCell']) sz74 (by rw [fillF_len (by omega)];simp;omega) (.s .z) (Jf (JE (Ja (hK7 (Jb (Jg (Jc rfl) rfl (Jg (JA rfl rfl (by first | exact nw _ (by omega) | rfl)) rfl (Jg (Jd rfl) rfl (Jf (Ja (Jw (.s .z) (Jw (.s (.s .z)) (Jw (.s (.s .z)) (EJ.tsSnoc (by omega) ?_)))))))))))))));refine Jw .z (Jw (.s .z) ?_);exact hAg0 (updV vs k (qo20,co20),k+1) (by show k+1≤fs.length;omega) (by show fs.length - (k+1)<fs.length - k;omega) 16 rfl rfl ⟨rfl,trivial⟩ rfl (by dsimp only;rw [← fillF_step (by omega)];rfl)
 ·
  refine JG (Ji (Ji (JN (Ja (hK3 (Je fun _ hK8 _=>(Jb (Jg (Jc rfl) rfl (Jg (Jd rfl) rfl (Jf (Ja (hK8 (Jp (Jk rfl (Res.tmp rfl) fun w hH=>?_))))))))))))));replace hH:=hH.sublist (.cons_cons _ (.cons_cons _ (List.Sublist.refl _)))
  obtain rfl:k=fs.length:=by omega
  rw [fillF_end,List.take_length] at hH;exact ⟨_,_,_,rfl,(own_full _ 1 hH (by simp) (by simp only [maxLen];omega)).star⟩
theorem szFormS_c {B:World} {H0 H:HP} {L:List SA} {w:World} {qfs:Option Addr} {cfs:Nat} {fs:List (List Term)} {left:Int} (hfs:Forms H qfs fs) (hn:0≤left∧left≤1000000000∧fs.length≤9223372036854775807) (hl : ∀i,i<fs.length→(fm fs i).length≤9223372036854775807) (hH:Hp B H0 H L w):Calls Try.prog 17 [.slice qfs fs.length cfs,.int .i64 left].toArray w fun e w'=>e = .returned (.int .i64 (szv (left - fs.length - tot fs)))∧Hp B H0 H L w':=by
 refine Jt Try.func17 rfl 27 rfl rfl [(0,.slice qfs fs.length cfs),(1,.int .i64 left)] rfl hH ?_;clear hH;refine Je fun _ hK1 _=>(Jb (Jg (Jd rfl) rfl (Jf (Ja (hK1 (Je fun _ hK2 _=>(Jb (Jg (Jc rfl) rfl (Jg (Jc rfl) rfl (Jg (Jn u23 rfl rfl) rfl (Jg (PR.sub rfl rfl (by first | exact nw _ (by omega) | rfl)) rfl (Jg (Jd rfl) rfl (Jf (Ja (hK2 (Je fun _ hK3 _=>?_))))))))))))))));refine Je fun _ hK4 _=>(Jb (Jg (Jc rfl) rfl (Jg (JM rfl rfl) rfl (Jf (Ja (hK4 (Jl rfl (fun h11=>?_) (fun h11=>?_))))))))
 ·
  refine Je fun _ hK5 _=>(Jb (Jg (Jd rfl) rfl (Jf (Ja (hK5 (Jp (Jh (Jk rfl (Res.tmp rfl) fun w hH=>?_))))))));exact ⟨ri (by unfold szv;rw [if_pos (by omega)]),hH⟩
 ·
  refine Jj (Ja (hK3 (Je fun _ hK6 _=>(Je fun _ hK7 _=>(Jb (Jg (Jd rfl) rfl (Jf (Ja (hK7 (Jm (JC (σ:=Nat) (fun (k:Nat)=>[(5,.int .i64 (k:Int)),(1,.int .i64 (left - fs.length - tot (fs.take k)))]) (fun (k:Nat)=>H) (fun (k:Nat)=>L) (fun (k:Nat)=>k≤fs.length∧0≤left - fs.length - tot (fs.take k)) (fun (k:Nat)=>fs.length - k) 0 ⟨by omega,by simp [tot];omega⟩ ⟨rfl,⟨(vi (by simp [tot])),trivial⟩⟩ rfl rfl ?_)))))))))));rintro k ⟨hk,hI⟩ _ hAg0
  skip
  refine Je fun _ hK8 _=>(Je fun _ hK9 _=>(Jb (Jg (Jc rfl) rfl (Jg (Jc rfl) rfl (Jg (Jn u23 rfl rfl) rfl (Jg (JM rfl rfl) rfl (Jf (Ja (hK9 (Jl rfl (fun h15=>?_) (fun h15=>?_)))))))))))
  ·
   have hlk:=hl k (by omega);have ts:=tot_succ (fs:=fs) (i:=k) (by omega);have tp:=tot_pre (fs:=fs) (i:=k+1) (by omega);refine Jj (Ja (hK8 (Je fun _ hK10 _=>(Jm (Je fun _ hK11 _=>(Jb (Jg (Jc rfl) rfl (Jg (Jc rfl) rfl (Jg (JY u23 sz65 rfl rfl rfl (by omega) hfs.sm) rfl ?_)))))))));obtain ⟨qe21,ce21,he21,le21,Fe21⟩:=hfs k (by omega);refine Jg (JH (cs:=[_]) rfl (one_cell he21) (hfs.sm (i:=k) (by omega)) ag65) rfl (Jg (Jc rfl) rfl (Jz fn32 rfl rfl fun w hH=>(szForm_c Fe21 (by omega) hH).mono ?_));rintro _ w ⟨rfl,hH⟩;refine ⟨_,rfl,fun a hF=>JT hF hH ?_⟩;refine Jg (Jd rfl) rfl (Jf (Ja (hK11 (Je fun _ hK12 _=>(Jb (Jg (Jc rfl) rfl (Jg (JM rfl rfl) rfl (Jf (Ja (hK12 (Jl rfl (fun h25=>?_) (fun h25=>?_))))))))))))
   ·
    refine Je fun _ hK13 _=>(Jb (Jg (Jd rfl) rfl (Jf (Ja (hK13 (Jp (JJ (Jh (Jh (JJ (Jh (Jk rfl (Res.tmp rfl) fun w hH=>?_))))))))))));exact ⟨ri (by unfold szv;rw [if_pos (by split at h25 <;> omega)]),hH⟩
   ·
    refine Jj (JE (Ja (hK10 (Jb (Jg (Jc rfl) rfl (Jg (JA rfl rfl (by first | exact nw _ (by omega) | rfl)) rfl (Jg (Jd rfl) rfl (Jf (Ja ?_)))))))));exact hAg0 (k+1) ⟨by omega,by split at h25 <;> omega⟩ (by omega) 18 rfl rfl ⟨rfl,⟨(vi (by split at h25 <;> split <;> omega)),trivial⟩⟩ rfl rfl
  ·
   refine JG (Ji (Ji (JN (Ja (hK6 (Je fun _ hK14 _=>(Jb (Jg (Jc rfl) rfl (Jg (Jd rfl) rfl (Jf (Ja (hK14 (Jp (Jk rfl (Res.tmp rfl) fun w hH=>?_))))))))))))))
   obtain rfl:k=fs.length:=by omega
   rw [List.take_length] at hI ⊢;exact ⟨ri (by unfold szv;rw [if_neg (by omega)]),hH⟩
theorem szInt64S_c {B:World} {H0 H:HP} {L:List SA} {w:World} {qxs:Option Addr} {cxs:Nat} {xs:List Int} {left:Int} (hxs:Ints H qxs xs) (hn:0≤left∧left≤1000000000∧xs.length≤9223372036854775807) (hH:Hp B H0 H L w):Calls Try.prog 16 [.slice qxs xs.length cxs,.int .i64 left].toArray w fun e w'=>e = .returned (.int .i64 (if left - xs.length<0 then -1 else left - xs.length))∧Hp B H0 H L w':=by
 refine Jt Try.func16 rfl 12 rfl rfl [(0,.slice qxs xs.length cxs),(1,.int .i64 left)] rfl hH ?_;clear hH;refine Je fun _ hK1 _=>(Jb (Jg (Jd rfl) rfl (Jf (Ja (hK1 (Je fun _ hK2 _=>(Jb (Jg (Jc rfl) rfl (Jg (Jc rfl) rfl (Jg (Jn u22 rfl rfl) rfl (Jg (PR.sub rfl rfl (by first | exact nw _ (by omega) | rfl)) rfl (Jg (Jd rfl) rfl (Jf (Ja (hK2 (Je fun _ hK3 _=>?_))))))))))))))));refine Je fun _ hK4 _=>(Jb (Jg (Jc rfl) rfl (Jg (JM rfl rfl) rfl (Jf (Ja (hK4 (Jl rfl (fun h10=>?_) (fun h10=>?_))))))))
 ·
  refine Je fun _ hK5 _=>(Jb (Jg (Jd rfl) rfl (Jf (Ja (hK5 (Jp (Jh (Jk rfl (Res.tmp rfl) fun w hH=>?_))))))));exact ⟨ri (if_pos h10).symm,hH⟩
 ·
  refine Jj (Ja (hK3 (Je fun _ hK6 _=>(Jb (Jg (Jc rfl) rfl (Jg (Jd rfl) rfl (Jf (Ja (hK6 (Jp (Jk rfl (Res.tmp rfl) fun w hH=>?_)))))))))));exact ⟨ri (if_neg h10).symm,hH⟩
theorem szAlgebra_c {B:World} {H0 H:HP} {L:List SA} {w:World} {qad qaf:Option Addr} {cad caf:Nat} {ad:List Int} {af:List (List Term)} {left:Int} (had:Ints H qad ad) (haf:Forms H qaf af) (hn:0≤left∧left≤1000000000∧ad.length≤9223372036854775807∧af.length≤9223372036854775807) (hl : ∀i,i<af.length→(fm af i).length≤9223372036854775807) (hH:Hp B H0 H L w):Calls Try.prog 5 [.agg [.slice qad ad.length cad,.slice qaf af.length caf].toArray,.int .i64 left].toArray w fun e w'=>e = .returned (.int .i64 (szv (left - ad.length - af.length - tot af)))∧Hp B H0 H L w':=by
 refine Jt Try.func5 rfl 18 rfl rfl [(0,.agg [.slice qad ad.length cad,.slice qaf af.length caf].toArray),(1,.int .i64 left)] rfl hH ?_;clear hH;refine Je fun _ hK1 _=>(Jb (Eb rfl rfl rfl fun g2=>(Jg (Jd rfl) rfl (Jf (Ja (hK1 (Je fun _ hK2 _=>(Jb (Jg (Jq u25 rfl sz22 rfl) rfl (Jg (Jr rfl At.z rfl pl22) rfl (Jg (Jc rfl) rfl (Jz fn16 rfl rfl fun w hH=>(szInt64S_c had (by omega) hH).mono ?_))))))))))));rintro _ w ⟨rfl,hH⟩;refine ⟨_,rfl,fun a hF=>JT hF hH ?_⟩;refine Jg (Jd rfl) rfl (Jf (Ja (hK2 (Je fun _ hK3 _=>(Je fun _ hK4 _=>(Jb (Jg (Jc rfl) rfl (Jg (JM rfl rfl) rfl (Jf (Ja (hK4 (Jl rfl (fun h10=>?_) (fun h10=>?_)))))))))))))
 ·
  refine Je fun _ hK5 _=>(Jb (Jg (Jd rfl) rfl (Jf (Ja (hK5 (Jp (Jh (Jk rfl (Res.tmp rfl) fun w hH=>?_))))))));replace hH:=hH.tail;exact ⟨ri (by unfold szv;rw [if_pos (by split at h10 <;> omega)]),hH⟩
 ·
  refine Jj (Ja (hK3 (Je fun _ hK6 _=>(Jb (Jg (Jq u25 rfl sz23 rfl) rfl (Jg (Jr rfl At.z rfl pl23) rfl (Jg (Jc rfl) rfl (Jz fn17 rfl rfl fun w hH=>(szFormS_c haf (by split at h10 <;> split <;> omega) hl hH).mono ?_))))))));rintro _ w ⟨rfl,hH⟩;refine ⟨_,rfl,fun a hF=>JT hF hH ?_⟩;refine Jg (Jd rfl) rfl (Jf (Ja (hK6 (Je fun _ hK7 _=>(Je fun _ hK8 _=>(Jb (Jg (Jc rfl) rfl (Jg (JM rfl rfl) rfl (Jf (Ja (hK8 (Jl rfl (fun h16=>?_) (fun h16=>?_)))))))))))))
  ·
   refine Je fun _ hK9 _=>(Jb (Jg (Jd rfl) rfl (Jf (Ja (hK9 (Jp (Jh (Jk rfl (Res.tmp rfl) fun w hH=>?_))))))));replace hH:=hH.tail;have e9:=h16;unfold szv at e9 ⊢;exact ⟨ri (by rw [if_pos (by split at h10 <;> split at e9 <;> omega)]),hH⟩
  ·
   refine Jj (Ja (hK7 (Je fun _ hK10 _=>(Jb (Jg (Jc rfl) rfl (Jg (Jd rfl) rfl (Jf (Ja (hK10 (Jp (Jk rfl (Res.tmp rfl) fun w hH=>?_)))))))))));replace hH:=hH.tail;exact ⟨ri (by unfold szv at h16 ⊢;split at h10 <;> split at h16 <;> split <;> omega),hH⟩
theorem toAlgebra_c {B:World} {H0 H:HP} {L:List SA} {w:World} {qad qaf:Option Addr} {cad caf:Nat} {ad:List Int} {af:List (List Term)} (had:Ints H qad ad) (haf:Forms H qaf af) (hn:ad.length≤1048576∧af.length≤1048576) (hl : ∀i,i<af.length→(fm af i).length≤1048576) (hH:Hp B H0 H L w):Calls Try.prog 7 [.agg [.slice qad ad.length cad,.slice qaf af.length caf].toArray].toArray w fun e w'=>∃qd cd qf cf vs,e = .returned (.agg [.slice qd ad.length cd,.slice qf af.length cf].toArray)∧Hp B H0 H (own 2 1 qd ad.length cd (intsC ad)::ownFs 74 104 qf cf vs af::L) w':=by
 refine Jt Try.func7 rfl 13 rfl rfl [(0,.agg [.slice qad ad.length cad,.slice qaf af.length caf].toArray)] rfl hH ?_;clear hH;refine Je fun _ hK1 _=>(Jb (Eb rfl rfl rfl fun g1=>(JW ze32 rfl fun g2=>(Jf (Ja (hK1 (Je fun _ hK2 _=>(Jb (JW ze32 rfl fun g3=>(Jf (Ja (hK2 (Je fun _ hK3 _=>(Jb (Jg (Jq u25 rfl sz22 rfl) rfl (Jg (Jr rfl (.s (.s .z)) rfl pl22) rfl ?_))))))))))))))));refine Jz fn20 rfl rfl fun w hH=>(toInt64S_c had (by omega) hH).mono ?_;rintro _ w ⟨qo6,co6,rfl,hH⟩;refine ⟨_,rfl,fun a hF=>JT hF hH ?_⟩;refine Jg (Jq u32 rfl sz22 rfl) rfl (Et rfl rfl rfl rfl sz22 (by simp [*]) (.s .z) (Jf (Ja (hK3 (Je fun _ hK4 _=>(Jb (Jg (Jq u25 rfl sz23 rfl) rfl (Jg (Jr rfl (.s (.s (.s .z))) rfl pl23) rfl (Jz fn21 rfl rfl fun w hH=>(toFormS_c haf (by omega) hl hH).mono ?_)))))))));rintro _ w ⟨qo10,co10,vso10,rfl,hH⟩;refine ⟨_,rfl,fun a hF=>JT hF hH ?_⟩;refine Jg (Jq u32 rfl sz30 rfl) rfl (Et rfl rfl rfl rfl sz30 (by simp [*]) (.s (.s .z)) (Jf (Ja (hK4 (Je fun _ hK5 _=>(Jb (Jg (Ju rfl (.s (.s .z)) (by simpa [*] using ag32)) rfl (JF rfl rfl (by first | exact bytesC_one _ | exact intsC_one _ | exact Term.c_one _ | simp [Value.oneCell']) (by simpa [*] using sz32) (by simp [*]) (.s (.s (.s .z))) (Jf (Ja (hK5 (Jp (Jk rfl (Res.agg rfl (.s (.s (.s .z))) (by simpa [*] using ag32)) fun w hH=>?_)))))))))))));replace hH:=hH.sublist (.cons_cons _ (.cons_cons _ (.cons _ (.cons _ (.cons _ (List.Sublist.refl _))))));exact ⟨_,_,_,_,_,rfl,hH.front (.s .z)⟩
section
variable {P : Program} {n : Nat} {B : World} {H0 H : HP} {us : List (Nat × Value)} {L : List SA} {t : TypeId} {x : Operand}
theorem PR.loadHb {ty:TypeId} {b:Nat} {u v:Value} (hx:opv us x=some (.pointer (some ⟨b,0,none⟩))) (h0:CellAt H b 0 u) (h1:CellAt H b 1 v) (hp:Agg P ty 2):PR P n B H0 us H L (.load ty x) t (.agg [u,v].toArray):=
 JH (q:=some ⟨b,0,none⟩) (k:=0) (cs:=[u,v]) hx (fun j w hj=>by
  match j,hj with
  | 0,hj=>simp at hj;subst hj;exact h0
  | 1,hj=>simp at hj;subst hj;exact h1
  | j+2,hj=>simp at hj) rfl hp
end
theorem isAlg_deg {ds:List Int} {fs:List (List Term)} (h:isAlg ds fs=true):isDeg ds=true:=by
 unfold isAlg at h;simp only [Bool.and_eq_true] at h;exact h.1.1.1
theorem u50:Try.prog.underlying 50=some (TypeDesc.pointer 32):=by kernel_rfl
theorem pl50:Plain Try.prog 50:=⟨_,u50,rfl⟩
theorem fn47:Fn Try.prog 47:=⟨_,Try.func47,by kernel_rfl,rfl⟩
theorem fn69:Fn Try.prog 69:=⟨_,Try.func69,by kernel_rfl,rfl⟩
theorem fn71:Fn Try.prog 71:=⟨_,Try.func71,by kernel_rfl,rfl⟩
def codeA (ds:List Int) (fs:List (List Term)) (gs:List (List Term)):Int:=if isAlg ds fs && gs.all (isForm ds) then 0 else 1
theorem any_no {ds:List Int} : ∀gs:List (List Term),(gs.any fun ts=>!(isForm ds ts)) = !(gs.all (isForm ds))
 | []=>rfl
 | g::gs=>by simp only [List.any_cons,List.all_cons,any_no gs,Bool.not_and]
theorem algebraCode1_c {B:World} {H0 H:HP} {L:List SA} {w:World} {qts:Option Addr} {cts:Nat} {ts:List Term} {bba:Nat} {ba:Nat} {qad qaf:Option Addr} {cad caf:Nat} {ad:List Int} {af:List (List Term)} (hts:Terms H qts ts) (kba:cellO H (some ⟨bba,0,none⟩) 0=some (.pointer (some ⟨ba,0,none⟩))) (pad:CellAt H ba 0 (.slice qad ad.length cad)) (paf:CellAt H ba 1 (.slice qaf af.length caf)) (had:Ints H qad ad) (haf:Forms H qaf af) (hn8:ad.length≤1048576) (hlt:ts.length≤9223372036854775807) (hH:Hp B H0 H L w):Calls Try.prog 71 [.agg [.slice qts ts.length cts].toArray,.pointer (some ⟨bba,0,none⟩)].toArray w fun e w'=>e = .returned (.bool (!(isForm ad ts)))∧Hp B H0 H L w':=by
 refine Jt Try.func71 rfl 11 rfl rfl [(0,.agg [.slice qts ts.length cts].toArray),(1,.pointer (some ⟨bba,0,none⟩))] rfl hH ?_;clear hH;refine Je fun _ hK1 _=>(Jb (Eb rfl rfl rfl fun g2=>(Jg (Jd rfl) rfl (Jf (Ja (hK1 (Je fun _ hK2 _=>(Ep [[], [0], [1], [2], []] (by kernel_rfl) (Jx (fun gh=>JL (q:=some ⟨bba,0,none⟩) (k:=0) rfl kba pl50) (Jx (fun gh=>JK rfl) (Jx (fun gh=>Jq u32 rfl sz22 rfl) (Jx (fun gh=>JL (q:=some ⟨ba,0,none⟩) (k:=0) rfl pad pl22) (Jx (fun gh=>Ju rfl At.z (by simpa [*] using ag74)) (Ec 5 1 foll0 (by kernel_rfl) rfl rfl fun gh=>(Em (us':=(4,_)::(5,_)::(6,_)::(7,_)::(8,_)::_) (L':=_) rfl rfl ?_)))))))))))))));refine Jz fn72 rfl rfl fun w hH=>(isForm_c had hts hn8 hlt hH).mono ?_;rintro _ w ⟨rfl,hH⟩;refine ⟨_,rfl,fun a hF=>JT hF hH ?_⟩;refine Jf (Ed (Jv (Ei rfl) rfl (Jv (Jd rfl) rfl (Ef (Ja (hK2 (Jp (Jk rfl (Res.tmp rfl) fun w hH=>?_))))))));replace hH:=hH.tail;exact ⟨rfl,hH⟩
theorem algebraCode_c {B:World} {H0 H:HP} {L:List SA} {w:World} {ba:Nat} {qad qaf:Option Addr} {cad caf:Nat} {ad:List Int} {af:List (List Term)} {qfs:Option Addr} {cfs:Nat} {fs:List (List Term)} (pad:CellAt H ba 0 (.slice qad ad.length cad)) (paf:CellAt H ba 1 (.slice qaf af.length caf)) (had:Ints H qad ad) (haf:Forms H qaf af) (hfs:Forms H qfs fs) (hn8:ad.length≤1048576) (hn9:af.length≤1048576) (hl9 : ∀i,i<af.length→(fm af i).length≤1048576) (hnf:fs.length≤9223372036854775807) (hlf : ∀i,i<fs.length→(fm fs i).length≤9223372036854775807) (hH:Hp B H0 H L w):Calls Try.prog 46 [.pointer (some ⟨ba,0,none⟩),.slice qfs fs.length cfs].toArray w fun e w'=>e = .returned (.int .i64 (codeA ad af fs))∧Hp B H0 H L w':=by
 refine Jt Try.func46 rfl 18 rfl rfl [(0,.pointer (some ⟨ba,0,none⟩)),(1,.slice qfs fs.length cfs)] rfl hH ?_;have hw0:=hH.old;have hw1:=hH.le;clear hH;refine Je fun _ hK1 _=>(Jb (Eb rfl rfl rfl fun g2=>(Jg (Jd rfl) rfl (Jf (Ja (hK1 (Je fun _ hK2 _=>(Jb (Jg (Jr rfl At.z rfl pl50) rfl (Jg (JK rfl) rfl (Jg (PR.loadHb rfl pad paf ag32) rfl (Jz fn69 rfl rfl fun w hH=>(IsAlgebra_c had haf hn8 hn9 hl9 hH).mono ?_))))))))))));rintro _ w ⟨rfl,hH⟩;refine ⟨_,rfl,fun a hF=>JT hF hH ?_⟩;refine Jg (Ei rfl) rfl (Jg (Jc rfl) rfl (Eg (jd:=11) rfl (fun h11=>?_) (fun h11=>?_)))
 ·
  try have h11p:=of_decide_eq_true h11
  refine JO rfl rfl rfl h11 (JO rfl rfl rfl h11 (JO rfl rfl rfl h11 (Jg (JX rfl h11 rfl) rfl (Jg (Jd rfl) rfl (Jf (Ja (hK2 (Je fun _ hK3 _=>(Jb (Jg (Jc rfl) rfl (Jz fn47 rfl rfl fun w hH=>(when_c hH).mono ?_)))))))))));rintro _ w ⟨rfl,hH⟩;refine ⟨_,rfl,fun a hF=>JT hF hH ?_⟩;refine Jg (Jd rfl) rfl (Jf (Ja (hK3 (Jp (Jk rfl (Res.tmp rfl) fun w hH=>?_)))));replace hH:=hH.tail;exact ⟨ri (by unfold codeA;rw [show isAlg ad af=false by simpa using h11];rfl),hH⟩
 ·
  try have h11p:=of_decide_eq_false h11
  refine JU (Jc rfl) rfl rfl rfl h11 (JU (PR.makeFunc (ys:=[]) (zs:=[_]) rfl rfl) rfl rfl rfl h11 (J.freezeRow .z fun H3 hle3 hc3=>?_));have hfs3:=hfs.le hle3;have hcl:ClF B H0 H3 71 #[.pointer (some ⟨g2,0,none⟩)] (fun ts=>ts.length≤9223372036854775807) (fun ts=>!(isForm ad ts)):=fun H' L w q c x hle hS hx hH=>algebraCode1_c hx (cellO_le hle (hc3 0 _ rfl)) (pad.le (hle3.trans hle)) (paf.le (hle3.trans hle)) (had.le (hle3.trans hle)) (haf.le (hle3.trans hle)) hn8 hS hH;refine EE fn70 rfl rfl h11 rfl rfl fun w hH=>(ContainsFuncF_c hfs3 fn71 hcl hnf hlf hH).mono ?_;rintro _ w ⟨rfl,hH⟩;refine ⟨_,rfl,fun a hF=>JT hF hH ?_⟩;refine Jg (JV rfl h11 rfl) rfl (Jg (Jd rfl) rfl (Jf (Ja (hK2 (Je fun _ hK4 _=>(Jb (Jg (Jc rfl) rfl (Jz fn47 rfl rfl fun w hH=>(when_c hH).mono ?_))))))));rintro _ w ⟨rfl,hH⟩;refine ⟨_,rfl,fun a hF=>JT hF hH ?_⟩;refine Jg (Jd rfl) rfl (Jf (Ja (hK4 (Jp (Jk rfl (Res.tmp rfl) fun w hH=>?_)))));exact ⟨ri (by unfold codeA;rw [show isAlg ad af=true by simpa using h11,any_no];cases fs.all (isForm ad) <;> rfl),hH.weaken hle3 hw0 hw1⟩
theorem u27:Try.prog.underlying 27=some (TypeDesc.slice 22):=by kernel_rfl
theorem rows_eq_of {xs ys:List (List Int)} (hl:(xs.length:Int)=ys.length) (h : ∀j,j<xs.length→rw_ xs j=rw_ ys j):xs=ys:=by
 apply List.ext_getElem (by omega);intro j h1 h2;have:=h j h1
 rwa [rw_,rw_,List.getD_eq_getElem?_getD,List.getD_eq_getElem?_getD,List.getElem?_eq_getElem h1,List.getElem?_eq_getElem h2] at this
theorem eqInt64SS_c {B:World} {H0 H:HP} {L:List SA} {w:World} {qxs:Option Addr} {cxs:Nat} {xs:List (List Int)} {qys:Option Addr} {cys:Nat} {ys:List (List Int)} (hxs:RowsR H qxs xs) (hys:RowsR H qys ys) (hn:xs.length≤9223372036854775807) (hf : ∀i,i<xs.length→(rw_ xs i).length≤1048576) (hH:Hp B H0 H L w):Calls Try.prog 9 [.slice qxs xs.length cxs,.slice qys ys.length cys].toArray w fun e w'=>e = .returned (.bool (decide (xs=ys)))∧Hp B H0 H L w':=by
 refine Jt Try.func9 rfl 27 rfl rfl [(0,.slice qxs xs.length cxs),(1,.slice qys ys.length cys)] rfl hH ?_;clear hH;refine Je fun _ hK1 _=>(Jb (Jg (Jd rfl) rfl (Jf (Ja (hK1 (Je fun _ hK2 _=>(Je fun _ hK3 _=>(Jb (Jg (Jc rfl) rfl (Jg (Jn u27 rfl rfl) rfl (Jg (Jc rfl) rfl (Jg (Jn u27 rfl rfl) rfl (Jg (Ek rfl rfl) rfl (Jf (Ja (hK3 ?_))))))))))))))));refine Jl rfl (fun h10=>?_) (fun h10=>?_)
 ·
  refine Je fun _ hK4 _=>(Jb (Jg (Jd rfl) rfl (Jf (Ja (hK4 (Jp (Jh (Jk rfl (Res.tmp rfl) fun w hH=>?_))))))));exact ⟨rb (decide_eq_false (fun e=>h10 (by rw [e]))).symm,hH⟩
 ·
  refine Jj (Ja (hK2 (Je fun _ hK5 _=>(Je fun _ hK6 _=>(Jb (Jg (Jd rfl) rfl (Jf (Ja (hK6 (Jm (JC (σ:=Nat) (fun (k:Nat)=>[(5,.int .i64 (k:Int))]) (fun (k:Nat)=>H) (fun (k:Nat)=>L) (fun (k:Nat)=>k≤xs.length∧∀j,j<k→rw_ xs j=rw_ ys j) (fun (k:Nat)=>xs.length - k) 0 ⟨by omega,fun j hj=>by omega⟩ ⟨rfl,trivial⟩ rfl rfl ?_)))))))))));rintro k hI _ hAg0;have hk:=hI.1;refine Je fun _ hK7 _=>(Je fun _ hK8 _=>(Jb (Jg (Jc rfl) rfl (Jg (Jc rfl) rfl (Jg (Jn u27 rfl rfl) rfl (Jg (JM rfl rfl) rfl (Jf (Ja (hK8 (Jl rfl (fun hc14=>?_) (fun hc14=>?_)))))))))))
  ·
   refine Jj (Ja (hK7 (Je fun _ hK9 _=>(Jm (Je fun _ hK10 _=>(Ep [[], [], [0,1], [2], [], [], [4,5], [6]] (by kernel_rfl) (Jx (fun gh=>Jc rfl) (Jx (fun gh=>Jc rfl) (Jx (fun gh=>JY u27 sz22 rfl rfl rfl (by omega) hxs.sm) ?_)))))))));obtain ⟨qe20,ce20,he20,le20,Fe20⟩:=hxs k (by omega);refine Jx (fun gh=>JL rfl he20 pl22) (Jx (fun gh=>Jc rfl) (Jx (fun gh=>Jc rfl) (Jx (fun gh=>JY u27 sz22 rfl rfl rfl (by omega) hys.sm) ?_)));obtain ⟨qe24,ce24,he24,le24,Fe24⟩:=hys k (by omega);refine Jx (fun gh=>JL rfl he24 pl22) (Ec 8 1 foll0 (by kernel_rfl) rfl rfl fun gh=>(Em (us':=(17,_)::(18,_)::(19,_)::(20,_)::(21,_)::(22,_)::(23,_)::(24,_)::_) (L':=_) rfl rfl (Jz fn25 rfl rfl fun w hH=>(eqInt64S_c Fe20 Fe24 (hf k (by omega)) hH).mono ?_)));rintro _ w ⟨rfl,hH⟩;refine ⟨_,rfl,fun a hF=>JT hF hH ?_⟩;refine Jf (Ed (Jv (Ei rfl) rfl (Ef (Ja (hK10 (Eh rfl (fun h26=>?_) (fun h26=>?_)))))))
   ·
    refine Je fun _ hK11 _=>(Jb (Jg (Jd rfl) rfl (Jf (Ja (hK11 (Jp (JJ (Jh (Jh (JJ (Jh (Jk rfl (Res.tmp rfl) fun w hH=>?_))))))))))));exact ⟨rb (decide_eq_false (fun e=>(by rw [e] at h26;simp at h26))).symm,hH⟩
   ·
    refine Jj (JE (Ja (hK9 (Jb (Jg (Jc rfl) rfl (Jg (JA rfl rfl (by first | exact nw _ (by omega) | rfl)) rfl (Jg (Jd rfl) rfl (Jf (Ja ?_)))))))));exact hAg0 (k+1) ⟨by omega,upto hI.2 (of_decide_eq_true (notf h26))⟩ (by omega) 18 rfl rfl ⟨rfl,trivial⟩ rfl rfl
  ·
   refine JG (Ji (Ji (JN (Ja (hK5 (Je fun _ hK12 _=>(Jb (Jg (Jd rfl) rfl (Jf (Ja (hK12 (Jp (Jk rfl (Res.tmp rfl) fun w hH=>?_)))))))))))));exact ⟨rb (decide_eq_true (rows_eq_of (by omega) (fun j hj=>hI.2 j (by omega)))).symm,hH⟩
theorem isDeg_pos1 {ds:List Int} (h:isDeg ds=true) : ∀j,j<ds.length→1≤ds.getD j 0:=by
 intro j hj;unfold isDeg at h;rw [Bool.and_eq_true] at h;have:=List.all_eq_true.1 h.2 (ds.getD j 0) (by rw [List.getD_eq_getElem?_getD,List.getElem?_eq_getElem hj];exact List.getElem_mem hj);rw [Bool.and_eq_true,decide_eq_true_eq] at this
 omega
theorem forms_nil (H:HP):Forms H none []:=fun i hi=>by simp at hi
def algC (ds:List Int) (fs:List (List Term)):Int:=if isAlg ds fs then 0 else 1
theorem codeA_nil (ds:List Int) (fs:List (List Term)):codeA ds fs []=algC ds fs:=by unfold codeA algC;simp
theorem fn29:Fn Try.prog 29:=⟨_,Try.func29,by kernel_rfl,rfl⟩
theorem markInt64SS_s {B:World} {H0 H:HP} {L:List SA} {w:World} {qfs:Option Addr} {cfs:Nat} {vs:Vs} {fs:List (List Int)} {k:Int} (hn:0≤k∧k+(totI fs:Nat)≤9223372036854775807) (hl:fs.length≤9223372036854775807) (hq:0<fs.length→qfs.isSome=true) (hH:Hp B H0 H (emp::ownIs 2 vs fs::own 22 1 qfs fs.length cfs (slicesI vs fs)::L) w):Calls Try.prog 12 [.slice qfs fs.length cfs,.int .i64 k].toArray w fun e w'=>e = .returned (.int .i64 (k+(totI fs:Nat)))∧Hp B H0 H (ownIs 2 vs (marksIs k fs)::own 22 1 qfs fs.length cfs (slicesI vs fs)::L) w':=by
 refine Jt Try.func12 rfl 19 rfl rfl [(0,.slice qfs fs.length cfs),(1,.int .i64 k)] rfl hH ?_;clear hH;refine Je fun _ hK1 _=>(Jb (Jg (Jd rfl) rfl (Jf (Ja (hK1 (Je fun _ hK2 _=>(Je fun _ hK3 _=>(Jb (Jg (Jd rfl) rfl (Jf (Ja (hK3 (Jm (JC (σ:=Nat) (fun (i:Nat)=>[(5,.int .i64 (i:Int)),(1,.int .i64 (k+(totI (fs.take i):Nat)))]) (fun (i:Nat)=>H) (fun (i:Nat)=>ownIs 2 vs (marksIs k (fs.take i))::ownIs 2 (vs.dr i) (fs.drop i)::own 22 1 qfs fs.length cfs (slicesI vs fs)::L) (fun (i:Nat)=>i≤fs.length) (fun (i:Nat)=>fs.length - i) 0 (by omega) ⟨rfl,⟨(vi (by simp [totI])),trivial⟩⟩ rfl rfl ?_))))))))))))));rintro i hI _ hAg0;have hk:=hI;refine Je fun _ hK4 _=>(Je fun _ hK5 _=>(Jb (Jg (Jc rfl) rfl (Jg (Jc rfl) rfl (Jg (Jn u27 rfl rfl) rfl (Jg (JM rfl rfl) rfl (Jf (Ja (hK5 (Jl rfl (fun hc9=>?_) (fun hc9=>?_)))))))))))
 ·
  refine Jj (Ja (hK4 (Je fun _ hK6 _=>(Jm (Jb (Jg (Jc rfl) rfl (Jg (Jc rfl) rfl (Jg (JY u27 sz22 rfl rfl rfl (by omega) (fun _=>hq (by omega))) rfl (Jg (PR.loadO rfl (.s (.s .z)) (slicesI_get (i:=i) (by omega)) pl22) rfl (Jg (Jc rfl) rfl (Jz fn27 rfl rfl fun w hH=>(markInt64S_c (by have:=totI_take_le (fs:=fs) (i:=i) (by omega);omega) (Hp.isIn (i:=i) (hH.front (.s .z)) (by omega))).mono ?_)))))))))));rintro _ w ⟨rfl,hH⟩
  have hH2:=Hp.isOut (f:=marks (k+(totI (fs.take i):Nat)) (rw_ fs i).length) (vs:=vs) (gs:=marksIs k (fs.take i)) (by
   have e:(marksIs k (fs.take i)).length=i:=by simp;omega
   rw [e,marks_length]
   exact hH.front (.s (.s .z)) |>.front (.s .z))
  refine ⟨_,rfl,fun a hF=>JT hF hH2 ?_⟩;refine Jg (Jd rfl) rfl (Jf (JE (Ja (hK6 (Jb (Jg (Jc rfl) rfl (Jg (JA rfl rfl (by first | exact nw _ (by omega) | rfl)) rfl (Jg (Jd rfl) rfl (Jf (Ja ?_))))))))));exact hAg0 (i+1) (by omega) (by omega) 16 rfl rfl ⟨rfl,⟨(vi (by rw [totI_succ (by omega)];omega)),trivial⟩⟩ rfl (by rw [marksIs_succ (by omega)])
 ·
  refine JG (Ji (Ji (JN (Ja (hK2 (Je fun _ hK7 _=>(Jb (Jg (Jc rfl) rfl (Jg (Jd rfl) rfl (Jf (Ja (hK7 (Jp (Jk rfl (Res.tmp rfl) fun w hH=>?_))))))))))))));replace hH:=hH.sublist (.cons_cons _ (.cons _ (.cons_cons _ (List.Sublist.refl _))))
  obtain rfl:i=fs.length:=by omega
  rw [List.take_length] at hH;exact ⟨by rw [List.take_length],hH⟩
theorem markInt64SS_c {B:World} {H0 H:HP} {L:List SA} {w:World} {q:Option Addr} {c:Nat} {vs:Vs} {fs:List (List Int)} {k:Int} (hn:0≤k∧k+(totI fs:Nat)≤9223372036854775807) (hl:fs.length≤9223372036854775807) (hH:Hp B H0 H (ownRs 22 2 q c vs fs::L) w):Calls Try.prog 12 [.slice q fs.length c,.int .i64 k].toArray w fun e w'=>e = .returned (.int .i64 (k+(totI fs:Nat)))∧Hp B H0 H (ownRs 22 2 q c vs (marksIs k fs)::L) w':=by
 have hu:=hH.unstar
 have hq:0<fs.length→q.isSome=true:=fun h=>by
  rcases (hu.objs _ (List.mem_cons_self)).1.2 with ⟨_,h2,_⟩ | ⟨g,cur,rfl,_⟩
  ·omega
  ·rfl
 refine (markInt64SS_s hn hl hq ((hu.front (.s .z)).emp)).mono ?_;rintro _ w ⟨rfl,h⟩;refine ⟨rfl,?_⟩;have h2:=(h.front (.s .z)).star;unfold ownRs;rw [slicesI_marks,marksIs_length];exact h2
theorem heldInt64SS_c {B:World} {H0 H:HP} {L:List SA} {w:World} {qxs:Option Addr} {cxs:Nat} {xs:List (List Int)} {kxs:Int} (hxs:MRows H qxs kxs xs) (hn:0≤kxs∧kxs+(totI xs:Nat)≤9223372036854775807) (hl:xs.length≤9223372036854775807) (hH:Hp B H0 H L w):Calls Try.prog 13 [.slice qxs xs.length cxs,.int .i64 kxs].toArray w fun e w'=>e = .returned (.int .i64 (kxs+(totI xs:Nat)))∧Hp B H0 H L w':=by
 refine Jt Try.func13 rfl 21 rfl rfl [(0,.slice qxs xs.length cxs),(1,.int .i64 kxs)] rfl hH ?_;clear hH;refine Je fun _ hK1 _=>(Jb (Jg (Jd rfl) rfl (Jf (Ja (hK1 (Je fun _ hK2 _=>(Je fun _ hK3 _=>(Jb (Jg (Jd rfl) rfl (Jf (Ja (hK3 (Jm (JC (σ:=Nat) (fun (i:Nat)=>[(5,.int .i64 (i:Int)),(1,.int .i64 (kxs+(totI (xs.take i):Nat)))]) (fun (i:Nat)=>H) (fun (i:Nat)=>L) (fun (i:Nat)=>i≤xs.length) (fun (i:Nat)=>xs.length - i) 0 (by omega) ⟨rfl,⟨(vi (by simp [totI])),trivial⟩⟩ rfl rfl ?_))))))))))))));rintro i hI _ hAg0;have hk:=hI;refine Je fun _ hK4 _=>(Je fun _ hK5 _=>(Jb (Jg (Jc rfl) rfl (Jg (Jc rfl) rfl (Jg (Jn u27 rfl rfl) rfl (Jg (JM rfl rfl) rfl (Jf (Ja (hK5 (Jl rfl (fun hc9=>?_) (fun hc9=>?_)))))))))))
 ·
  refine Jj (Ja (hK4 (Je fun _ hK6 _=>(Jm (Je fun _ hK7 _=>(Jb (Jg (Jc rfl) rfl (Jg (Jc rfl) rfl (Jg (JY u27 sz22 rfl rfl rfl (by omega) hxs.sm) rfl ?_)))))))));obtain ⟨qe15,ce15,he15,Fe15⟩:=hxs i (by omega);refine Jg (JL rfl he15 pl22) rfl (Jg (Jc rfl) rfl (Jz fn29 rfl rfl fun w hH=>(heldInt64S_c Fe15 (by have:=totI_take_le (fs:=xs) (i:=i) (by omega);omega) hH).mono ?_));rintro _ w ⟨rfl,hH⟩;refine ⟨_,rfl,fun a hF=>JT hF hH ?_⟩;refine Jg (Jd rfl) rfl (Jf (Ja (hK7 (Je fun _ hK8 _=>(Jb (Jg (Jc rfl) rfl (Jg (JM rfl rfl) rfl (Jf (Ja (hK8 (Jl rfl (fun hc19=>?_) (fun hc19=>?_))))))))))))
  ·
   refine Je fun _ hK9 _=>(Jb (Jg (Jd rfl) rfl (Jf (Ja (hK9 (Jp (JJ (Jh (Jh (JJ (Jh (Jk rfl (Res.tmp rfl) fun w hH=>?_))))))))))))
   omega
  ·
   refine Jj (JE (Ja (hK6 (Jb (Jg (Jc rfl) rfl (Jg (JA rfl rfl (by first | exact nw _ (by omega) | rfl)) rfl (Jg (Jd rfl) rfl (Jf (Ja ?_)))))))));exact hAg0 (i+1) (by omega) (by omega) 18 rfl rfl ⟨rfl,⟨(vi (by rw [totI_succ (by omega)];omega)),trivial⟩⟩ rfl rfl
 ·
  refine JG (Ji (Ji (JN (Ja (hK2 (Je fun _ hK10 _=>(Jb (Jg (Jc rfl) rfl (Jg (Jd rfl) rfl (Jf (Ja (hK10 (Jp (Jk rfl (Res.tmp rfl) fun w hH=>?_))))))))))))))
  obtain rfl:i=xs.length:=by omega
  exact ⟨by rw [List.take_length],hH⟩
def zP:Pw:=List.replicate 8 0
theorem wsum_add {ds p q:Pw} (hp:p.length=8) (hq:q.length=8) : ∀n:Nat,wsum ds (addp p q) n=wsum ds p n+wsum ds q n
 | 0=>rfl
 | n+1=>by
  simp only [wsum]
  rw [wsum_add hp hq n,addp_get hp hq,Int.mul_add]
  omega
structure Dg (ds:Pw):Prop where
 hn:ds.length≤8
 pos : ∀j,j<ds.length→1≤ds.getD j 0
 hd : ∀j,0≤ds.getD j 0∧ds.getD j 0≤12
def ldR (r:List Int):Nat:=r.findIdx fun x=>decide (x≠0)
structure RowOk (W:Nat) (r:List Int):Prop where
 len:r.length=W
 val : ∀k,0≤r.getD k 0∧r.getD k 0≤10006
def invL:Nat→Int→Int→Int→Int
 | 0,_,o,_=>o
 | f+1,k,o,s=>if k=0 then o else invL f (k / 2) (if k % 2=1 then o * s % 10007 else o) (s * s % 10007)
def ivZ (x:Int):Int:=invL 14 10005 1 x
def lessS (row other:List Int) (k:Int):List Int:=(List.range row.length).map fun i=>fld (row.getD i 0 - k * other.getD i 0)
@[simp] theorem lessS_len (row other:List Int) (k:Int):(lessS row other k).length=row.length:=by simp [lessS]
abbrev Vc:=Nat→Int
section
variable {W : Nat} {R rows : List (List Int)} {row r s : List Int} {v : Vc}
def oneBy (row r:List Int):List Int:=lessS row r (row.getD (ldR r) 0)
def byS (row:List Int) (rows:List (List Int)):List Int:=rows.foldl oneBy row
def unitS (row:List Int):List Int:=lessS (List.replicate row.length 0) row (fld (-(ivZ (row.getD (ldR row) 0))))
theorem rep_get (n k:Nat):(List.replicate n (0:Int)).getD k 0=0:=by
 rw [List.getD_eq_getElem?_getD,List.getElem?_replicate]
 split <;> rfl
def insS (u:List Int):List (List Int)→List (List Int)
 | []=>[u]
 | r::rs=>if ldR u<ldR r then u::(r::rs).map (fun x=>lessS x u (x.getD (ldR u) 0)) else lessS r u (r.getD (ldR u) 0)::insS u rs
def putS (rows:List (List Int)) (row:List Int):List (List Int):=
 if ldR (byS row rows)<(byS row rows).length then insS (unitS (byS row rows)) rows else rows
def redS (rows:List (List Int)):List (List Int):=rows.foldl putS []
end
theorem mem_rw {rs:List (List Int)} {r:List Int}:r∈rs↔∃i,i<rs.length∧rw_ rs i=r:=by
 constructor
 ·intro h;obtain ⟨i,hi,rfl⟩:=List.mem_iff_getElem.1 h;exact ⟨i,hi,by simp [rw_,List.getD_eq_getElem?_getD,hi]⟩
 ·rintro ⟨i,hi,rfl⟩
  simp [rw_,List.getD_eq_getElem?_getD,hi]
def dnL (t:Int):List Int:=((List.range (t+1).toNat).map fun k:Nat=>(k:Int)).reverse
theorem dnL_neg {t:Int} (h:t<0):dnL t=[]:=by
 unfold dnL;rw [show (t+1).toNat=0 by omega]
 rfl
theorem dnL_succ {t:Int} (h:0≤t):dnL t=t::dnL (t - 1):=by
 obtain ⟨n,rfl⟩ : ∃n:Nat,t=n:=⟨t.toNat,by omega⟩;unfold dnL;rw [show ((n:Int)+1).toNat=n+1 by omega,show ((n:Int) - 1+1).toNat=n by omega,List.range_succ,List.map_append,List.reverse_append]
 rfl
theorem dnL_mem {k t:Int}:k∈dnL t↔0≤k∧k≤t:=by
 unfold dnL;simp only [List.mem_reverse,List.mem_map,List.mem_range]
 constructor
 ·rintro ⟨a,h1,rfl⟩
  omega
 ·intro h;exact ⟨k.toNat,by omega,by omega⟩
theorem dnL_srt (t:Int):(dnL t).Pairwise fun a b=>b<a:=by
 unfold dnL;rw [List.pairwise_reverse,List.pairwise_map]
 exact List.pairwise_lt_range.imp fun h=>by omega
def topM (d n:Int):Int:=if d.tmod 2=1 then min (min (n.tdiv d) 20) 1 else min (n.tdiv d) 20
theorem topM_le {d n k:Int} (hd:1≤d) (hn:k * d≤n) (hk:0≤k∧k≤20) (ho:d.tmod 2=1→k≤1):k≤topM d n:=by
 have h0:0≤k * d:=Int.mul_nonneg hk.1 (by omega)
 have h1:k≤n.tdiv d:=by
  rw [Int.tdiv_eq_ediv_of_nonneg (by omega)];exact (Int.le_ediv_iff_mul_le (by omega)).2 hn
 unfold topM
 split
 ·rename_i h
  have:=ho h
  omega
 ·omega
theorem topM_bd {d n k:Int} (h:k≤topM d n):k≤20∧(d.tmod 2=1→k≤1):=by
 unfold topM at h
 split at h
 ·omega
 ·exact ⟨by omega,fun e=>absurd e (by assumption)⟩
def enumF:List Int→Nat→List Int→Int→List (List Int)
 | [],_,m,n=>if n=0 then [m] else []
 | d::ds,i,m,n=>(dnL (topM d n)).flatMap fun k=>enumF ds (i+1) (m.set i k) (n - k * d)
def wsF:List Int→List Int→Nat→Int
 | [],_,_=>0
 | d::ds,p,i=>d * p.getD i 0+wsF ds p (i+1)
theorem enumF_mem : ∀{ds:List Int} {i:Nat} {m p:List Int} {n:Int},i+ds.length≤8→m.length=8→p∈enumF ds i m n→p.length=8∧(∀j,j<i∨i+ds.length≤j→p.getD j 0=m.getD j 0)∧(∀t,t<ds.length→0≤p.getD (i+t) 0∧p.getD (i+t) 0≤20∧((ds.getD t 0).tmod 2=1→p.getD (i+t) 0≤1))∧wsF ds p i=n
 | [],i,m,p,n,_,hm,h=>by
  simp only [enumF] at h
  split at h
  ·rw [List.mem_singleton.1 h]
   exact ⟨hm,fun j _=>rfl,fun t ht=>by simp at ht,by simp [wsF, *]⟩
  ·simp at h
 | d::ds,i,m,p,n,hi,hm,h=>by
  simp only [enumF,List.mem_flatMap] at h
  obtain ⟨k,hk,h⟩:=h
  simp only [List.length_cons] at hi
  obtain ⟨h1,h2,h3,h4⟩:=enumF_mem (ds:=ds) (by omega) (by simpa using hm) h
  have hpi:p.getD i 0=k:=by
   rw [h2 i (.inl (by omega)),getD_set8,if_pos ⟨rfl,by omega⟩]
  have hk2:=dnL_mem.1 hk
  have hk3:=topM_bd hk2.2
  refine ⟨h1,fun j hj=>?_,fun t ht=>?_,?_⟩
  ·simp only [List.length_cons] at hj
   rw [h2 j (by omega),getD_set8,if_neg (by omega)]
  ·cases t with
   | zero=>rw [Nat.add_zero,hpi];exact ⟨hk2.1,hk3.1,hk3.2⟩
   | succ t=>
    have:=h3 t (by simpa using ht)
    rw [show i+1+t=i+(t+1) by omega] at this
    exact this
  ·simp only [wsF]
   rw [h4,hpi,Int.mul_comm]
   omega
theorem wsF_nn {p:List Int} (hp : ∀j,0≤p.getD j 0) : ∀{ds:List Int} {i:Nat},(∀t,t<ds.length→1≤ds.getD t 0)→0≤wsF ds p i
 | [],_,_=>by simp [wsF]
 | d::ds,i,h=>by
  have h1:=wsF_nn hp (ds:=ds) (i:=i+1) fun t ht=>by have:=h (t+1) (by simpa using ht);simpa using this
  have h2:=h 0 (by simp)
  simp only [List.getD_cons_zero] at h2
  have h3:0≤d * p.getD i 0:=Int.mul_nonneg (by omega) (hp i)
  simp only [wsF]
  omega
theorem enumF_in : ∀{ds:List Int} {i:Nat} {m p:List Int} {n:Int},i+ds.length≤8→m.length=8→p.length=8→(∀t,t<ds.length→1≤ds.getD t 0)→(∀j,j<i∨i+ds.length≤j→p.getD j 0=m.getD j 0)→(∀j,0≤p.getD j 0)→
 (∀t,t<ds.length→p.getD (i+t) 0≤20∧((ds.getD t 0).tmod 2=1→p.getD (i+t) 0≤1))→wsF ds p i=n→p∈enumF ds i m n
 | [],i,m,p,n,_,hm,hp,_,ha,_,_,hw=>by
  have e:n=0:=by rw [← hw];rfl
  simp only [enumF]
  rw [if_pos e,List.mem_singleton]
  exact list_eq_of (by omega) fun j _=>ha j (by simp;omega)
 | d::ds,i,m,p,n,hi,hm,hp,hd,ha,h0,hb,hw=>by
  simp only [List.length_cons] at hi
  simp only [wsF] at hw
  simp only [enumF,List.mem_flatMap]
  have hd0:=hd 0 (by simp)
  simp only [List.getD_cons_zero] at hd0
  have hb0:=hb 0 (by simp)
  simp only [Nat.add_zero,List.getD_cons_zero] at hb0
  have hds : ∀t,t<ds.length→1≤ds.getD t 0:=fun t ht=>by have:=hd (t+1) (by simpa using ht);simpa using this
  have hnn:=wsF_nn h0 (i:=i+1) hds
  have hc:p.getD i 0 * d=d * p.getD i 0:=Int.mul_comm _ _
  refine ⟨p.getD i 0,dnL_mem.2 ⟨h0 i,topM_le hd0 (by omega) ⟨h0 i,hb0.1⟩ hb0.2⟩,enumF_in (by omega) (by simpa using hm) hp hds (fun j hj=>?_) h0 (fun t ht=>?_) (by omega)⟩
  ·rw [getD_set8]
   split
   ·rename_i e;rw [e.1]
   ·rename_i e
    exact ha j (by simp only [List.length_cons];omega)
  ·have:=hb (t+1) (by simpa using ht)
   rw [show i+(t+1)=i+1+t by omega] at this
   simpa using this
theorem enumF_srt : ∀{ds:List Int} {i:Nat} {m:List Int} {n:Int},i+ds.length≤8→m.length=8→(enumF ds i m n).Pairwise fun p q=>before p q=true
 | [],i,m,n,_,_=>by
  simp only [enumF]
  split <;> simp
 | d::ds,i,m,n,hi,hm=>by
  simp only [List.length_cons] at hi
  simp only [enumF]
  rw [List.pairwise_flatMap]
  refine ⟨fun k _=>enumF_srt (by omega) (by simpa using hm),(dnL_srt _).imp fun {a b} hab p hp q hq=>?_⟩
  obtain ⟨_,p2,_,_⟩:=enumF_mem (by omega) (by simpa using hm) hp
  obtain ⟨_,q2,_,_⟩:=enumF_mem (by omega) (by simpa using hm) hq
  refine before_iff.2 ⟨i,by omega,fun j hj=>?_,?_⟩
  ·rw [p2 j (.inl (by omega)),q2 j (.inl (by omega)),getD_set8,getD_set8,if_neg (by omega),if_neg (by omega)]
  ·rw [p2 i (.inl (by omega)),q2 i (.inl (by omega)),getD_set8,getD_set8,if_pos ⟨rfl,by omega⟩,if_pos ⟨rfl,by omega⟩]
   exact hab
def monS (ds:List Int) (n:Int):List Pw:=enumF ds 0 zP n
def zR (r:List Int):Bool:=decide (¬ldR r<r.length)
theorem rw_take {rs:List (List Int)} {k:Nat} (hk:k<rs.length):rs.take (k+1)=rs.take k++[rw_ rs k]:=by
 rw [List.take_succ_eq_append_getElem hk]
 simp [rw_,List.getD_eq_getElem?_getD,List.getElem?_eq_getElem hk]
theorem rw_mem {rs:List (List Int)} {k:Nat} (hk:k<rs.length):rw_ rs k∈rs:=mem_rw.2 ⟨k,hk,rfl⟩
theorem by22:Bytes Try.prog 22 24:=by unfold Bytes;kernel_rfl
theorem ze22:Zero Try.prog 22 [.slice none 0 0]:=by unfold Zero;kernel_rfl
theorem fn49:Fn Try.prog 49:=⟨_,Try.func49,by kernel_rfl,rfl⟩
def uniR (n k:Nat):List Int:=(List.replicate n 0).set k 1
@[simp] theorem uniR_len (n k:Nat):(uniR n k).length=n:=by simp [uniR]
def wdK (rs:List (List Int)) (n k:Nat):List (List Int):=(List.range k).map fun i=>rw_ rs i++uniR n i
def wdS (rs:List (List Int)) (n:Nat):List (List Int):=wdK rs n rs.length
def fzS (R:List (List Int)) (W:Nat):List (List Int):=(R.filter fun r=>zR (r.take W)).map fun r=>r.drop W
def kerS (rs:List (List Int)) (W:Nat):List (List Int):=redS (fzS (redS (wdS rs rs.length)) W)
end Go.Proofs.Ythenedanhcnccaa.G
