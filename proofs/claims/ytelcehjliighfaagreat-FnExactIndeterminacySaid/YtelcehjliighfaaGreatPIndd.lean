/- A part of the walk of one law: what the functions compute. No condition. -/
import Derived.Test.YtelcehjliighfaaGreatRows
import Derived.Test.YtelcehjliighfaaGreatProg
import Derived.WalkKit
import Derived.KernelRfl
import Derived.JoinedOf
import Derived.Maps.AppendAt
import Derived.Still
import Derived.ProofKit
import Derived.OpenShut
import Derived.StillTail
import Derived.Deep.Upon
import Derived.WalkSpells
import Derived.Maps.Range
import Derived.DeepKeys4
import Derived.Maps.Keyed
import Derived.ChangeOld
import Derived.Below
import Derived.SizedLaws
import Derived.Test.YtelcehjliighfaaGreatPIndc
set_option linter.unusedVariables false
set_option linter.unusedSimpArgs false
set_option maxRecDepth 10000
set_option maxHeartbeats 8000000
open Nat (reduceEqDiff reduceSub reduceAdd)
namespace Go.Proofs.YtelcehjliighfaaGreat.G
open Go Go.RowKit
theorem pl92:Plain Tryz.prog 92:=⟨_,u92,rfl⟩
theorem fn140:Fn Tryz.prog 140:=⟨_,Tryz.func140,by kernel_rfl,rfl⟩
theorem fn45:Fn Tryz.prog 45:=⟨_,Tryz.func45,by kernel_rfl,rfl⟩
theorem fn83:Fn Tryz.prog 83:=⟨_,Tryz.func83,by kernel_rfl,rfl⟩
def aheadP (p:Pw) (i:Nat):Pw:=(List.range 8).map fun j=>if j<i then p.getD j 0 else 0
def leftP (p:Pw) (i:Nat):Pw:=(aheadP p i).set i (p.getD i 0 - 1)
def behP (p:Pw) (k:Nat):Pw:=(List.range 8).map fun j=>if j<k then 0 else p.getD j 0
@[simp] theorem aheadP_len (p:Pw) (i:Nat):(aheadP p i).length=8:=by simp [aheadP]
@[simp] theorem leftP_len (p:Pw) (i:Nat):(leftP p i).length=8:=by simp [leftP]
@[simp] theorem behP_len (p:Pw) (k:Nat):(behP p k).length=8:=by simp [behP]
theorem aheadP_get {p:Pw} {i j:Nat} (h:j<8):(aheadP p i).getD j 0=if j<i then p.getD j 0 else 0:=by simp [aheadP,List.getD_eq_getElem?_getD,h]
theorem behP_get {p:Pw} {k j:Nat} (h:j<8):(behP p k).getD j 0=if j<k then 0 else p.getD j 0:=by simp [behP,List.getD_eq_getElem?_getD,h]
theorem getD_set8 {p:Pw} {i j:Nat} {x:Int}:(p.set i x).getD j 0=if i=j∧i<p.length then x else p.getD j 0:=by
 rw [List.getD_eq_getElem?_getD,List.getD_eq_getElem?_getD,List.getElem?_set]
 by_cases e:i=j
 ·subst e
  by_cases h:i<p.length
  ·simp [h]
  ·simp [h]
 ·simp [e]
theorem list8 {p q:Pw} (hp:p.length=8) (hq:q.length=8) (h : ∀j,j<8→p.getD j 0=q.getD j 0):p=q:=list_eq_of (by omega) fun j hj=>h j (by omega)
theorem aheadP_zero (p:Pw):aheadP p 0=List.replicate 8 0:=list8 (by simp) (by simp) fun j hj=>by
 rw [aheadP_get hj,if_neg (by omega),List.getD_eq_getElem?_getD,List.getElem?_replicate,if_pos hj]
 rfl
theorem aheadP_set {p:Pw} {i:Nat} (hi:i<8):(aheadP p i).set i (p.getD i 0)=aheadP p (i+1):=list8 (by simp) (by simp) fun j hj=>by
 rw [getD_set8,aheadP_get hj,aheadP_get hj]
 by_cases e:i=j
 ·subst e
  rw [if_pos ⟨rfl,by simpa using hi⟩,if_pos (by omega)]
 ·rw [if_neg fun h=>e h.1]
  by_cases h:j<i
  ·rw [if_pos h,if_pos (by omega)]
  ·rw [if_neg h,if_neg (by omega)]
theorem behP_zero {p:Pw} (hp:p.length=8):behP p 0=p:=list8 (by simp) hp fun j hj=>by rw [behP_get hj,if_neg (by omega)]
theorem behP_set {p:Pw} {k:Nat} (hk:k<8):(behP p k).set k 0=behP p (k+1):=list8 (by simp) (by simp) fun j hj=>by
 rw [getD_set8,behP_get hj,behP_get hj]
 by_cases e:k=j
 ·subst e
  rw [if_pos ⟨rfl,by simpa using hk⟩,if_pos (by omega)]
 ·rw [if_neg fun h=>e h.1]
  by_cases h:j<k
  ·rw [if_pos h,if_pos (by omega)]
  ·rw [if_neg h,if_neg (by omega)]
theorem behP_pok {M:Int} {p:Pw} (h:Pok M p) (k:Nat):Pok M (behP p k):=⟨by simp,fun j=>by
 have:=h.bd j
 rcases Nat.lt_or_ge j 8 with hj | hj
 ·rw [behP_get hj]
  split <;> omega
 ·rw [getD_ge (by simp;omega)]
  omega⟩
theorem leftP_pok {M:Int} {p:Pw} (h:Pok M p) {i:Nat} (hi:0<p.getD i 0):Pok M (leftP p i):=⟨by simp,fun j=>by
 have h1:=h.bd j
 have h2:=h.bd i
 unfold leftP
 rw [getD_set8]
 split
 ·omega
 ·rcases Nat.lt_or_ge j 8 with hj | hj
  ·rw [aheadP_get hj]
   split <;> omega
  ·rw [getD_ge (by simp;omega)]
   omega⟩
def dsg (ds p:Pw):Nat→Int
 | 0=>1
 | i+1=>if i<ds.length∧(ds.getD i 0).tmod 2=1∧(p.getD i 0).tmod 2=1 then 0 - dsg ds p i else dsg ds p i
theorem dsg_bd (ds p:Pw) : ∀i:Nat, -1≤dsg ds p i∧dsg ds p i≤1
 | 0=>by simp [dsg]
 | i+1=>by
  have:=dsg_bd ds p i
  simp only [dsg]
  split <;> omega
theorem dsg_yes {ds p:Pw} {i:Nat} (h1:(i:Int)<ds.length) (h2:(ds.getD i 0).tmod 2=1) (h3:(p.getD i 0).tmod 2=1):0 - dsg ds p i=dsg ds p (i+1):=by simp only [dsg];rw [if_pos ⟨by omega,h2,h3⟩]
theorem dsg_no {ds p:Pw} {i:Nat} (h : ¬((i:Int)<ds.length∧(ds.getD i 0).tmod 2=1∧(p.getD i 0).tmod 2=1)):dsg ds p i=dsg ds p (i+1):=by simp only [dsg];rw [if_neg fun h'=>h ⟨by omega,h'.2⟩]
def dT (ds:Pw) (im:Sm) (p:Pw) (i:Nat):Sm:=timesS ds (timesS ds [(leftP p i,1)] im) [(behP p (i+1),1)]
def dP (ds:Pw) (fs:List (List Term)) (x:Pw × Int) (i:Nat):Sm:=if 0<x.1.getD i 0 then scl (dT ds (toS (fm fs i)) x.1 i) (fld (dsg ds x.1 i * x.2 * x.1.getD i 0)) else []
def dLk (ds:Pw) (fs:List (List Term)) (x:Pw × Int) (k:Nat):Sm:=(List.range k).flatMap (dP ds fs x)
def dAll (ds:Pw) (fs:List (List Term)) (s:Sm):Sm:=s.flatMap fun x=>dLk ds fs x 8
def dS (ds:Pw) (fs:List (List Term)) (s:Sm):Sm:=acc [] (dAll ds fs s)
theorem dLk_succ (ds:Pw) (fs:List (List Term)) (x:Pw × Int) (k:Nat):dLk ds fs x (k+1)=dLk ds fs x k++dP ds fs x k:=by
 unfold dLk;rw [List.range_succ,List.flatMap_append]
 simp
theorem dT_sok {ds:Pw} {im:Sm} {p:Pw} {i:Nat} {M N:Int} (hp:Pok M p) (hi:0<p.getD i 0) (hm:Sok N im):Sok (M+N+M) (dT ds im p i):=
 ((Sok.one (leftP_pok hp hi) (by omega)).times hm).times (Sok.one (behP_pok hp (i+1)) (by omega))
theorem dP_pok {ds:Pw} {fs:List (List Term)} {x:Pw × Int} {i:Nat} {M N:Int} (hp:Pok M x.1) (hf:Fok N fs) (hz:0<x.1.getD i 0→i<fs.length) : ∀z∈dP ds fs x i,Pok (M+N+M) z.1:=fun z hz'=>by
 unfold dP at hz'
 split at hz'
 ·rename_i h
  exact scl_pok (dT_sok hp h (hf i (hz h)).1) _ z hz'
 ·simp at hz'
theorem dLk_pok {ds:Pw} {fs:List (List Term)} {x:Pw × Int} {k:Nat} {M N:Int} (hp:Pok M x.1) (hf:Fok N fs) (hz : ∀i,0<x.1.getD i 0→i<fs.length) : ∀z∈dLk ds fs x k,Pok (M+N+M) z.1:=fun z hz'=>by
 obtain ⟨i,_,h⟩:=List.mem_flatMap.1 hz'
 exact dP_pok hp hf (hz i) z h
def Occ (n:Nat) (s:Sm):Prop:=∀x∈s,∀i,0<x.1.getD i 0→i<n
theorem dAll_pok {ds:Pw} {fs:List (List Term)} {s:Sm} {M N:Int} (hs:Sok M s) (hf:Fok N fs) (ho:Occ fs.length s) : ∀z∈dAll ds fs s,Pok (M+N+M) z.1:=fun z hz=>by
 obtain ⟨x,hx,h⟩:=List.mem_flatMap.1 hz
 exact dLk_pok (hs.key x hx) hf (ho x hx) z h
theorem dS_sok {ds:Pw} {fs:List (List Term)} {s:Sm} {M N:Int} (hs:Sok M s) (hf:Fok N fs) (ho:Occ fs.length s):Sok (M+N+M) (dS ds fs s):=Sok.nil.acc (dAll_pok hs hf ho)
theorem dAll_mid {ds:Pw} {fs:List (List Term)} {l1 l2:Sm} {x:Pw × Int}:(dAll ds fs (l1++x::l2)).Perm (dLk ds fs x 8++dAll ds fs (l1++l2)):=by
 have h:(dAll ds fs (l1++x::l2)).Perm (dAll ds fs (x::(l1++l2))):=(List.perm_middle).flatMap_right _;exact h
theorem acc_dP {ds:Pw} {fs:List (List Term)} {x:Pw × Int} {k:Nat} {dn:Sm} (h:0<x.1.getD k 0):acc (acc [] (dn++dLk ds fs x k)) (scl (dT ds (toS (fm fs k)) x.1 k) (fld (dsg ds x.1 k * x.2 * x.1.getD k 0)))=acc [] (dn++dLk ds fs x (k+1)):=by
 rw [dLk_succ,← List.append_assoc,acc_app _ (dn++dLk ds fs x k)];unfold dP;rw [if_pos h]
theorem acc_dN {ds:Pw} {fs:List (List Term)} {x:Pw × Int} {k:Nat} (h : ¬0<x.1.getD k 0):dLk ds fs x k=dLk ds fs x (k+1):=by
 rw [dLk_succ];unfold dP;rw [if_neg h,List.append_nil]
theorem d_c {B:World} {H0 H:HP} {L:List SA} {w:World} {ba:Nat} {qad qaf:Option Addr} {cad caf:Nat} {ad:List Int} {af:List (List Term)} {vs:Value} {Ms:Int} {s:Sm} {Mi:Int} (pad:CellAt H ba 0 (.slice qad ad.length cad)) (paf:CellAt H ba 1 (.slice qaf af.length caf)) (had:Ints H qad ad) (haf:Forms H qaf af) (hs:SumH H vs s) (ks:Sok Ms s) (hn:ad.length≤8) (hd : ∀j,0≤ad.getD j 0∧ad.getD j 0≤12) (hf:Fok Mi af) (hl:af.length=ad.length) (ho:Occ af.length s) (hM:0≤Mi∧Ms+Mi+Ms≤1000000) (hH:Hp B H0 H L w):Calls Tryz.prog 109 [.pointer (some ⟨ba,0,none⟩),vs].toArray w fun e w'=>∃b,e = .returned (.map (some b))∧Hp B H0 H (osum b (dS ad af s)::L) w':=by
 refine Jx Tryz.func109 rfl 107 rfl rfl [(0,.pointer (some ⟨ba,0,none⟩)),(1,vs)] rfl hH ?_;have hw0:=hH.old;have hw1:=hH.le;clear hH;refine Je fun _ hK1 _=>(Jb (Jg (Jd rfl) rfl (Jf (Ja (hK1 (Je fun _ hK2 _=>(Jb (ER pwE (Value.int .i64) pwOk rfl fun bm17=>(Jg (Jc rfl) rfl (Ju fn140 rfl rfl fun w hH=>(images_c pad paf had haf hf (by omega) hH).mono ?_))))))))));rintro _ w ⟨bs19,rfl,hH⟩;refine ⟨_,rfl,fun a hF=>JH hF hH ?_⟩;refine JP ze186 rfl fun g6=>(Jg (Jd rfl) rfl (JB rfl rfl (imgK_one _ _) (by simpa using sz186) (by simp) .z (Ev (.s .z) fun H6 hle6 hA6=>?_)));replace pad:=pad.le hle6;replace paf:=paf.le hle6;replace had:=had.le hle6;replace haf:=haf.le hle6;replace hs:=hs.le hle6;obtain ⟨bs,ess,cls,rfl,hbs,hes⟩:=hs;have hs:SumH H6 (.map (some bs)) s:=⟨bs,ess,cls,rfl,hbs,hes⟩;refine Jf (Ja (hK2 (Je fun _ hK3 _=>(Je fun _ hK4 _=>(Jb (Jg (Jc rfl) rfl (J.range u92 rfl hbs hes rfl fun r21=>(Jf (Ja (hK4 (Jp (JD (σ:=Option (Pw × Int) × Sm × Sm) (fun ⟨la,ls,dn⟩=>[]) (fun ⟨la,ls,dn⟩=>H6) (fun ⟨la,ls,dn⟩=>itr pwE (Value.int .i64) bs ess cls r21 la ls::obj g6 (.cells (imgK bs19 af.length).toArray 186 (0,0))::osum bm17 (acc [] (dn))::L) (fun ⟨la,ls,dn⟩=>(dn++dAll ad af ls).Perm (dAll ad af s)∧∀x∈ls,x∈s) (fun ⟨la,ls,dn⟩=>ls.length) (none,s, []) ⟨List.Perm.refl _,fun _ h=>h⟩ trivial rfl rfl ?_))))))))))));rintro ⟨la,ls,dn⟩ hI _ hAg0;have k0:Sok (Ms+Mi+Ms) (acc [] dn):=Sok.nil.acc fun x hx=>dAll_pok ks hf ho x (hI.1.mem_iff.1 (by simp [hx]));refine Je fun _ hK5 _=>(Jb (J.next rfl hbs hes (fun _ _=>At.z) rfl (fun hE22=>?_) (fun nx22 la22 lb22 hL22=>?_)))
 ·
  refine Jg (JI rfl rfl) rfl (Jf (Ja (hK5 (Je fun _ hK6 _=>(EE rfl (JG (Jj (Jj (JK (Ja (hK3 (Je fun _ hK7 _=>(Jb (Jg (Jc rfl) rfl (Jg (Jd rfl) rfl (Jf ?_))))))))))))))));refine Ja (hK7 (Jt (Jr rfl (Res.tmp rfl) fun w hH=>?_)));replace hH:=hH.sublist (.cons _ (.cons _ (.cons_cons _ (List.Sublist.refl _))));have hp9:=perm_nil hI.1 (by rw [hE22];rfl);have e9:acc [] dn=dS ad af s:=acc_perm Sok.nil (fun x hx=>dAll_pok ks hf ho x (hp9.mem_iff.1 hx)) hp9;rw [e9] at hH;exact ⟨_,rfl,hH.weaken hle6 hw0 hw1⟩
 ·
  subst hL22;have hu:=hI.2 nx22 (by simp);have hup:=ks.key nx22 hu;have hu8:=hup.len;have hv:=ks.val nx22 hu;have hu0:=hup.bd 0;refine Jg (JI rfl rfl) rfl (Jf (Ja (hK5 (Je fun _ hK8 _=>(Ew rfl (Jn (Ja (hK8 (Jp (Je fun _ hK9 _=>(Jb (Jg (PR.entry rfl hbs hes At.z) rfl (Jg (JI rfl rfl) rfl (Jg (JI rfl rfl) rfl (JP ze148 rfl fun g7=>(JB rfl rfl (by first | exact bytesC_one _ | exact intsC_one _ | exact Term.c_one _ | simp [Value.oneCell']) (by simpa [*] using sz148) (by simp [*]) At.z ?_))))))))))))))));refine Jg (Jd rfl) rfl (Jf (Ja (hK9 (Je fun _ hK10 _=>(Jb (Jg (EB bz148) rfl (JP ze148 rfl fun g9=>(JB rfl rfl (by first | exact bytesC_one _ | exact intsC_one _ | exact Term.c_one _ | simp [Value.oneCell']) (by simpa [*] using sz148) (by simp [*]) At.z (Jg (Jd rfl) rfl (Jf (Ja (hK10 (Je fun _ hK11 _=>(Jb (Jg (Jm rfl (.s .z) (by simpa [*] using ag148)) rfl (Jg (Jc rfl) rfl ?_))))))))))))))));refine Jf (Ja (hK11 (Jp (JD (σ:=Nat) (fun (i:Nat)=>[(29,.int .i64 (i:Int)),(10,.int .i64 (dsg ad nx22.1 i))]) (fun (i:Nat)=>H6) (fun (i:Nat)=>obj g9 (.cells (intsC (aheadP nx22.1 i)).toArray 148 (0,0))::obj g7 (.cells (intsC nx22.1).toArray 148 (0,0))::itr pwE (Value.int .i64) bs ess cls r21 (some nx22) (la22++lb22)::obj g6 (.cells (imgK bs19 af.length).toArray 186 (0,0))::osum bm17 (acc [] (dn++dLk ad af nx22 i))::L) (fun (i:Nat)=>i≤8) (fun (i:Nat)=>8 - i) 0 (by omega) ⟨rfl,⟨rfl,trivial⟩⟩ rfl (by simp only [aheadP_zero,dLk,List.range_zero,List.flatMap_nil,List.append_nil];rfl) ?_))));rintro i hi _ hAg1
  have k1:Sok (Ms+Mi+Ms) (acc [] (dn++dLk ad af nx22 i)):=Sok.nil.acc fun x hx=>by
   rcases List.mem_append.1 hx with h | h
   ·exact dAll_pok ks hf ho x (hI.1.mem_iff.1 (by simp [h]))
   ·exact dLk_pok hup hf (ho nx22 hu) x h
  have sb:=dsg_bd ad nx22.1 i;have eb:=hup.bd i;refine Je fun _ hK12 _=>(Jb (Jg (JJ rfl rfl) rfl (Jf (Ja (hK12 (Je fun _ hK13 _=>(Jq rfl (fun hc30=>?_) (fun hc30=>?_))))))))
  ·
   refine Jn (Ja (hK13 (Je fun _ hK14 _=>(Jp (Je fun _ hK15 _=>(Jb (Jg (Jc rfl) rfl (Jg (PR.index u148 sz3 pl3 rfl rfl rfl (by omega) (intsC_get (by omega))) rfl (Jg (Jd rfl) rfl (Jg (Jd rfl) rfl (Jf (Ja (hK15 (CJ.cutU (σ:=Unit) (fun (_:Unit)=>[(11,.int .i64 (i:Int)),(12,.int .i64 (nx22.1.getD i 0))]) (fun (_:Unit)=>H6) (fun (_:Unit)=>obj g9 (.cells (intsC (aheadP nx22.1 i)).toArray 148 (0,0))::obj g7 (.cells (intsC nx22.1).toArray 148 (0,0))::itr pwE (Value.int .i64) bs ess cls r21 (some nx22) (la22++lb22)::obj g6 (.cells (imgK bs19 af.length).toArray 186 (0,0))::osum bm17 (acc [] (dn++dLk ad af nx22 (i+1)))::L) (fun (_:Unit)=>True) ?_ ?_))))))))))))))
   ·
    intro _ hMt1;refine Je fun _ hK16 _=>(Jb (Jg (Jc rfl) rfl (Jg (EK rfl rfl) rfl (Jf (Ja (hK16 (Jq rfl (fun h34=>?_) (fun h34=>?_))))))))
    ·
     have hil:=ho nx22 hu i h34;have hlp:=leftP_pok hup h34;have hbp:=behP_pok hup (i+1);have hts:=dT_sok (ds:=ad) hup h34 (hf i hil).1;have mb:=mul_sb (b:=nx22.2) (B:=10006) sb (by omega);have mb2:=mul_sb (b:=nx22.1.getD i 0) (B:=1000000) mb (by omega);have fb:=fld_bd (dsg ad nx22.1 i * nx22.2 * nx22.1.getD i 0);refine Je fun _ hK17 _=>(Jb (Jg (Jm rfl (.s .z) (by simpa [*] using ag148)) rfl (JP ze148 rfl fun g13=>(JB rfl rfl (by first | exact bytesC_one _ | exact intsC_one _ | exact Term.c_one _ | simp [Value.oneCell']) (by simpa [*] using sz148) (by simp [*]) At.z (Jf (Ja (hK17 (Je fun _ hK18 _=>(Je fun _ hK19 _=>(Jb (Jg (Jc rfl) rfl (Jg (Jz rfl rfl (by first | exact nw _ (by omega) | rfl)) rfl (Jg (Jc rfl) rfl (Jf (Ja (hK19 ?_))))))))))))))));refine Jp (JD (σ:=Nat) (fun (k:Nat)=>[(38,.int .i64 (k:Int))]) (fun (k:Nat)=>H6) (fun (k:Nat)=>obj g13 (.cells (intsC (behP nx22.1 k)).toArray 148 (0,0))::obj g9 (.cells (intsC (aheadP nx22.1 i)).toArray 148 (0,0))::obj g7 (.cells (intsC nx22.1).toArray 148 (0,0))::itr pwE (Value.int .i64) bs ess cls r21 (some nx22) (la22++lb22)::obj g6 (.cells (imgK bs19 af.length).toArray 186 (0,0))::osum bm17 (acc [] (dn++dLk ad af nx22 i))::L) (fun (k:Nat)=>k≤i+1) (fun (k:Nat)=>i+1 - k) 0 (by omega) ⟨rfl,trivial⟩ rfl (by rw [behP_zero hu8]) ?_);rintro k hI _ hAg2;refine Je fun _ hK20 _=>(Jb (Jg (JJ rfl rfl) rfl (Jf (Ja (hK20 (Je fun _ hK21 _=>(Jq rfl (fun h39=>?_) (fun h39=>?_))))))))
     ·
      refine Jn (Ja (hK21 (Je fun _ hK22 _=>(Jp (Je fun _ hK23 _=>(Jb (Jg (Jc rfl) rfl (Jg (Jd rfl) rfl (Jf (Ja (hK23 (Jb (Jg (Jc rfl) rfl (Jg (JT u148 sz3 rfl rfl rfl (by omega)) rfl (J.storeI rfl rfl sz3 (by simp;omega) At.z (Jf ?_))))))))))))))));refine JF (Ja (hK22 (Jb (Jg (Jz rfl rfl (by first | exact nw _ (by omega) | rfl)) rfl (Jg (Jc rfl) rfl (Jf (Ja ?_)))))));exact hAg2 (k+1) (by omega) (by omega) 8 rfl rfl ⟨rfl,trivial⟩ rfl (by simp only [behP_set (show k<8 by omega)])
     ·
      obtain rfl:k=i+1:=by omega
      refine JG (Jj (Jj (JK (Ja (hK18 (Je fun _ hK24 _=>(Jb (Jg (Jm rfl (.s .z) (by simpa [*] using ag148)) rfl (JP ze148 rfl fun g15=>(JB rfl rfl (by first | exact bytesC_one _ | exact intsC_one _ | exact Term.c_one _ | simp [Value.oneCell']) (by simpa [*] using sz148) (by simp [*]) At.z (Jf (Ja (hK24 (Je fun _ hK25 _=>(Jb (Jg (Jc rfl) rfl ?_))))))))))))))));refine Jg (Jc rfl) rfl (Jg (EH rfl rfl (by first | exact nw _ (by omega) | rfl)) rfl (Jg (JT u148 sz3 rfl rfl rfl (by omega)) rfl (J.storeI rfl rfl sz3 (by simp;omega) At.z (Jf (Ja (hK25 (Je fun _ hK26 _=>(Ea (Rs:=[_,_,_,_,_,_,_]) 22 [[], [], [0,1], [0,1,2], [], [4], [4,5], [4,5,6], [], [8], [8,9], [0,1,2,3,4,5,6,7,8,9,10], [], [12], [12,13], [12,13,14], [], [], [16,17], [16,17,18], [0,1,2,3,4,5,6,7,8,9,10,11,12,13,14,15,16,17,18,19], [0,1,2,3,4,5,6,7,8,9,10,11,12,13,14,15,16,17,18,19,20]] [[], [22], [], [], [], [], [], [], [], [], [27], [2], [], [], [], [], [], [23], [], [], [11,18], []] [[], [], [0], [], [], [], [], [], [], [], [], [], [], [], [], [], [], [], [16], [], [], []] rfl rfl (by kernel_rfl) ?_))))))));apply JR 1 rfl
      ·intros;conv=>lhs;simp only [Jh,reduceEqDiff,reduceAdd]
      ·
       intro gh X K zq zc zq2 zc2 zb zv hK;refine ER pwE (Value.int .i64) pwOk rfl fun bm49=>(Jy ?_);exact hK zq zc zq2 zc2 bm49 zv
      ·intro gh gh' h;refine ⟨?_,?_⟩ <;> rfl
      apply Ji 2 rfl rfl rfl
      ·intros;conv=>lhs;simp only [Jh,reduceEqDiff,reduceAdd]
      ·exact Jm rfl At.z (by simpa using ag148)
      apply EZ 3 rfl
      ·intros;conv=>lhs;simp only [Jh,reduceEqDiff,reduceAdd]
      ·
       intro gh X K hK;refine J.putOne pwK u92 rfl rfl rfl (pwOk_of hlp (by omega)) At.z (Jy ?_);exact hK
      ·intro gh gh' h;first | simp only [h 0 rfl] | rfl
      apply Ef 4 rfl rfl rfl
      ·intros;conv=>lhs;simp only [Jh,reduceEqDiff,reduceAdd]
      ·exact Jc rfl
      ·intro gh gh' h;first | simp only [h 0 rfl] | rfl
      apply Ji 5 rfl rfl rfl
      ·intros;conv=>lhs;simp only [Jh,reduceEqDiff,reduceAdd]
      ·exact Jc rfl
      apply Ji 6 rfl rfl rfl
      ·intros;conv=>lhs;simp only [Jh,reduceEqDiff,reduceAdd]
      ·exact Jv rfl
      apply Ji 7 rfl rfl rfl
      ·intros;conv=>lhs;simp only [Jh,reduceEqDiff,reduceAdd]
      ·exact Jl u36 rfl sz22 rfl
      apply Ji 8 rfl rfl rfl
      ·intros;conv=>lhs;simp only [Jh,reduceEqDiff,reduceAdd]
      ·exact JE (q:=some ⟨ba,0,none⟩) (k:=0) rfl pad pl22
      apply Ji 9 rfl rfl rfl
      ·intros;conv=>lhs;simp only [Jh,reduceEqDiff,reduceAdd]
      ·exact Jc rfl
      apply Ji 10 rfl rfl rfl
      ·intros;conv=>lhs;simp only [Jh,reduceEqDiff,reduceAdd]
      ·exact JT u186 sz92 rfl rfl rfl (by omega)
      apply Ji 11 rfl rfl rfl
      ·intros;conv=>lhs;simp only [Jh,reduceEqDiff,reduceAdd]
      ·exact Js rfl At.z (imgK_get (by omega) hil) pl92
      apply JR 12 rfl
      ·intros;conv=>lhs;simp only [Jh,reduceEqDiff,reduceAdd]
      ·
       intro gh X K zq zc zq2 zc2 zb zv hK;refine Ju fn45 rfl rfl fun w hH=>hH.lend .z fun Hl1 hle1 hA1 hB1 hH=>(times_c (omap_H hA1) (Sok.one hlp (by omega)) (had.le hle1) ((imgs_H hA6 hil).le hle1) (hf i hil).1 hn hd (by omega) hH).mono ?_;rintro _ w ⟨bo59,rfl,hH⟩;replace hH:=hB1 _ _ hH;refine ⟨_,rfl,fun a hF=>JH hF hH ?_⟩;refine Jw .z (Jw (.s .z) (Jy ?_));exact hK zq zc zq2 zc2 bo59 zv
      ·intro gh gh' h;refine ⟨?_,?_⟩ <;> (first | simp only [h 0 rfl] | rfl)
      apply Ji 13 rfl rfl rfl
      ·intros;conv=>lhs;simp only [Jh,reduceEqDiff,reduceAdd]
      ·exact Jc rfl
      apply Ji 14 rfl rfl rfl
      ·intros;conv=>lhs;simp only [Jh,reduceEqDiff,reduceAdd]
      ·exact Jv rfl
      apply Ji 15 rfl rfl rfl
      ·intros;conv=>lhs;simp only [Jh,reduceEqDiff,reduceAdd]
      ·exact Jl u36 rfl sz22 rfl
      apply Ji 16 rfl rfl rfl
      ·intros;conv=>lhs;simp only [Jh,reduceEqDiff,reduceAdd]
      ·exact JE (q:=some ⟨ba,0,none⟩) (k:=0) rfl pad pl22
      apply JR 17 rfl
      ·intros;conv=>lhs;simp only [Jh,reduceEqDiff,reduceAdd]
      ·
       intro gh X K zq zc zq2 zc2 zb zv hK;refine ER pwE (Value.int .i64) pwOk rfl fun bm64=>(Jy ?_);exact hK zq zc zq2 zc2 bm64 zv
      ·intro gh gh' h;refine ⟨?_,?_⟩ <;> rfl
      apply Ji 18 rfl rfl rfl
      ·intros;conv=>lhs;simp only [Jh,reduceEqDiff,reduceAdd]
      ·exact Jm rfl At.z (by simpa using ag148)
      apply EZ 19 rfl
      ·intros;conv=>lhs;simp only [Jh,reduceEqDiff,reduceAdd]
      ·
       intro gh X K hK;refine J.putOne pwK u92 rfl rfl rfl (pwOk_of hbp (by omega)) At.z (Jy ?_);exact hK
      ·intro gh gh' h;first | simp only [h 16 rfl] | rfl
      apply Ef 20 rfl rfl rfl
      ·intros;conv=>lhs;simp only [Jh,reduceEqDiff,reduceAdd]
      ·exact Jc rfl
      ·intro gh gh' h;first | simp only [h 16 rfl] | rfl
      apply JR 21 rfl
      ·intros;conv=>lhs;simp only [Jh,reduceEqDiff,reduceAdd]
      ·
       intro gh X K zq zc zq2 zc2 zb zv hK;refine Ju fn45 rfl rfl fun w hH=>hH.lend .z fun Hl1 hle1 hA1 hB1 hH=>hH.lend .z fun Hl2 hle2 hA2 hB2 hH=>(times_c ((omap_H hA1).le hle2) ((Sok.one hlp (by omega)).times (hf i hil).1) ((had.le hle1).le hle2) (omap_H hA2) (Sok.one hbp (by omega)) hn hd (by omega) hH).mono ?_;rintro _ w ⟨bo67,rfl,hH⟩;replace hH:=hB2 _ _ hH;replace hH:=hB1 _ _ hH;refine ⟨_,rfl,fun a hF=>JH hF hH ?_⟩;refine Jw (.s .z) (Jw (.s .z) (Jw (.s (.s .z)) (Jy ?_)));exact hK zq zc zq2 zc2 bo67 zv
      ·intro gh gh' h;refine ⟨?_,?_⟩ <;> (first | simp only [h 0 rfl,h 11 rfl,h 16 rfl] | rfl)
      apply Ef 22 rfl rfl rfl
      ·intros;conv=>lhs;simp only [Jh,reduceEqDiff,reduceAdd]
      ·exact Jd rfl
      ·intro gh gh' h;first | simp only [h 0 rfl,h 11 rfl,h 16 rfl,h 20 rfl] | rfl
      apply JZ [0,1,2,3,4,5,6,7,8,9,10,11,12,13,14,15,16,17,18,19,20,21] [1,2,3,4,5,6,7,8,9,10,11,12,13,14,15,17,18,19,20,21,22,23,24,25,26,27,28] foll0 rfl rfl rfl (by rfl)
      iterate 2 focus (intros;(conv=>lhs;simp only [JU,Ej,Ka,El,Es,eq_self,reduceEqDiff,reduceIte,reduceSub,reduceAdd,JxA,JxB]);all_goals rfl)
      intro gh;generalize (gh 0).b=bm49;generalize (gh 11).b=bo59;generalize (gh 16).b=bm64;generalize (gh 20).b=bo67;clear gh;refine Ja (hK26 (Jb (Jg (Jc rfl) rfl (Jg (Jc rfl) rfl (Jg (Jc rfl) rfl (Jg (Jc rfl) rfl (Jg (EO rfl rfl (by first | exact nw _ (by omega) | rfl)) rfl (Jg (Jc rfl) rfl (Jg (EO rfl rfl (by first | exact nw _ (by omega) | rfl)) rfl (Ju fn126 rfl rfl fun w hH=>(field_c (by omega) hH).mono ?_))))))))));rintro _ w ⟨rfl,hH⟩;refine ⟨_,rfl,fun a hF=>JH hF hH ?_⟩;refine Ju fn83 rfl rfl fun w hH=>hH.lend (.s (.s (.s .z))) fun Hl1 hle1 hA1 hB1 hH=>(addAll_c k1 (omap_H hA1) (((Sok.one hlp (by omega)).times (hf i hil).1).times (Sok.one hbp (by omega))) (by omega) (by omega) (by omega) (hH.front (.s (.s (.s (.s (.s (.s (.s (.s (.s .z))))))))))).mono ?_;rintro _ w ⟨rfl,hH⟩;replace hH:=hB1 _ _ hH;refine ⟨_,rfl,fun a hF=>JH hF hH ?_⟩;refine Jf (Ja (JN .z (JN (.s .z) (JN (.s .z) (JN (.s .z) (JN (.s .z) (JN (.s .z) (Jw .z (Jw (.s (.s (.s (.s .z)))) (Jw (.s (.s (.s (.s .z)))) (Jw (.s (.s (.s (.s .z)))) (Jw (.s (.s (.s (.s .z)))) ?_))))))))))));exact hMt1 () trivial 44 rfl rfl ⟨rfl,⟨rfl,trivial⟩⟩ rfl (by rw [← acc_dP h34];rfl)
    ·
     refine Jn (Ja ?_);exact hMt1 () trivial 2 rfl rfl ⟨rfl,⟨rfl,trivial⟩⟩ rfl (by simp only [acc_dN (show ¬0<nx22.1.getD i 0 from fun h=>h34 h)])
   ·
    rintro _ _;refine Je fun _ hK27 _=>(Jb (Jg (Jc rfl) rfl (Jg (Jc rfl) rfl (Jg (JT u148 sz3 rfl rfl rfl (by omega)) rfl (J.storeI rfl rfl sz3 (by simp;omega) At.z (Jf (Ja (hK27 (Je fun _ hK28 _=>(Jb (Jg (Jc rfl) rfl (Jg (Jc rfl) rfl (Jg (Jv rfl) rfl (Jg (Jl u36 rfl sz22 rfl) rfl (Jg (JE (q:=some ⟨ba,0,none⟩) (k:=0) rfl pad pl22) rfl ?_)))))))))))))));refine Jg (Jo u22 rfl rfl) rfl (Jg (JJ rfl rfl) rfl (Jg (Jc rfl) rfl (Ek (jd:=87) rfl (fun h87=>?_) (fun h87=>?_))))
    ·
     try have h87p:=of_decide_eq_true h87
     refine JV (Jc rfl) rfl rfl rfl h87 (JV (Jv rfl) rfl rfl rfl h87 (JV (Jl u36 rfl sz22 rfl) rfl rfl rfl h87 (JV (JE (q:=some ⟨ba,0,none⟩) (k:=0) rfl pad pl22) rfl rfl rfl h87 (JV (Jc rfl) rfl rfl rfl h87 (JV (JL u22 sz2 rfl rfl rfl (by omega) had.sm) rfl rfl rfl h87 (JV (JE rfl (had _ (by omega)) pl2) rfl rfl rfl h87 (JV (EF rfl rfl (by decide) rfl) rfl rfl rfl h87 (JV (EL rfl rfl) rfl rfl rfl h87 (Jg (JY rfl h87 rfl) rfl (Jg (Jc rfl) rfl (Ek (jd:=98) rfl (fun h98=>?_) (fun h98=>?_))))))))))))
     ·
      try have h98p:=of_decide_eq_true h98
      refine JV (Jc rfl) rfl rfl rfl h98 (JV (EF rfl rfl (by decide) rfl) rfl rfl rfl h98 (JV (EL rfl rfl) rfl rfl rfl h98 (Jg (JY rfl h98 rfl) rfl (Jf (Ja (hK28 (Jq rfl (fun h102=>?_) (fun h102=>?_))))))))
      ·
       refine Jb (Jg (Jc rfl) rfl (Jg (PR.neg rfl (by first | exact nw _ (by omega) | rfl)) rfl (Jg (Jd rfl) rfl (Jf (JF (Ja (hK14 (Jb (Jg (Jz rfl rfl (by first | exact nw _ (by omega) | rfl)) rfl (Jg (Jc rfl) rfl (Jf (Ja ?_))))))))))));exact hAg1 (i+1) (by omega) (by omega) 40 rfl rfl ⟨rfl,⟨(vi (dsg_yes h87p h98p h102)),trivial⟩⟩ rfl (by simp only [aheadP_set (show i<8 by omega)])
      ·
       refine Jn (JF (Ja (hK14 (Jb (Jg (Jz rfl rfl (by first | exact nw _ (by omega) | rfl)) rfl (Jg (Jc rfl) rfl (Jf (Ja ?_))))))));exact hAg1 (i+1) (by omega) (by omega) 37 rfl rfl ⟨rfl,⟨(vi (dsg_no (fun h=>h102 h.2.2))),trivial⟩⟩ rfl (by simp only [aheadP_set (show i<8 by omega)])
     ·
      try have h98p:=of_decide_eq_false h98
      refine JQ rfl rfl rfl h98 (JQ rfl rfl rfl h98 (JQ rfl rfl rfl h98 (Jg (JX rfl h98 rfl) rfl (Jf (Ja (hK28 (EE rfl (Jn (JF (Ja (hK14 (Jb (Jg (Jz rfl rfl (by first | exact nw _ (by omega) | rfl)) rfl (Jg (Jc rfl) rfl (Jf (Ja ?_))))))))))))))));exact hAg1 (i+1) (by omega) (by omega) 37 rfl rfl ⟨rfl,⟨(vi (dsg_no (fun h=>h98p h.2.1))),trivial⟩⟩ rfl (by simp only [aheadP_set (show i<8 by omega)])
    ·
     try have h87p:=of_decide_eq_false h87
     refine JQ rfl rfl rfl h87 (JQ rfl rfl rfl h87 (JQ rfl rfl rfl h87 (JQ rfl rfl rfl h87 (JQ rfl rfl rfl h87 (JQ rfl rfl rfl h87 (JQ rfl rfl rfl h87 (JQ rfl rfl rfl h87 (JQ rfl rfl rfl h87 (Jg (JX rfl h87 rfl) rfl (Jg (Jc rfl) rfl (JQ rfl rfl rfl rfl (JQ rfl rfl rfl rfl (JQ rfl rfl rfl rfl (Jg (JX rfl rfl rfl) rfl ?_))))))))))))));refine Jf (Ja (hK28 (EE rfl (Jn (JF (Ja (hK14 (Jb (Jg (Jz rfl rfl (by first | exact nw _ (by omega) | rfl)) rfl (Jg (Jc rfl) rfl (Jf (Ja ?_))))))))))));exact hAg1 (i+1) (by omega) (by omega) 37 rfl rfl ⟨rfl,⟨(vi (dsg_no (fun h=>h87p h.1))),trivial⟩⟩ rfl (by simp only [aheadP_set (show i<8 by omega)])
  ·
   refine JG (Jj (Jj (JK (JF (Ja (JN .z (JN .z ?_)))))));exact hAg0 (some nx22,la22++lb22,dn++dLk ad af nx22 8) ⟨by rw [List.append_assoc];exact perm_to hI.1 dAll_mid,fun x hx=>hI.2 x (by simp at hx ⊢;rcases hx with h | h <;> simp [h])⟩ (by simp) 15 rfl rfl trivial rfl (by have h8:i=8:=(by omega);subst h8;rfl)
theorem bz105 : ∀w,(Instr.build 105 #[]).run Tryz.prog w = .ok (.agg [.int .u8 0,.int .u8 0,.int .u8 0,.int .u8 0,.int .u8 0,.int .u8 0,.int .u8 0,.int .u8 0].toArray) w:=fun _=>by kernel_rfl
theorem l01Mod_c {B:World} {H0 H:HP} {L:List SA} {w:World} {x:Int} (hx : -1000000000000≤x∧x≤1000000000000) (hH:Hp B H0 H L w):Calls Tryz.prog 98 [.int .i64 x].toArray w fun e w'=>e = .returned (.int .i64 (fld x))∧Hp B H0 H L w':=by
 refine Jx Tryz.func98 rfl 7 rfl rfl [(0,.int .i64 x)] rfl hH ?_;clear hH;have hb:=tmod_bd x;refine Je fun _ hK1 _=>(Jb (Jg (Jd rfl) rfl (Jf (Ja (hK1 (Je fun _ hK2 _=>(Jb (Jg (Jc rfl) rfl (Jg (EF rfl rfl (by decide) rfl) rfl (Jg (Jz rfl rfl (by first | exact nw _ (by omega) | rfl)) rfl (Jg (EF rfl rfl (by decide) rfl) rfl (Jg (Jd rfl) rfl (Jf (Ja (hK2 (Jt ?_))))))))))))))));refine Jr rfl (Res.tmp rfl) fun w hH=>?_;exact ⟨rfl,hH⟩
theorem u8_id {x:Int} (h:0≤x∧x≤255):IntKind.u8.wrap x=x:=by
 have:=Int.emod_emod_of_dvd x (show (256:Int) ∣ 256 from ⟨1,rfl⟩)
 simp [IntKind.wrap,IntKind.bits,IntKind.signed]
 omega
structure Ex (ds p:Pw):Prop where
 out : ∀i,ds.length≤i→p.getD i 0=0
 odd : ∀i,i<ds.length→(ds.getD i 0).tmod 2≠0→p.getD i 0≤1
def sgK (x:Int):Int:=if x.tmod 2=1 then -1 else 1
theorem sgK_flip {a:Int} (h:0≤a):0 - sgK a=sgK (a+1):=by
 unfold sgK;rw [Int.tmod_eq_emod_of_nonneg h,Int.tmod_eq_emod_of_nonneg (by omega)]
 split <;> split <;> omega
theorem sgK_bd (a:Int) : -1≤sgK a∧sgK a≤1:=by unfold sgK;split <;> omega
def addK (p q:Pw) (k:Nat):Pw:=(List.range 8).map fun i=>if i<k then p.getD i 0+q.getD i 0 else 0
@[simp] theorem addK_len (p q:Pw) (k:Nat):(addK p q k).length=8:=by simp [addK]
theorem addK_get {p q:Pw} {k i:Nat} (h:i<8):(addK p q k).getD i 0=if i<k then p.getD i 0+q.getD i 0 else 0:=by simp [addK,List.getD_eq_getElem?_getD,h]
theorem addK_zero (p q:Pw):addK p q 0=List.replicate 8 0:=list8 (by simp) (by simp) fun j hj=>by
 rw [addK_get hj,if_neg (by omega),List.getD_eq_getElem?_getD,List.getElem?_replicate,if_pos hj]
 rfl
theorem addK_set {p q:Pw} {k:Nat} (hk:k<8):(addK p q k).set k (p.getD k 0+q.getD k 0)=addK p q (k+1):=list8 (by simp) (by simp) fun j hj=>by
 rw [getD_set8,addK_get hj,addK_get hj]
 by_cases e:k=j
 ·subst e
  rw [if_pos ⟨rfl,by simpa using hk⟩,if_pos (by omega)]
 ·rw [if_neg fun h=>e h.1]
  by_cases h:j<k
  ·rw [if_pos h,if_pos (by omega)]
  ·rw [if_neg h,if_neg (by omega)]
theorem addK_end {ds p q:Pw} (hp:p.length=8) (hq:q.length=8) (h1:Ex ds p) (h2:Ex ds q):addK p q ds.length=addp p q:=list8 (by simp) (by simp) fun j hj=>by
 rw [addK_get hj,addp_get hp hq]
 split
 ·rfl
 ·rw [h1.out j (by omega),h2.out j (by omega)]
  rfl
theorem oin_one {ds p:Pw} {i r:Nat} (hd : ∀j,0≤ds.getD j 0∧ds.getD j 0≤12) (h:(ds.getD (i+1+r) 0).tmod 2≠0) (hm:p.getD (i+1+r) 0=1):oin ds p i (r+1)=oin ds p i r+1:=by
 simp only [oin];rw [hm]
 rcases deg2 hd (i+1+r) with h' | h' <;> omega
theorem oin_nil {ds p:Pw} {i r:Nat} (h:(ds.getD (i+1+r) 0).tmod 2=0∨p.getD (i+1+r) 0=0):oin ds p i (r+1)=oin ds p i r:=by
 simp only [oin]
 rcases h with h | h <;> rw [h]
 ·rw [Int.zero_mul];omega
 ·rw [Int.mul_zero];omega
theorem jn_none {ds m k:Pw} {i r:Nat} (h2:k.getD i 0≤1) (h0:0≤k.getD i 0) (hr:r=0∨k.getD i 0=1) (h : ¬k.getD i 0=1):sgK (oddTo ds m k i+oin ds m i r)=sgK (oddTo ds m k (i+1)):=by
 have e:r=0:=hr.resolve_right h;subst e;rw [← odd_skip (fun h'=>by omega)]
 simp [oin]
theorem jn_end {ds m k:Pw} {i r:Nat} (h33 : ¬(ds.getD i 0).tmod 2=0) (h2:k.getD i 0≤1) (h0:0≤k.getD i 0) (hr:r=0∨k.getD i 0=1) (h:r=ds.length - (i+1)):sgK (oddTo ds m k i+oin ds m i r)=sgK (oddTo ds m k (i+1)):=by
 by_cases e:k.getD i 0=1
 ·rw [odd_take ⟨h33,by omega⟩ h]
 ·exact jn_none h2 h0 hr e
theorem hit_no {ds p q:Pw} {k:Nat} (hp:0≤p.getD k 0) (hq:0≤q.getD k 0) (h : ¬p.getD k 0+q.getD k 0>1):hitAt ds p q k=false:=by
 by_cases e:p.getD k 0>0
 ·exact hit_q (by omega)
 ·exact hit_p e
theorem l01Joined_c {B:World} {H0 H:HP} {L:List SA} {w:World} {qds:Option Addr} {cds:Nat} {ds:List Int} {m:List Int} {k:List Int} (hds:Ints H qds ds) (hm:Mono m) (hk:Mono k) (hn:ds.length≤8) (hd : ∀j,0≤ds.getD j 0∧ds.getD j 0≤12) (h1:Ex ds m) (h2:Ex ds k) (hb : ∀i,m.getD i 0+k.getD i 0≤255) (hH:Hp B H0 H L w):Calls Tryz.prog 132 [.slice qds ds.length cds,.agg (bytesC m).toArray,.agg (bytesC k).toArray].toArray w fun e w'=>e = .returned (.tuple #[.agg (bytesC (prodP ds m k)).toArray,.int .i64 (sgn ds m k)])∧Hp B H0 H L w':=by
 refine Jx Tryz.func132 rfl 69 rfl rfl [(0,.slice qds ds.length cds),(1,.agg (bytesC m).toArray),(2,.agg (bytesC k).toArray)] rfl hH ?_;have hml:=hm.len;have hkl:=hk.len;clear hH;refine Je fun _ hK1 _=>(Jb (JW rfl rfl rfl fun g4=>(JW rfl rfl rfl fun g5=>(JP ze105 rfl fun g6=>(Jg (Jd rfl) rfl (Jf (Ja (hK1 (Je fun _ hK2 _=>(Jb (Jg (EB bz105) rfl (JP ze105 rfl fun g8=>(JB rfl rfl (by first | exact bytesC_one _ | exact intsC_one _ | exact Term.c_one _ | simp [Value.oneCell']) (by simpa [*] using sz105) (by simp [*]) At.z (Jg (Jd rfl) rfl (Jf ?_)))))))))))))));refine Ja (hK2 (Je fun _ hK3 _=>(Je fun _ hK4 _=>(Jb (Jg (Jd rfl) rfl (Jf (Ja (hK4 (Jp (JD (σ:=Nat) (fun (i:Nat)=>[(10,.int .i64 (i:Int)),(9,.int .i64 (sgK (oddTo ds m k i)))]) (fun (i:Nat)=>H) (fun (i:Nat)=>obj g8 (.cells (bytesC (addK m k i)).toArray 105 (0,0))::obj g6 (.cells (bytesC (List.replicate 8 0)).toArray 105 (0,0))::obj g5 (.cells (bytesC k).toArray 105 (0,0))::obj g4 (.cells (bytesC m).toArray 105 (0,0))::L) (fun (i:Nat)=>i≤ds.length∧∀j,j<i→hitAt ds m k j=false) (fun (i:Nat)=>ds.length - i) 0 ⟨by omega,fun j hj=>by omega⟩ ⟨rfl,⟨rfl,trivial⟩⟩ rfl (by rw [addK_zero];rfl) ?_))))))))));rintro i ⟨hi,hh⟩ _ hAg0;have mb:=hm.bd i;have kb:=hk.bd i;have sb:=hb i
 have gi:i<ds.length→((addK m k i).set i (m.getD i 0+k.getD i 0)).getD i 0=m.getD i 0+k.getD i 0:=fun h=>by rw [getD_set8,if_pos ⟨rfl,by simp;omega⟩]
 have ob:=oddTo_bd hn hd hm.bd (q:=k) i;refine Je fun _ hK5 _=>(Je fun _ hK6 _=>(Jb (Jg (Jc rfl) rfl (Jg (Jc rfl) rfl (Jg (Jo u22 rfl rfl) rfl (Jg (JJ rfl rfl) rfl (Jf (Ja (hK6 (Jq rfl (fun hc16=>?_) (fun hc16=>?_)))))))))))
 ·
  refine Jn (Ja (hK5 (Je fun _ hK7 _=>(Jp (Je fun _ hK8 _=>(Er [[], [], [1], [2], [], [4], [5], [3,6]] (by kernel_rfl) (JA (fun gh=>Jc rfl) (JA (fun gh=>Jc rfl) (JA (fun gh=>JT u105 sz5 rfl rfl rfl (by omega)) (JA (fun gh=>Js rfl (.s (.s (.s .z))) (by first | exact bytesC_get (by simp [*];omega) | exact intsC_get (by simp [*];omega)) pl5) (JA (fun gh=>Jc rfl) (JA (fun gh=>JT u105 sz5 rfl rfl rfl (by omega)) (JA (fun gh=>Js rfl (.s (.s .z)) (by first | exact bytesC_get (by simp [*];omega) | exact intsC_get (by simp [*];omega)) pl5) (JA (fun gh=>Jz rfl rfl (u8_id (by omega))) (Ec 8 2 foll0 (by kernel_rfl) rfl rfl fun gh=>?_)))))))))))))));refine En (us':=(19,_)::(20,_)::(21,_)::(22,_)::(23,_)::(24,_)::(25,_)::(26,_)::_) (L':=_) rfl rfl (Jg (JT u105 sz5 rfl rfl rfl (by omega)) rfl (J.storeB rfl rfl sz5 (by simp;omega) At.z (Jf (Eb (Ed (Ja (hK8 (Je fun _ hK9 _=>(Je fun _ hK10 _=>(Jb (Jg (Jc rfl) rfl (Jg (Jc rfl) rfl (Jg (JL u22 sz2 rfl rfl rfl (by omega) hds.sm) rfl (Jg (JE rfl (hds _ (by omega)) pl2) rfl (Jg (EF rfl rfl (by decide) rfl) rfl ?_)))))))))))))));refine Jg (EL rfl rfl) rfl (Jf (Ja (hK10 (Jq rfl (fun h33=>?_) (fun h33=>?_)))))
  ·
   refine JG (Jj (JK (Ja (hK7 (Jb (Jg (Jc rfl) rfl (Jg (Jz rfl rfl (by first | exact nw _ (by omega) | rfl)) rfl (Jg (Jd rfl) rfl (Jf (Ja ?_))))))))));exact hAg0 (i+1) ⟨by omega,upto hh (hit_even h33)⟩ (by omega) 24 rfl rfl ⟨rfl,⟨(vi (by rw [odd_skip (fun h=>h.1 h33)])),trivial⟩⟩ rfl (by simp only [addK_set (show i<8 by omega)])
  ·
   refine Jn (Ja (hK9 (Je fun _ hK11 _=>(Je fun _ hK12 _=>(Jb (Jg (Jc rfl) rfl (Jg (JT u105 sz5 rfl rfl rfl (by omega)) rfl (Jg (Js rfl At.z ((bytesC_get (by simp;omega)).trans (congrArg (fun x=>some (Value.int .u8 x)) (gi (by omega)))) pl5) rfl (Jg (EK rfl rfl) rfl (Jf (Ja (hK12 (Jq rfl (fun h37=>?_) (fun h37=>?_))))))))))))))
   ·
    refine Je fun _ hK13 _=>(Jb (Jg (EB bz105) rfl (JB rfl rfl (by first | exact bytesC_one _ | exact intsC_one _ | exact Term.c_one _ | simp [Value.oneCell']) (by simpa [*] using sz105) (by simp [*]) (.s .z) (Jg (Jd rfl) rfl (Jf (Ja (hK13 (Jt (Jk (JO (Jk (Jk (JO (Jk (Eg rfl (Res.agg rfl (.s .z) (by simpa [*] using ag105)) (Res.tmp rfl) fun w hH=>?_)))))))))))))));replace hH:=hH.tail;replace hH:=hH.tail;replace hH:=hH.tail;replace hH:=hH.tail;obtain ⟨e1,e2⟩:=sgn_hit (by omega) (hit_yes (p:=m) (q:=k) (ds:=ds) (k:=i) h33 (by have:=h1.odd i (by omega) h33;have:=h2.odd i (by omega) h33;omega) (by have:=h1.odd i (by omega) h33;have:=h2.odd i (by omega) h33;omega));rw [e1,e2];exact ⟨rfl,hH⟩
   ·
    refine Jn (Ja (hK11 (Je fun _ hK14 _=>(Jb (Jg (Jc rfl) rfl (Jg (Jz rfl rfl (by first | exact nw _ (by omega) | rfl)) rfl (Jg (Jd rfl) rfl (Jf (Ja (hK14 (Jp (JD (σ:=Nat) (fun (r:Nat)=>[(11,.int .i64 ((i+1+r:Nat):Int)),(9,.int .i64 (sgK (oddTo ds m k i+oin ds m i r)))]) (fun (r:Nat)=>H) (fun (r:Nat)=>obj g8 (.cells (bytesC (addK m k (i+1))).toArray 105 (0,0))::obj g6 (.cells (bytesC (List.replicate 8 0)).toArray 105 (0,0))::obj g5 (.cells (bytesC k).toArray 105 (0,0))::obj g4 (.cells (bytesC m).toArray 105 (0,0))::L) (fun (r:Nat)=>i+1+r≤ds.length∧(r=0∨k.getD i 0=1)) (fun (r:Nat)=>ds.length - (i+1+r)) 0 ⟨by omega,.inl rfl⟩ ⟨(vi (by omega)),⟨(vi (by simp [oin])),trivial⟩⟩ rfl (by simp only [addK_set (show i<8 by omega)]) ?_))))))))))));rintro r ⟨hr,hk1⟩ _ hAg1;have m2:=hm.bd (i+1+r);have ib:=oin_bd hd hm.bd i r;have s2:=sgK_bd (oddTo ds m k i+oin ds m i r);have o9:=h1.odd (i+1+r);refine Je fun _ hK15 _=>(Je fun _ hK16 _=>(Jb (Jg (Jc rfl) rfl (Jg (Jc rfl) rfl (Jg (Jo u22 rfl rfl) rfl (Jg (JJ rfl rfl) rfl (Jg (Jc rfl) rfl (Ek (jd:=45) rfl (fun h45=>?_) (fun h45=>?_)))))))))
    ·
     try have h45p:=of_decide_eq_true h45
     refine JV (Jc rfl) rfl rfl rfl h45 (JV (JT u105 sz5 rfl rfl rfl (by omega)) rfl rfl rfl h45 (JV (Js rfl (.s (.s .z)) (by first | exact bytesC_get (by simp [*];omega) | exact intsC_get (by simp [*];omega)) pl5) rfl rfl rfl h45 (JV (EL rfl rfl) rfl rfl rfl h45 (Jg (JY rfl h45 rfl) rfl (Jf (Ja (hK16 (Jq rfl (fun h50=>?_) (fun h50=>?_)))))))))
     ·
      refine Jn (Ja (hK15 (Je fun _ hK17 _=>(Jp (Je fun _ hK18 _=>(Jb (Jg (Jc rfl) rfl (Jg (Jc rfl) rfl (Jg (JL u22 sz2 rfl rfl rfl (by omega) hds.sm) rfl (Jg (JE rfl (hds _ (by omega)) pl2) rfl (Jg (EF rfl rfl (by decide) rfl) rfl (Jg (Eo rfl rfl) rfl (Jg (Jc rfl) rfl (Ek (jd:=59) rfl (fun h59=>?_) (fun h59=>?_)))))))))))))))
      ·
       try have h59p:=of_decide_eq_true h59
       refine JV (Jc rfl) rfl rfl rfl h59 (JV (JT u105 sz5 rfl rfl rfl (by omega)) rfl rfl rfl h59 (JV (Js rfl (.s (.s (.s .z))) (by first | exact bytesC_get (by simp [*];omega) | exact intsC_get (by simp [*];omega)) pl5) rfl rfl rfl h59 (JV (EL rfl rfl) rfl rfl rfl h59 (Jg (JY rfl h59 rfl) rfl (Jf (Ja (hK18 (Jq rfl (fun h64=>?_) (fun h64=>?_)))))))))
       ·
        refine Jb (Jg (Jc rfl) rfl (Jg (PR.neg rfl (by first | exact nw _ (by omega) | rfl)) rfl (Jg (Jd rfl) rfl (Jf (JF (Ja (hK17 (Jb (Jg (Jc rfl) rfl (Jg (Jz rfl rfl (by first | exact nw _ (by omega) | rfl)) rfl (Jg (Jd rfl) rfl (Jf (Ja ?_)))))))))))));exact hAg1 (r+1) ⟨by omega,.inr h50⟩ (by omega) 30 rfl rfl ⟨(vi (by omega)),⟨(vi (by rw [oin_one hd h59p h64,← Int.add_assoc,sgK_flip (by omega)])),trivial⟩⟩ rfl rfl
       ·
        refine Jn (JF (Ja (hK17 (Jb (Jg (Jc rfl) rfl (Jg (Jz rfl rfl (by first | exact nw _ (by omega) | rfl)) rfl (Jg (Jd rfl) rfl (Jf (Ja ?_)))))))));exact hAg1 (r+1) ⟨by omega,.inr h50⟩ (by omega) 27 rfl rfl ⟨(vi (by omega)),⟨(vi (by rw [oin_nil (.inr (by have:=o9 (by omega) h59p;omega))])),trivial⟩⟩ rfl rfl
      ·
       try have h59p:=of_decide_eq_false h59
       refine JQ rfl rfl rfl h59 (JQ rfl rfl rfl h59 (JQ rfl rfl rfl h59 (JQ rfl rfl rfl h59 (Jg (JX rfl h59 rfl) rfl (Jf (Ja (hK18 (EE rfl (Jn (JF (Ja (hK17 (Jb (Jg (Jc rfl) rfl (Jg (Jz rfl rfl (by first | exact nw _ (by omega) | rfl)) rfl (Jg (Jd rfl) rfl ?_))))))))))))))));refine Jf (Ja ?_);exact hAg1 (r+1) ⟨by omega,.inr h50⟩ (by omega) 27 rfl rfl ⟨(vi (by omega)),⟨(vi (by rw [oin_nil (.inl (by omega))])),trivial⟩⟩ rfl rfl
     ·
      refine JG (Jj (Jj (JK (JF (Ja (hK7 (Jb (Jg (Jc rfl) rfl (Jg (Jz rfl rfl (by first | exact nw _ (by omega) | rfl)) rfl (Jg (Jd rfl) rfl (Jf (Ja ?_))))))))))));exact hAg0 (i+1) ⟨by omega,upto hh (hit_no (by omega) (by omega) h37)⟩ (by omega) 43 rfl rfl ⟨rfl,⟨(vi (jn_none (k:=k) (h2.odd i (by omega) h33) (by omega) hk1 h50)),trivial⟩⟩ rfl rfl
    ·
     try have h45p:=of_decide_eq_false h45
     refine JQ rfl rfl rfl h45 (JQ rfl rfl rfl h45 (JQ rfl rfl rfl h45 (JQ rfl rfl rfl h45 (Jg (JX rfl h45 rfl) rfl (Jf (Ja (hK16 (EE rfl (JG (Jj (Jj (JK (JF (Ja (hK7 (Jb ?_))))))))))))))));refine Jg (Jc rfl) rfl (Jg (Jz rfl rfl (by first | exact nw _ (by omega) | rfl)) rfl (Jg (Jd rfl) rfl (Jf (Ja ?_))));exact hAg0 (i+1) ⟨by omega,upto hh (hit_no (by omega) (by omega) h37)⟩ (by omega) 43 rfl rfl ⟨rfl,⟨(vi (jn_end (k:=k) h33 (h2.odd i (by omega) h33) (by omega) hk1 (by omega))),trivial⟩⟩ rfl rfl
 ·
  refine JG (Jj (Jj (JK (Ja (hK3 (Je fun _ hK19 _=>(Jb (Jg (Jm rfl At.z (by simpa [*] using ag105)) rfl (Jg (Jc rfl) rfl (JB rfl rfl (by first | exact bytesC_one _ | exact intsC_one _ | exact Term.c_one _ | simp [Value.oneCell']) (by simpa [*] using sz105) (by simp [*]) (.s .z) (Jg (Jd rfl) rfl (Jf (Ja (hK19 (Jt (Eg rfl (Res.agg rfl (.s .z) (by simpa [*] using ag105)) (Res.tmp rfl) fun w hH=>?_))))))))))))))));replace hH:=hH.tail;replace hH:=hH.tail;replace hH:=hH.tail;replace hH:=hH.tail
  have hi9:i=ds.length:=by omega
  obtain ⟨e1,e2⟩:=sgn_free (ds:=ds) (p:=m) (q:=k) (fun j hj=>hh j (by omega));rw [e1,e2,hi9,addK_end hm.len hk.len h1 h2];exact ⟨rfl,hH⟩
theorem fn132:Fn Tryz.prog 132:=⟨_,Tryz.func132,by kernel_rfl,rfl⟩
theorem fn98:Fn Tryz.prog 98:=⟨_,Tryz.func98,by kernel_rfl,rfl⟩
theorem bt107 : ∀(m:List Int) (f:Int),m.length=8→∀w,(Instr.build 107 #[(0,.agg (bytesC m).toArray),(1,.int .i64 f)]).run Tryz.prog w = .ok (.agg ((⟨m,f⟩:Term).c).toArray) w:=fun m f hm w=>by
 obtain ⟨a0,a1,a2,a3,a4,a5,a6,a7,rfl⟩:=list8_ex hm
 kernel_rfl
def ofS (s:Sm):List Term:=s.map fun x=>⟨x.1,x.2⟩
theorem toS_ofS (s:Sm):toS (ofS s)=s:=by
 unfold toS ofS;rw [List.map_map];exact List.map_id' s
theorem ofS_toS (ts:List Term):ofS (toS ts)=ts:=by
 unfold toS ofS;rw [List.map_map];exact List.map_id' ts
@[simp] theorem ofS_len (s:Sm):(ofS s).length=s.length:=by simp [ofS]
@[simp] theorem toS_len (ts:List Term):(toS ts).length=ts.length:=by simp [toS]
theorem ofS_app (a b:Sm):ofS (a++b)=ofS a++ofS b:=by simp [ofS]
theorem ofS_wf {s:Sm} {M:Int} (hM:M≤255) (h : ∀x∈s,Pok M x.1∧ -9223372036854775808≤x.2∧x.2≤9223372036854775807):Wfs (ofS s):=fun t ht=>by
 obtain ⟨x,hx,rfl⟩:=List.mem_map.1 ht
 obtain ⟨h1,h2⟩:=h x hx
 exact ⟨⟨h1.len,(h1.mono hM).bd⟩,h2⟩
theorem Sok.wf {s:Sm} {M:Int} (h:Sok M s) (hM:M≤255):Wfs (ofS s):=ofS_wf hM fun x hx=>⟨h.key x hx,by have:=h.val x hx;omega⟩
structure Gok (M:Int) (s:Sm):Prop where
 srt:s.Pairwise fun x y=>before x.1 y.1=true
 key : ∀x∈s,Pok M x.1
 val : ∀x∈s,0≤x.2∧x.2≤10006
theorem Sok.g {M:Int} {s:Sm} (h:Sok M s):Gok M s:=⟨h.srt,h.key,fun x hx=>by have:=h.val x hx;omega⟩
theorem Gok.wf {s:Sm} {M:Int} (h:Gok M s) (hM:M≤255):Wfs (ofS s):=ofS_wf hM fun x hx=>⟨h.key x hx,by have:=h.val x hx;omega⟩
theorem Gok.take {M:Int} {ts:List Term} (h:Gok M (toS ts)) (k:Nat):Gok M (toS (ts.take k)):=by
 have e:toS (ts.take k)=(toS ts).take k:=by simp [toS,List.map_take]
 rw [e];exact ⟨h.srt.sublist (List.take_sublist _ _),fun x hx=>h.key x (List.mem_of_mem_take hx),fun x hx=>h.val x (List.mem_of_mem_take hx)⟩
def KEx (ds:Pw) (s:Sm):Prop:=∀x∈s,Ex ds x.1
def raw1 (ds:Pw) (x:Pw × Int) (t:Sm):Sm:=t.flatMap fun y=>if sgn ds x.1 y.1=0 then [] else [(addp x.1 y.1,sgn ds x.1 y.1 * x.2 * y.2)]
def shf (ds:Pw) (x:Pw × Int) (t:Sm):Sm:=(raw1 ds x t).map fun z=>(z.1,fld z.2)
theorem mul1_raw (ds:Pw) (x:Pw × Int) (t:Sm):mul1 ds x t=(raw1 ds x t).map fun z=>(z.1,z.2.tmod 10007):=by
 unfold mul1 raw1;rw [List.map_flatMap]
 congr 1
 funext y
 split <;> rfl
theorem acc_shf (ds:Pw) (x:Pw × Int) (t s:Sm):acc s (scl (shf ds x t) 1)=acc s (mul1 ds x t):=by
 rw [mul1_raw];unfold scl shf;rw [List.map_map]
 exact acc_congr s fun z _=>⟨rfl,fun a=>by
  show fld (a+(fld z.2 * 1).tmod 10007)=fld (a+z.2.tmod 10007)
  rw [fld_tmod,fld_tmod,Int.mul_one,fld_fld]⟩
theorem raw1_mem {ds:Pw} {x:Pw × Int} {t:Sm} {z:Pw × Int} (h:z∈raw1 ds x t) : ∃y∈t,sgn ds x.1 y.1≠0∧z=(addp x.1 y.1,sgn ds x.1 y.1 * x.2 * y.2):=by
 obtain ⟨y,hy,hz⟩:=List.mem_flatMap.1 h
 split at hz
 ·simp at hz
 ·rename_i hs
  simp at hz
  exact ⟨y,hy,hs,hz⟩
theorem raw1_len (ds:Pw) (x:Pw × Int) : ∀t:Sm,(raw1 ds x t).length≤t.length
 | []=>by simp [raw1]
 | y::t=>by
  have h:=raw1_len ds x t
  unfold raw1 at h ⊢
  rw [List.flatMap_cons,List.length_append,List.length_cons]
  split
  ·rw [List.length_nil];omega
  ·rw [List.length_singleton];omega
theorem shf_len (ds:Pw) (x:Pw × Int) (t:Sm):(shf ds x t).length≤t.length:=by unfold shf;rw [List.length_map];exact raw1_len ds x t
theorem before_addp {p q r:Pw} (hp:p.length=8) (hq:q.length=8) (hr:r.length=8) (h:before q r=true):before (addp p q) (addp p r)=true:=by
 obtain ⟨k,a1,a2,a3⟩:=before_iff.1 h;refine before_iff.2 ⟨k,a1,fun j hj=>?_,?_⟩
 ·rw [addp_get hp hq,addp_get hp hr,a2 j hj]
 ·rw [addp_get hp hq,addp_get hp hr]
  omega
theorem raw1_srt {ds:Pw} {x:Pw × Int} (hx:x.1.length=8) : ∀{t:Sm},(t.Pairwise fun x y=>before x.1 y.1=true)→(∀y∈t,y.1.length=8)→(raw1 ds x t).Pairwise fun x y=>before x.1 y.1=true
 | [],_,_=>List.Pairwise.nil
 | y::t,h,hl=>by
  obtain ⟨h1,h2⟩:=List.pairwise_cons.1 h
  have ih:=raw1_srt (ds:=ds) hx h2 fun z hz=>hl z (by simp [hz])
  unfold raw1 at ih ⊢
  rw [List.flatMap_cons]
  split
  ·exact ih
  ·refine List.pairwise_cons.2 ⟨fun z hz=>?_,ih⟩
   obtain ⟨y',hy',_,rfl⟩:=raw1_mem (ds:=ds) (x:=x) (t:=t) hz
   exact before_addp hx (hl y (by simp)) (hl y' (by simp [hy'])) (h1 y' hy')
theorem shf_g {ds:Pw} {x:Pw × Int} {t:Sm} {M N:Int} (hx:Pok M x.1) (ht:Gok N t):Gok (M+N) (shf ds x t):=by
 refine ⟨?_,fun z hz=>?_,fun z hz=>?_⟩
 ·unfold shf;rw [List.pairwise_map];exact raw1_srt hx.len ht.srt fun y hy=>(ht.key y hy).len
 ·obtain ⟨r,hr,rfl⟩:=List.mem_map.1 hz;obtain ⟨y,hy,_,rfl⟩:=raw1_mem hr;exact hx.add (ht.key y hy)
 ·obtain ⟨r,hr,rfl⟩:=List.mem_map.1 hz;exact fld_bd _
theorem Ex.add {ds p q:Pw} {M N:Int} (hp:Pok M p) (hq:Pok N q) (h1:Ex ds p) (h2:Ex ds q) (hs:sgn ds p q≠0):Ex ds (addp p q):=by
 refine ⟨fun i hi=>?_,fun i hi ho=>?_⟩
 ·rw [addp_get hp.len hq.len,h1.out i hi,h2.out i hi]
  rfl
 ·rw [addp_get hp.len hq.len];have a:=h1.odd i hi ho;have b:=h2.odd i hi ho;have c:=hp.bd i;have d:=hq.bd i
  rcases Int.lt_or_le (p.getD i 0+q.getD i 0) 2 with h | h
  ·omega
  ·exact absurd (sgn_hit hi (hit_yes (ds:=ds) (p:=p) (q:=q) (k:=i) ho (by omega) (by omega))).1 hs
theorem mul1_kex {ds:Pw} {x:Pw × Int} {t:Sm} {M N:Int} (hx:Pok M x.1) (ht:Gok N t) (h1:Ex ds x.1) (h2:KEx ds t):KEx ds (mul1 ds x t):=fun z hz=>by
 obtain ⟨y,hy,hs,e⟩:=mul1_mem hz
 rw [e]
 exact h1.add hx (ht.key y hy) (h2 y hy) hs
theorem acc_mem {l:Sm} : ∀{s:Sm} {z:Pw × Int},z∈acc s l→z∈s∨∃x∈l,z.1=x.1:=by
 induction l with
 | nil=>intro s z h;exact .inl h
 | cons x l ih=>
  intro s z h;rw [acc_cons] at h
  rcases ih h with h | ⟨y,hy,e⟩
  ·rcases addS_mem h with h | h
   ·exact .inr ⟨x,by simp,h⟩
   ·exact .inl h
  ·exact .inr ⟨y,by simp [hy],e⟩
theorem acc_kex {ds:Pw} {s l:Sm} (h1:KEx ds s) (h2:KEx ds l):KEx ds (acc s l):=fun z hz=>by
 rcases acc_mem hz with h | ⟨x,hx,e⟩
 ·exact h1 z h
 ·rw [e];exact h2 x hx
theorem shf_take {ds:Pw} {x:Pw × Int} {ts:List Term} {k:Nat} (hk:k<ts.length):shf ds x (toS (ts.take (k+1)))=shf ds x (toS (ts.take k))++(if sgn ds x.1 (tm ts k).mono=0 then [] else [(addp x.1 (tm ts k).mono,fld (sgn ds x.1 (tm ts k).mono * x.2 * (tm ts k).fac))]):=by
 rw [toS_take hk];unfold shf raw1;rw [List.flatMap_append,List.map_append]
 congr 1
 simp only [List.flatMap_cons,List.flatMap_nil,List.append_nil]
 split <;> rfl
theorem prodP_mono {M N:Int} {ds p q:Pw} (hp:Pok M p) (hq:Pok N q) (h:M+N≤255):Mono (prodP ds p q):=by
 have:=(prodP_pok (ds:=ds) hp hq).mono h;exact ⟨this.len,this.bd⟩
theorem shf_no {ds:Pw} {x:Pw × Int} {ts:List Term} {k:Nat} (hk:k<ts.length) (h:sgn ds x.1 (tm ts k).mono=0):shf ds x (toS (ts.take k))=shf ds x (toS (ts.take (k+1))):=by
 rw [shf_take hk,if_pos h,List.append_nil]
theorem shf_yes {ds:Pw} {x:Pw × Int} {ts:List Term} {k:Nat} (hk:k<ts.length) (h:sgn ds x.1 (tm ts k).mono≠0):ofS (shf ds x (toS (ts.take k)))++[⟨prodP ds x.1 (tm ts k).mono,fld (sgn ds x.1 (tm ts k).mono * x.2 * (tm ts k).fac)⟩]=ofS (shf ds x (toS (ts.take (k+1)))):=by
 rw [shf_take hk,if_neg h,ofS_app,prodP_of h]
 rfl
theorem toS_at {ts:List Term} {k:Nat} (hk:k<ts.length):((tm ts k).mono,(tm ts k).fac)∈toS ts:=by
 refine List.mem_map.2 ⟨tm ts k,?_,rfl⟩
 have:tm ts k=ts[k]:=by simp [tm,List.getD_eq_getElem?_getD,List.getElem?_eq_getElem hk]
 rw [this];exact List.getElem_mem hk
theorem l01Shift_c {B:World} {H0 H:HP} {L:List SA} {w:World} {qds:Option Addr} {cds:Nat} {ds:List Int} {t:Term} {qg:Option Addr} {cg:Nat} {g:List Term} {M N:Int} (hds:Ints H qds ds) (ht:t.wf) (hg:Terms H qg g) (hn:ds.length≤8) (hd : ∀j,0≤ds.getD j 0∧ds.getD j 0≤12) (h1:Ex ds t.mono) (h2:KEx ds (toS g)) (hp:Pok M t.mono) (hq:Gok N (toS g)) (hM:M+N≤255) (hf:0≤t.fac∧t.fac≤10006) (hl:g.length≤1000000000000) (hH:Hp B H0 H L w):Calls Tryz.prog 101 [.slice qds ds.length cds,.agg t.c.toArray,.agg [.slice qg g.length cg].toArray].toArray w fun e w'=>∃q c,e = .returned (.agg [.slice q (ofS (shf ds (t.mono,t.fac) (toS g))).length c].toArray)∧Hp B H0 H (own 107 9 q (ofS (shf ds (t.mono,t.fac) (toS g))).length c (tsC (ofS (shf ds (t.mono,t.fac) (toS g))))::L) w':=by
 refine Jx Tryz.func101 rfl 54 rfl rfl [(0,.slice qds ds.length cds),(1,.agg t.c.toArray),(2,.agg [.slice qg g.length cg].toArray)] rfl hH ?_;clear hH;refine Je fun _ hK1 _=>(Jb (JW rfl rfl rfl fun g4=>(JW rfl rfl rfl fun g5=>(JP ze40 rfl fun g6=>(Jf (Ja (hK1 (Je fun _ hK2 _=>(Jb (J.own0 107 9 (Jg (EB bz40) rfl (JP ze40 rfl fun g7=>(JB rfl rfl (by first | exact bytesC_one _ | exact intsC_one _ | exact Term.c_one _ | simp [Value.oneCell']) (by simpa [*] using sz40) (by simp [*]) At.z (Jf (Ja (hK2 ?_))))))))))))))));refine Je fun _ hK3 _=>(Je fun _ hK4 _=>(Jb (Jg (Jd rfl) rfl (Jf (Ja (hK4 (Jp (JD (σ:=Option Addr × Nat × Nat) (fun ⟨q,c,k⟩=>[(8,.int .i64 (k:Int))]) (fun ⟨q,c,k⟩=>H) (fun ⟨q,c,k⟩=>obj g7 (.cells [.slice q (ofS (shf ds (t.mono,t.fac) (toS (g.take k)))).length c].toArray 40 (0,0))::own 107 9 q (ofS (shf ds (t.mono,t.fac) (toS (g.take k)))).length c (tsC (ofS (shf ds (t.mono,t.fac) (toS (g.take k)))))::obj g6 (.cells [.slice none 0 0].toArray 40 (0,0))::obj g5 (.cells [.slice qg g.length cg].toArray 40 (0,0))::obj g4 (.cells t.c.toArray 107 (0,0))::L) (fun ⟨q,c,k⟩=>k≤g.length) (fun ⟨q,c,k⟩=>g.length - k) (none,0,0) (by show 0≤g.length;omega) ⟨rfl,trivial⟩ rfl rfl ?_))))))));rintro ⟨q,c,k⟩ hI _ hAg0;have hk:=hI
 have oL:(ofS (shf ds (t.mono,t.fac) (toS (g.take k)))).length≤g.length:=by rw [ofS_len];exact Nat.le_trans (shf_len _ _ _) (by rw [toS_len];exact Nat.le_trans (List.length_take_le _ _) hk)
 have wfO:Wfs (ofS (shf ds (t.mono,t.fac) (toS (g.take k)))):=((shf_g (ds:=ds) (x:=(t.mono,t.fac)) hp (hq.take k)).wf hM);refine Je fun _ hK5 _=>(Je fun _ hK6 _=>(Jb (Jg (Jc rfl) rfl (Jg (Jl u40 rfl sz38 rfl) rfl (Jg (Js rfl (.s (.s (.s .z))) rfl pl38) rfl (Jg (Jo u38 rfl rfl) rfl (Jg (JJ rfl rfl) rfl (Jf (Ja (hK6 (Jq rfl (fun h16=>?_) (fun h16=>?_))))))))))))
 ·
  have hy:=toS_at (ts:=g) (k:=k) (by omega);have hyp:=hq.key _ hy;have hyv:=hq.val _ hy;have hye:=h2 _ hy;have mP:=prodP_mono (ds:=ds) hp hyp hM;have mPl:=mP.len
  have sbb : ∀i,t.mono.getD i 0+(tm g k).mono.getD i 0≤255:=fun i=>by have a:=(hp.bd i).2;have b:=(hyp.bd i).2;simp only at b;omega
  have sg : -1≤sgn ds t.mono (tm g k).mono∧sgn ds t.mono (tm g k).mono≤1:=by rcases sgn_cases ds t.mono (tm g k).mono with h | h | h <;> omega
  have s1:=mul_sb (b:=t.fac) (B:=10006) sg hf;have s2:=mul_sb (b:=(tm g k).fac) (B:=10006) s1 hyv;have fb:=fld_bd (sgn ds t.mono (tm g k).mono * t.fac * (tm g k).fac);refine Jn (Ja (hK5 (Je fun _ hK7 _=>(Jp (Je fun _ hK8 _=>(Ea (Rs:=[_,_,_,_,_]) 16 [[], [], [1], [], [3], [], [3,4,5], [3,4,5,6], [3,4,5,6,7], [0,1,2,3,4,5,6,7,8], [0,1,2,3,4,5,6,7,8,9], [0,1,2,3,4,5,6,7,8,9,10], [0,1,2,3,4,5,6,7,8,9,10], [], [0,1,2,3,4,5,6,7,8,9,10,11,13], [0,1,2,3,4,5,6,7,8,9,10,11,12,13,14]] [[], [], [20], [], [19], [], [], [], [], [], [], [], [], [], [], []] [[], [], [], [], [], [], [], [], [], [], [], [], [], [], [13], []] rfl rfl (by kernel_rfl) ?_))))));apply Ji 1 rfl rfl rfl
  ·intros;conv=>lhs;simp only [Jh,reduceEqDiff,reduceAdd]
  ·exact Jc rfl
  apply Ji 2 rfl rfl rfl
  ·intros;conv=>lhs;simp only [Jh,reduceEqDiff,reduceAdd]
  ·exact Jl u107 rfl sz105 rfl
  apply Ji 3 rfl rfl rfl
  ·intros;conv=>lhs;simp only [Jh,reduceEqDiff,reduceAdd]
  ·exact EU rfl At.z ht ag105
  apply Ji 4 rfl rfl rfl
  ·intros;conv=>lhs;simp only [Jh,reduceEqDiff,reduceAdd]
  ·exact Jl u40 rfl sz38 rfl
  apply Ji 5 rfl rfl rfl
  ·intros;conv=>lhs;simp only [Jh,reduceEqDiff,reduceAdd]
  ·exact Js rfl At.z rfl pl38
  apply Ji 6 rfl rfl rfl
  ·intros;conv=>lhs;simp only [Jh,reduceEqDiff,reduceAdd]
  ·exact Jc rfl
  apply Ji 7 rfl rfl rfl
  ·intros;conv=>lhs;simp only [Jh,reduceEqDiff,reduceAdd]
  ·exact Ey u38 sz107 rfl rfl rfl (by omega) hg.sm
  apply Ji 8 rfl rfl rfl
  ·intros;conv=>lhs;simp only [Jh,reduceEqDiff,reduceAdd]
  ·exact EM u107 rfl sz105 rfl (hg.sm (i:=k) (by omega))
  apply Ji 9 rfl rfl rfl
  ·intros;conv=>lhs;simp only [Jh,reduceEqDiff,reduceAdd]
  ·exact JM rfl (hg.mono (by omega)) (hg.sm (i:=k) (by omega)) (by rw [bytesC_length,(hg.wf _ (by omega)).mono.len];exact ag105)
  apply Ez 10 rfl
  ·intros;conv=>lhs;simp only [Jh,reduceEqDiff,reduceAdd]
  ·
   intro gh X K zq zc zq2 zc2 zb zv hK;refine Ju fn132 rfl rfl fun w hH=>(l01Joined_c hds ht.mono (hg.wf k (by omega)).mono hn hd h1 hye sbb hH).mono ?_;rintro _ w ⟨rfl,hH⟩;refine ⟨_,rfl,fun a hF=>JH hF hH ?_⟩;refine Jy ?_;exact hK zq zc zq2 zc2 zb zv
  ·intro gh gh' h;rfl
  apply Ji 11 rfl rfl rfl
  ·intros;conv=>lhs;simp only [Jh,reduceEqDiff,reduceAdd]
  ·exact Jc rfl
  apply Ji 12 rfl rfl rfl
  ·intros;conv=>lhs;simp only [Jh,reduceEqDiff,reduceAdd]
  ·exact JI rfl rfl
  apply Ji 13 rfl rfl rfl
  ·intros;conv=>lhs;simp only [Jh,reduceEqDiff,reduceAdd]
  ·exact JI rfl rfl
  apply JR 14 rfl
  ·intros;conv=>lhs;simp only [Jh,reduceEqDiff,reduceAdd]
  ·
   intro gh X K zq zc zq2 zc2 zb zv hK;refine JP ze105 rfl fun g9=>(Jy ?_);exact hK zq zc zq2 zc2 g9 zv
  ·intro gh gh' h;refine ⟨?_,?_⟩ <;> rfl
  apply EZ 15 rfl
  ·intros;conv=>lhs;simp only [Jh,reduceEqDiff,reduceAdd]
  ·
   intro gh X K hK;refine JB rfl rfl (by first | exact bytesC_one _ | exact intsC_one _ | exact Term.c_one _ | simp [Value.oneCell']) (by simpa [*] using sz105) (by simp [*]) At.z (Jy ?_);exact hK
  ·intro gh gh' h;first | simp only [h 13 rfl] | rfl
  apply Ef 16 rfl rfl rfl
  ·intros;conv=>lhs;simp only [Jh,reduceEqDiff,reduceAdd]
  ·exact Jd rfl
  ·intro gh gh' h;first | simp only [h 13 rfl] | rfl
  apply JZ [0,1,2,3,4,5,6,7,8,9,10,11,12,13,14,15] [0,1,2,3,4,5,6,7,8,9,10,11,12,14,15,16,17,18,19,20] foll0 rfl rfl rfl (by rfl)
  iterate 2 focus (intros;(conv=>lhs;simp only [JU,Ej,Ka,El,Es,eq_self,reduceEqDiff,reduceIte,reduceSub,reduceAdd,JxA,JxB]);all_goals rfl)
  intro gh;generalize (gh 13).b=g9;clear gh;refine Ja (hK8 (Je fun _ hK9 _=>(Jb (Jg (Jc rfl) rfl (Jg (Eo rfl rfl) rfl (Jf (Ja (hK9 (Jq rfl (fun h33=>?_) (fun h33=>?_))))))))))
  ·
   refine Er [[], [0], [], [], [], [4], [3,5], [], [7], [], [8,9], [10], [11], [6,12], [13], [2,14], [15]] (by kernel_rfl) (JA (fun gh=>Jl u40 rfl sz38 rfl) (JA (fun gh=>Js rfl (.s .z) rfl pl38) (JA (fun gh=>Jm rfl At.z (by simpa [*] using ag105)) (JA (fun gh=>Jc rfl) (JA (fun gh=>Jl u107 rfl sz2 rfl) (JA (fun gh=>PR.ldFac rfl (.s (.s (.s (.s (.s .z))))) ht pl2) (JA (fun gh=>EO rfl rfl (by first | exact nw _ (by omega) | rfl)) (JA (fun gh=>Jl u40 rfl sz38 rfl) (JA (fun gh=>Js rfl (.s (.s (.s (.s .z)))) rfl pl38) (JA (fun gh=>Jc rfl) (JA (fun gh=>Ey u38 sz107 rfl rfl rfl (by omega) hg.sm) (JA (fun gh=>EM u107 rfl sz2 rfl (hg.sm (i:=k) (by omega))) (JA (fun gh=>JE rfl (hg.fac (by omega)) pl2) (JA (fun gh=>EO rfl rfl (by first | exact nw _ (by omega) | rfl)) ?_))))))))))))));refine HJ.call fn98 (fun gh=>rfl) (fun w X hH=>l01Mod_c (by omega) hH) (JA (fun gh=>PR.build2 rfl rfl (fun w=>bt107 _ _ mP.len w)) (HJ.mk (fun gh=>MK.lit1T u38 ze107 sz107 (Term.wf.of mP (by omega)) rfl) (Ec 17 3 foll0 (by kernel_rfl) rfl rfl fun gh=>(En (us':=(34,_)::(35,_)::(36,_)::(37,_)::(38,_)::(39,_)::(40,_)::(41,_)::(42,_)::(43,_)::(44,_)::(45,_)::(46,_)::(47,_)::(48,_)::(49,_)::(50,_)::_) (L':=_::_) rfl rfl (J.appendOT u38 ze107 sz107 by107 rfl rfl (by simp only [List.length_cons,List.length_nil];omega) .z (.s (.s .z)) (fun _ _=>(.s (.s .z))) rfl fun qo51 co51=>(Jg (Jl u40 rfl sz38 rfl) rfl (Et rfl rfl rfl rfl sz38 (by simp [*]) (.s (.s .z)) (Jf (Eb (Ed (JF (Ja (hK7 (Jb (Jg (Jc rfl) rfl ?_)))))))))))))));refine Jg (Jz rfl rfl (by first | exact nw _ (by omega) | rfl)) rfl (Jg (Jd rfl) rfl (Jf (Ja (JN .z (JN .z ?_)))));exact hAg0 (qo51,co51,k+1) (by show k+1≤g.length;omega) (by show g.length - (k+1)<g.length - k;omega) 45 rfl rfl ⟨rfl,trivial⟩ rfl (by dsimp only;rw [← shf_yes (by omega) h33];rfl)
  ·
   have h33e:=Decidable.not_not.1 h33;refine Jn (JF (Ja (hK7 (Jb (Jg (Jc rfl) rfl (Jg (Jz rfl rfl (by first | exact nw _ (by omega) | rfl)) rfl (Jg (Jd rfl) rfl (Jf (Ja (JN .z ?_))))))))));exact hAg0 (q,c,k+1) (by show k+1≤g.length;omega) (by show g.length - (k+1)<g.length - k;omega) 26 rfl rfl ⟨rfl,trivial⟩ rfl (by dsimp only;rw [shf_no (by omega) h33e])
 ·
  refine JG (Jj (Jj (JK (Ja (hK3 (Je fun _ hK10 _=>(Jb (Jg (Jm rfl At.z (by simpa [*] using ag40)) rfl (JB rfl rfl (by first | exact bytesC_one _ | exact intsC_one _ | exact Term.c_one _ | simp [Value.oneCell']) (by simpa [*] using sz40) (by simp [*]) (.s (.s .z)) (Jf (Ja (hK10 (Jt (Jr rfl (Res.agg rfl (.s (.s .z)) (by simpa [*] using ag40)) fun w hH=>?_))))))))))))));replace hH:=hH.sublist (.cons _ (.cons_cons _ (.cons _ (.cons _ (.cons _ (List.Sublist.refl _))))))
  obtain rfl:k=g.length:=by omega
  rw [List.take_length] at hH ⊢;exact ⟨_,_,rfl,hH⟩
def mrg (k:Int):List Term→List Term→List Term
 | [], []=>[]
 | x::f, []=>x::mrg k f []
 | [],y::g=>if fld (k * y.fac)=0 then mrg k [] g else ⟨y.mono,fld (k * y.fac)⟩::mrg k [] g
 | x::f,y::g=>if before x.mono y.mono then x::mrg k f (y::g)
  else if before y.mono x.mono then (if fld (k * y.fac)=0 then mrg k (x::f) g else ⟨y.mono,fld (k * y.fac)⟩::mrg k (x::f) g)
  else (if fld (x.fac+fld (k * y.fac))=0 then mrg k f g else ⟨x.mono,fld (x.fac+fld (k * y.fac))⟩::mrg k f g)
termination_by f g=>f.length+g.length
theorem mrg_len (k:Int) : ∀(f g:List Term),(mrg k f g).length≤f.length+g.length
 | [], []=>by simp [mrg]
 | x::f, []=>by
  have:=mrg_len k f []
  rw [mrg]
  simp at this ⊢
  omega
 | [],y::g=>by
  have:=mrg_len k [] g
  rw [mrg]
  split <;> simp at this ⊢ <;> omega
 | x::f,y::g=>by
  have h1:=mrg_len k f (y::g)
  have h2:=mrg_len k (x::f) g
  have h3:=mrg_len k f g
  rw [mrg]
  split
  ·simp at h1 ⊢;omega
  ·split
   ·split <;> simp at h2 ⊢ <;> omega
   ·split <;> simp at h3 ⊢ <;> omega
termination_by f g=>f.length+g.length
theorem mrg_mem (k:Int) : ∀(f g:List Term) (z:Term),z∈mrg k f g→∃y,(y∈f∨y∈g)∧z.mono=y.mono
 | [], [],z,h=>by simp [mrg] at h
 | x::f, [],z,h=>by
  rw [mrg] at h
  rcases List.mem_cons.1 h with rfl | h
  ·exact ⟨z,.inl (by simp),rfl⟩
  ·obtain ⟨y,hy,e⟩:=mrg_mem k f [] z h
   exact ⟨y,hy.imp (fun h=>by simp [h]) id,e⟩
 | [],y::g,z,h=>by
  rw [mrg] at h
  have rec_:z∈mrg k [] g→∃y',(y' ∈([]:List Term)∨y' ∈y::g)∧z.mono=y'.mono:=fun h=>by
   obtain ⟨y',hy,e⟩:=mrg_mem k [] g z h
   exact ⟨y',hy.imp id (fun h=>by simp [h]),e⟩
  split at h
  ·exact rec_ h
  ·rcases List.mem_cons.1 h with rfl | h
   ·exact ⟨y,.inr (by simp),rfl⟩
   ·exact rec_ h
 | x::f,y::g,z,h=>by
  rw [mrg] at h
  have r1:z∈mrg k f (y::g)→∃y',(y' ∈x::f∨y' ∈y::g)∧z.mono=y'.mono:=fun h=>by
   obtain ⟨y',hy,e⟩:=mrg_mem k f (y::g) z h
   exact ⟨y',hy.imp (fun h=>by simp [h]) id,e⟩
  have r2:z∈mrg k (x::f) g→∃y',(y' ∈x::f∨y' ∈y::g)∧z.mono=y'.mono:=fun h=>by
   obtain ⟨y',hy,e⟩:=mrg_mem k (x::f) g z h
   exact ⟨y',hy.imp id (fun h=>by simp [h]),e⟩
  have r3:z∈mrg k f g→∃y',(y' ∈x::f∨y' ∈y::g)∧z.mono=y'.mono:=fun h=>by
   obtain ⟨y',hy,e⟩:=mrg_mem k f g z h
   exact ⟨y',hy.imp (fun h=>by simp [h]) (fun h=>by simp [h]),e⟩
  split at h
  ·rcases List.mem_cons.1 h with rfl | h
   ·exact ⟨z,.inl (by simp),rfl⟩
   ·exact r1 h
  ·split at h
   ·split at h
    ·exact r2 h
    ·rcases List.mem_cons.1 h with rfl | h
     ·exact ⟨y,.inr (by simp),rfl⟩
     ·exact r2 h
   ·split at h
    ·exact r3 h
    ·rcases List.mem_cons.1 h with rfl | h
     ·exact ⟨x,.inl (by simp),rfl⟩
     ·exact r3 h
termination_by f g=>f.length+g.length
theorem cf_toS_none {ts:List Term} {p:Pw} (h : ∀t∈ts,t.mono≠p):cf (toS ts) p=0:=cf_none fun x hx=>by
 obtain ⟨t,ht,rfl⟩:=toS_mem hx
 exact h t ht
theorem Gok.tl {M:Int} {x:Term} {ts:List Term} (h:Gok M (toS (x::ts))):Gok M (toS ts):=⟨(List.pairwise_cons.1 h.srt).2,fun y hy=>h.key y (List.mem_cons_of_mem _ hy),fun y hy=>h.val y (List.mem_cons_of_mem _ hy)⟩
theorem Gok.hd {M:Int} {x:Term} {ts:List Term} (h:Gok M (toS (x::ts))) : ∀y∈ts,before x.mono y.mono=true:=fun y hy=>(List.pairwise_cons.1 h.srt).1 (y.mono,y.fac) (List.mem_map.2 ⟨y,hy,rfl⟩)
theorem cf_cons (x:Term) (ts:List Term) (p:Pw):cf (toS (x::ts)) p=if x.mono=p then x.fac else cf (toS ts) p:=rfl
theorem fld0:fld 0=0:=by rw [fld_eq];rfl
theorem fld_id {x:Int} (h:0≤x∧x≤10006):fld x=x:=by rw [fld_eq];omega
theorem cf_mrg (k:Int) (p:Pw) {M N:Int} : ∀(f g:List Term),Gok M (toS f)→Gok N (toS g)→cf (toS (mrg k f g)) p=fld (cf (toS f) p+fld (k * cf (toS g) p))
 | [], [],_,_=>by
  rw [mrg]
  show (0:Int)=fld (0+fld (k * 0))
  rw [Int.mul_zero,fld0]
  exact fld0.symm
 | x::f, [],hf,hg=>by
  rw [mrg,cf_cons,cf_cons,cf_mrg k p f [] hf.tl hg]
  have e0:cf (toS []) p=0:=rfl
  rw [e0,Int.mul_zero,fld0]
  split
  ·rw [Int.add_zero,fld_id (hf.val (x.mono,x.fac) (List.mem_cons_self))]
  ·rfl
 | [],y::g,hf,hg=>by
  have ih:=cf_mrg k p [] g hf hg.tl
  have e0:cf (toS []) p=0:=rfl
  rw [e0,Int.zero_add] at ih ⊢
  have ng:y.mono=p→cf (toS g) p=0:=fun e=>cf_toS_none fun t ht e2=>before_ne (hg.hd t ht) (e.trans e2.symm)
  have ff : ∀a,fld (fld a)=fld a:=fun a=>fld_id (fld_bd a)
  rw [mrg,cf_cons]
  by_cases e:y.mono=p
  ·rw [if_pos e,ff]
   split
   ·rename_i hz
    rw [ih,ng e,Int.mul_zero,fld0,fld0,hz]
   ·rw [cf_cons,if_pos e]
  ·rw [if_neg e]
   split
   ·exact ih
   ·rw [cf_cons,if_neg e,ih]
 | x::f,y::g,hf,hg=>by
  have i1:=cf_mrg k p f (y::g) hf.tl hg
  have i2:=cf_mrg k p (x::f) g hf hg.tl
  have i3:=cf_mrg k p f g hf.tl hg.tl
  have vx:=hf.val (x.mono,x.fac) (List.mem_cons_self)
  have ff : ∀a,fld (fld a)=fld a:=fun a=>fld_id (fld_bd a)
  have nf:x.mono=p→cf (toS f) p=0:=fun e=>cf_toS_none fun t ht e2=>before_ne (hf.hd t ht) (e.trans e2.symm)
  have ng:y.mono=p→cf (toS g) p=0:=fun e=>cf_toS_none fun t ht e2=>before_ne (hg.hd t ht) (e.trans e2.symm)
  rw [mrg]
  split
  ·rename_i hb
   rw [cf_cons,cf_cons,i1]
   by_cases e:x.mono=p
   ·rw [if_pos e,if_pos e]
    have:cf (toS (y::g)) p=0:=cf_toS_none fun t ht e2=>by
     rcases List.mem_cons.1 ht with rfl | ht
     ·exact before_ne hb (e.trans e2.symm)
     ·exact before_ne (before_tr hb (hg.hd t ht)) (e.trans e2.symm)
    rw [this,Int.mul_zero,fld0,Int.add_zero,fld_id vx]
   ·rw [if_neg e,if_neg e]
  ·split
   ·rename_i hb
    have nx:y.mono=p→cf (toS (x::f)) p=0:=fun e=>cf_toS_none fun t ht e2=>by
     rcases List.mem_cons.1 ht with rfl | ht
     ·exact before_ne hb (e.trans e2.symm)
     ·exact before_ne (before_tr hb (hf.hd t ht)) (e.trans e2.symm)
    rw [cf_cons y]
    by_cases e:y.mono=p
    ·rw [if_pos e,nx e,Int.zero_add,ff]
     split
     ·rename_i hz
      rw [i2,nx e,ng e,Int.mul_zero,fld0,Int.zero_add,fld0,hz]
     ·rw [cf_cons,if_pos e]
    ·rw [if_neg e]
     split
     ·exact i2
     ·rw [cf_cons,if_neg e,i2]
   ·rename_i h1 h2
    have exy:x.mono=y.mono:=before_tot (hf.key (x.mono,x.fac) (List.mem_cons_self)).len (hg.key (y.mono,y.fac) (List.mem_cons_self)).len (by simpa using h1) (by simpa using h2)
    rw [cf_cons x,cf_cons y]
    by_cases e:x.mono=p
    ·have e':y.mono=p:=exy.symm.trans e
     rw [if_pos e,if_pos e']
     split
     ·rename_i hz
      rw [i3,nf e,ng e',Int.mul_zero,fld0,Int.zero_add,fld0,hz]
     ·rw [cf_cons,if_pos e]
    ·have e' : ¬y.mono=p:=fun h=>e (exy.trans h)
     rw [if_neg e,if_neg e']
     split
     ·exact i3
     ·rw [cf_cons,if_neg e,i3]
termination_by f g=>f.length+g.length
theorem srt_cons {x:Term} {ts:List Term} (h : ∀y∈ts,before x.mono y.mono=true) (h2:(toS ts).Pairwise fun x y=>before x.1 y.1=true):(toS (x::ts)).Pairwise fun x y=>before x.1 y.1=true:=
 List.pairwise_cons.2 ⟨fun z hz=>by
  obtain ⟨t,ht,rfl⟩:=toS_mem hz
  exact h t ht,h2⟩
theorem mrg_srt (k:Int) {M N:Int} : ∀(f g:List Term),Gok M (toS f)→Gok N (toS g)→(toS (mrg k f g)).Pairwise fun x y=>before x.1 y.1=true
 | [], [],_,_=>by rw [mrg];exact List.Pairwise.nil
 | x::f, [],hf,hg=>by
  rw [mrg]
  refine srt_cons (fun z hz=>?_) (mrg_srt k f [] hf.tl hg)
  obtain ⟨y,hy,e⟩:=mrg_mem k f [] z hz
  rw [e]
  rcases hy with hy | hy
  ·exact hf.hd y hy
  ·simp at hy
 | [],y::g,hf,hg=>by
  have ih:=mrg_srt k [] g hf hg.tl
  rw [mrg]
  split
  ·exact ih
  ·refine srt_cons (fun z hz=>?_) ih
   obtain ⟨w,hw,e⟩:=mrg_mem k [] g z hz
   rw [e]
   rcases hw with hw | hw
   ·simp at hw
   ·exact hg.hd w hw
 | x::f,y::g,hf,hg=>by
  have i1:=mrg_srt k f (y::g) hf.tl hg
  have i2:=mrg_srt k (x::f) g hf hg.tl
  have i3:=mrg_srt k f g hf.tl hg.tl
  rw [mrg]
  split
  ·rename_i hb
   refine srt_cons (fun z hz=>?_) i1
   obtain ⟨w,hw,e⟩:=mrg_mem k f (y::g) z hz
   rw [e]
   rcases hw with hw | hw
   ·exact hf.hd w hw
   ·rcases List.mem_cons.1 hw with rfl | hw
    ·exact hb
    ·exact before_tr hb (hg.hd w hw)
  ·split
   ·rename_i hb
    split
    ·exact i2
    ·refine srt_cons (fun z hz=>?_) i2
     obtain ⟨w,hw,e⟩:=mrg_mem k (x::f) g z hz
     rw [e]
     rcases hw with hw | hw
     ·rcases List.mem_cons.1 hw with rfl | hw
      ·exact hb
      ·exact before_tr hb (hf.hd w hw)
     ·exact hg.hd w hw
   ·rename_i h1 h2
    have exy:x.mono=y.mono:=before_tot (hf.key (x.mono,x.fac) (List.mem_cons_self)).len (hg.key (y.mono,y.fac) (List.mem_cons_self)).len (by simpa using h1) (by simpa using h2)
    split
    ·exact i3
    ·refine srt_cons (fun z hz=>?_) i3
     obtain ⟨w,hw,e⟩:=mrg_mem k f g z hz
     show before x.mono z.mono=true
     rw [e]
     rcases hw with hw | hw
     ·exact hf.hd w hw
     ·rw [exy];exact hg.hd w hw
termination_by f g=>f.length+g.length
theorem mrg_val (k:Int) : ∀(f g:List Term),(∀x∈f,1≤x.fac∧x.fac≤10006)→∀z∈mrg k f g,1≤z.fac∧z.fac≤10006
 | [], [],_,z,hz=>by simp [mrg] at hz
 | x::f, [],h,z,hz=>by
  rw [mrg] at hz
  rcases List.mem_cons.1 hz with rfl | hz
  ·exact h _ (by simp)
  ·exact mrg_val k f [] (fun x hx=>h x (by simp [hx])) z hz
 | [],y::g,h,z,hz=>by
  have ih:=mrg_val k [] g h z
  rw [mrg] at hz
  split at hz
  ·exact ih hz
  ·rename_i hn
   rcases List.mem_cons.1 hz with rfl | hz
   ·have:=fld_bd (k * y.fac);show 1≤fld (k * y.fac)∧fld (k * y.fac)≤10006;omega
   ·exact ih hz
 | x::f,y::g,h,z,hz=>by
  have i1:=mrg_val k f (y::g) (fun x hx=>h x (by simp [hx])) z
  have i2:=mrg_val k (x::f) g h z
  have i3:=mrg_val k f g (fun x hx=>h x (by simp [hx])) z
  rw [mrg] at hz
  split at hz
  ·rcases List.mem_cons.1 hz with rfl | hz
   ·exact h _ (by simp)
   ·exact i1 hz
  ·split at hz
   ·split at hz
    ·exact i2 hz
    ·rename_i hn
     rcases List.mem_cons.1 hz with rfl | hz
     ·have:=fld_bd (k * y.fac);show 1≤fld (k * y.fac)∧fld (k * y.fac)≤10006;omega
     ·exact i2 hz
   ·split at hz
    ·exact i3 hz
    ·rename_i hn
     rcases List.mem_cons.1 hz with rfl | hz
     ·have:=fld_bd (x.fac+fld (k * y.fac));show 1≤fld (x.fac+fld (k * y.fac))∧fld (x.fac+fld (k * y.fac))≤10006;omega
     ·exact i3 hz
termination_by f g=>f.length+g.length
theorem mrg_sok {k M:Int} {f g:List Term} (hf:Sok M (toS f)) (hg:Gok M (toS g)):Sok M (toS (mrg k f g)):=by
 refine ⟨mrg_srt k f g hf.g hg,fun x hx=>?_,fun x hx=>?_⟩
 ·obtain ⟨t,ht,rfl⟩:=toS_mem hx;obtain ⟨y,hy,e⟩:=mrg_mem k f g t ht
  show Pok M t.mono
  rw [e]
  rcases hy with hy | hy
  ·exact hf.key (y.mono,y.fac) (List.mem_map.2 ⟨y,hy,rfl⟩)
  ·exact hg.key (y.mono,y.fac) (List.mem_map.2 ⟨y,hy,rfl⟩)
 ·obtain ⟨t,ht,rfl⟩:=toS_mem hx;exact mrg_val k f g (fun x hx=>hf.val (x.mono,x.fac) (List.mem_map.2 ⟨x,hx,rfl⟩)) t ht
theorem tot_scl (k:Int) (p:Pw) : ∀{t:Sm},(t.map (·.1)).Nodup→tot_ (scl t k) p=(cf t p * k).tmod 10007
 | [],_=>by simp [scl,tot_,cf]
 | x::t,hn=>by
  simp only [List.map_cons,List.nodup_cons] at hn
  have ih:=tot_scl k p hn.2
  unfold scl at ih ⊢
  simp only [List.map_cons,tot_,cf]
  by_cases e:x.1=p
  ·rw [if_pos e,if_pos e,ih,cf_none fun z hz e2=>hn.1 (by rw [e,← e2];exact List.mem_map.2 ⟨z,hz,rfl⟩)]
   simp
  ·rw [if_neg e,if_neg e,ih,Int.zero_add]
theorem Gok.nodup {M:Int} {s:Sm} (h:Gok M s):(s.map (·.1)).Nodup:=by
 rw [List.Nodup,List.pairwise_map];exact h.srt.imp fun h=>before_ne h
theorem Gok.scl {M:Int} {s:Sm} (h:Gok M s) (k:Int) : ∀z∈scl s k,Pok M z.1:=fun z hz=>by
 obtain ⟨y,hy,e⟩:=scl_key hz
 rw [e]
 exact h.key y hy
theorem mrg_acc {k M:Int} {f g:List Term} (hf:Sok M (toS f)) (hg:Gok M (toS g)):mrg k f g=ofS (acc (toS f) (scl (toS g) k)):=by
 have e:toS (mrg k f g)=acc (toS f) (scl (toS g) k):=Sok.ext (mrg_sok hf hg) (hf.acc (hg.scl k)) fun p=>by
  rw [cf_mrg k p f g hf.g hg,cf_acc p hf (hg.scl k),tot_scl k p hg.nodup,fld_tmod,Int.mul_comm];have:=fld_eq (cf (toS f) p+fld (cf (toS g) p * k));rw [fld_eq (cf (toS f) p+fld (cf (toS g) p * k)),fld_eq (cf (toS f) p+cf (toS g) p * k),fld_eq (cf (toS g) p * k)]
  omega
 rw [← e,ofS_toS]
theorem drop_tm {f:List Term} {i:Nat} (hi:i<f.length):f.drop i=tm f i::f.drop (i+1):=by
 rw [List.drop_eq_getElem_cons hi]
 simp [tm,List.getD_eq_getElem?_getD,List.getElem?_eq_getElem hi]
theorem mrgA1 {k:Int} {f g:List Term} {i j:Nat} (hi:i<f.length) (hj:j=g.length):mrg k (f.drop i) (g.drop j)=tm f i::mrg k (f.drop (i+1)) (g.drop j):=by
 rw [drop_tm hi,List.drop_of_length_le (Nat.le_of_eq hj.symm),mrg]
theorem mrgA2 {k:Int} {f g:List Term} {i j:Nat} (hi:i<f.length) (hj:j<g.length) (hb:before (tm f i).mono (tm g j).mono=true):mrg k (f.drop i) (g.drop j)=tm f i::mrg k (f.drop (i+1)) (g.drop j):=by
 rw [drop_tm hi,drop_tm hj,mrg,if_pos hb]
theorem mrgB1 {k:Int} {f g:List Term} {i j:Nat} (hi:i=f.length) (hj:j<g.length):mrg k (f.drop i) (g.drop j)=if fld (k * (tm g j).fac)=0 then mrg k (f.drop i) (g.drop (j+1)) else ⟨(tm g j).mono,fld (k * (tm g j).fac)⟩::mrg k (f.drop i) (g.drop (j+1)):=by
 rw [drop_tm hj,List.drop_of_length_le (Nat.le_of_eq hi.symm),mrg]
theorem mrgB2 {k:Int} {f g:List Term} {i j:Nat} (hi:i<f.length) (hj:j<g.length) (h1 : ¬before (tm f i).mono (tm g j).mono=true) (h2:before (tm g j).mono (tm f i).mono=true):mrg k (f.drop i) (g.drop j)=if fld (k * (tm g j).fac)=0 then mrg k (f.drop i) (g.drop (j+1)) else ⟨(tm g j).mono,fld (k * (tm g j).fac)⟩::mrg k (f.drop i) (g.drop (j+1)):=by
 rw [drop_tm hi,drop_tm hj,mrg,if_neg h1,if_pos h2]
theorem mrgC {k:Int} {f g:List Term} {i j:Nat} (hi:i<f.length) (hj:j<g.length) (h1 : ¬before (tm f i).mono (tm g j).mono=true) (h2 : ¬before (tm g j).mono (tm f i).mono=true):mrg k (f.drop i) (g.drop j)=if fld ((tm f i).fac+fld (k * (tm g j).fac))=0 then mrg k (f.drop (i+1)) (g.drop (j+1)) else ⟨(tm f i).mono,fld ((tm f i).fac+fld (k * (tm g j).fac))⟩::mrg k (f.drop (i+1)) (g.drop (j+1)):=by
 rw [drop_tm hi,drop_tm hj,mrg,if_neg h1,if_neg h2]
theorem mrg_nn (k:Int):mrg k [] []=[]:=by rw [mrg]
def MgAt (k:Int) (f g O:List Term) (i j:Nat):Prop:=O++mrg k (f.drop i) (g.drop j)=mrg k f g
theorem MgAt.app {k:Int} {f g O:List Term} {i j i' j':Nat} (h:MgAt k f g O i j) {t:Term} (e:mrg k (f.drop i) (g.drop j)=t::mrg k (f.drop i') (g.drop j')):MgAt k f g (O++[t]) i' j':=by
 unfold MgAt at h ⊢;rw [e] at h;rw [List.append_assoc];exact h
theorem MgAt.skip {k:Int} {f g O:List Term} {i j i' j':Nat} (h:MgAt k f g O i j) (e:mrg k (f.drop i) (g.drop j)=mrg k (f.drop i') (g.drop j')):MgAt k f g O i' j':=by
 unfold MgAt at h ⊢;rw [e] at h;exact h
theorem MgAt.len {k:Int} {f g O:List Term} {i j:Nat} (h:MgAt k f g O i j):O.length≤f.length+g.length:=by
 have h1:=mrg_len k f g;have h2:=congrArg List.length h;rw [List.length_append] at h2
 omega
theorem mrg_wf {k:Int} {f g:List Term} {M:Int} (hf:Sok M (toS f)) (hg:Gok M (toS g)) (hM:M≤255):Wfs (mrg k f g):=by
 have:=(mrg_sok (k:=k) hf hg).wf hM
 rwa [ofS_toS] at this
theorem MgAt.wf {k:Int} {f g O:List Term} {i j:Nat} (h:MgAt k f g O i j) (hw:Wfs (mrg k f g)):Wfs O:=fun t ht=>hw t (by rw [← h];simp [ht])
theorem l01Add_c {B:World} {H0 H:HP} {L:List SA} {w:World} {qf:Option Addr} {cf:Nat} {f:List Term} {qg:Option Addr} {cg:Nat} {g:List Term} {k:Int} {M:Int} (hf:Terms H qf f) (hg:Terms H qg g) (hsf:Sok M (toS f)) (hsg:Gok M (toS g)) (hM:M≤255) (hk:0≤k∧k≤10006) (hl:f.length+g.length≤1000000000000) (hH:Hp B H0 H L w):Calls Tryz.prog 100 [.agg [.slice qf f.length cf].toArray,.agg [.slice qg g.length cg].toArray,.int .i64 k].toArray w fun e w'=>∃q c,e = .returned (.agg [.slice q (ofS (acc (toS f) (scl (toS g) k))).length c].toArray)∧Hp B H0 H (own 107 9 q (ofS (acc (toS f) (scl (toS g) k))).length c (tsC (ofS (acc (toS f) (scl (toS g) k))))::L) w':=by
 refine Jx Tryz.func100 rfl 149 rfl rfl [(0,.agg [.slice qf f.length cf].toArray),(1,.agg [.slice qg g.length cg].toArray),(2,.int .i64 k)] rfl hH ?_;clear hH;have hmw:=mrg_wf (k:=k) hsf hsg hM;refine Je fun _ hK1 _=>(Jb (JW rfl rfl rfl fun g3=>(JW rfl rfl rfl fun g4=>(JP ze40 rfl fun g6=>(Jf (Ja (hK1 (Je fun _ hK2 _=>(Jb (J.own0 107 9 (Jg (EB bz40) rfl (JP ze40 rfl fun g7=>(JB rfl rfl (by first | exact bytesC_one _ | exact intsC_one _ | exact Term.c_one _ | simp [Value.oneCell']) (by simpa [*] using sz40) (by simp [*]) At.z (Jf (Ja (hK2 ?_))))))))))))))));refine Je fun _ hK3 _=>(Jb (Jg (Jd rfl) rfl (Jg (Jd rfl) rfl (Jf (Ja (hK3 (Je fun _ hK4 _=>(Jp (JD (σ:=Option Addr × Nat × List Term × Nat × Nat) (fun ⟨q,c,O,i,j⟩=>[(8,.int .i64 (i:Int)),(9,.int .i64 (j:Int))]) (fun ⟨q,c,O,i,j⟩=>H) (fun ⟨q,c,O,i,j⟩=>obj g7 (.cells [.slice q (O).length c].toArray 40 (0,0))::own 107 9 q (O).length c (tsC (O))::obj g6 (.cells [.slice none 0 0].toArray 40 (0,0))::obj g4 (.cells [.slice qg g.length cg].toArray 40 (0,0))::obj g3 (.cells [.slice qf f.length cf].toArray 40 (0,0))::L) (fun ⟨q,c,O,i,j⟩=>i≤f.length∧j≤g.length∧MgAt k f g O i j) (fun ⟨q,c,O,i,j⟩=>f.length+g.length - (i+j)) (none,0, [],0,0) ⟨by omega,by omega,rfl⟩ ⟨rfl,⟨rfl,trivial⟩⟩ rfl rfl ?_)))))))));rintro ⟨q,c,O,i,j⟩ ⟨hi,hj,hO⟩ _ hAg0;have hOl:=hO.len;have hOw:Wfs O:=hO.wf hmw;have fb0:=fld_bd (k * (tm g j).fac);have kb0:j<g.length→ -(10006 * 10006)≤k * (tm g j).fac∧k * (tm g j).fac≤10006 * 10006:=fun h=>mul_sb (by omega) (hsg.val _ (toS_at (ts:=g) h));refine CJ.cutU (σ:=Unit) (fun (_:Unit)=>[]) (fun (_:Unit)=>H) (fun (_:Unit)=>obj g7 (.cells [.slice q (O).length c].toArray 40 (0,0))::own 107 9 q (O).length c (tsC (O))::obj g6 (.cells [.slice none 0 0].toArray 40 (0,0))::obj g4 (.cells [.slice qg g.length cg].toArray 40 (0,0))::obj g3 (.cells [.slice qf f.length cf].toArray 40 (0,0))::L) (fun (_:Unit)=>i<f.length∨j<g.length) ?_ ?_
 ·
  intro _ hMt1;refine Je fun _ hK5 _=>(Jb (Jg (Jc rfl) rfl (Jg (Jl u40 rfl sz38 rfl) rfl (Jg (Js rfl (.s (.s (.s (.s .z)))) rfl pl38) rfl (Jg (Jo u38 rfl rfl) rfl (Jg (JJ rfl rfl) rfl (Jg (Jc rfl) rfl (Ek (jd:=18) rfl (fun hg18=>?_) (fun hg18=>?_)))))))))
  ·
   try have hg18p:=of_decide_eq_true hg18
   refine JQ rfl rfl rfl hg18 (JQ rfl rfl rfl hg18 (JQ rfl rfl rfl hg18 (JQ rfl rfl rfl hg18 (JQ rfl rfl rfl hg18 (Jg (JY rfl hg18 rfl) rfl (Jf (Ja (hK5 (Ew rfl (Jn (Ja ?_)))))))))));exact hMt1 () (.inl (by omega)) 12 rfl rfl trivial rfl rfl
  ·
   try have hg18p:=of_decide_eq_false hg18
   refine JV (Jc rfl) rfl rfl rfl hg18 (JV (Jl u40 rfl sz38 rfl) rfl rfl rfl hg18 (JV (Js rfl (.s (.s (.s .z))) rfl pl38) rfl rfl rfl hg18 (JV (Jo u38 rfl rfl) rfl rfl rfl hg18 (JV (JJ rfl rfl) rfl rfl rfl hg18 (Jg (JX rfl hg18 rfl) rfl (Jf (Ja (hK5 (Jq rfl (fun h24=>?_) (fun h24=>?_))))))))))
   ·
    refine Jn (Ja ?_);exact hMt1 () (.inr (by omega)) 12 rfl rfl trivial rfl rfl
   ·
    refine JG (Jj (Jj (JK (Ja (hK4 (Je fun _ hK6 _=>(Jb (Jg (Jm rfl At.z (by simpa [*] using ag40)) rfl (JB rfl rfl (by first | exact bytesC_one _ | exact intsC_one _ | exact Term.c_one _ | simp [Value.oneCell']) (by simpa [*] using sz40) (by simp [*]) (.s (.s .z)) (Jf (Ja (hK6 (Jt (Jr rfl (Res.agg rfl (.s (.s .z)) (by simpa [*] using ag40)) fun w hH=>?_))))))))))))));replace hH:=hH.sublist (.cons _ (.cons_cons _ (.cons _ (.cons _ (.cons _ (List.Sublist.refl _))))))
    obtain rfl:i=f.length:=by omega
    obtain rfl:j=g.length:=by omega
    unfold MgAt at hO;rw [List.drop_length,List.drop_length,mrg_nn,List.append_nil] at hO;have e9:=hO.trans (mrg_acc hsf hsg);subst e9;exact ⟨_,_,rfl,hH⟩
 ·
  rintro _ h0;refine Jp (Jp (CJ.cutU (σ:=Bool) (fun (b1:Bool)=>[(61,.bool b1)]) (fun (b1:Bool)=>H) (fun (b1:Bool)=>obj g7 (.cells [.slice q (O).length c].toArray 40 (0,0))::own 107 9 q (O).length c (tsC (O))::obj g6 (.cells [.slice none 0 0].toArray 40 (0,0))::obj g4 (.cells [.slice qg g.length cg].toArray 40 (0,0))::obj g3 (.cells [.slice qf f.length cf].toArray 40 (0,0))::L) (fun (b1:Bool)=>(b1=true→i<f.length∧mrg k (f.drop i) (g.drop j)=[tm f i]++mrg k (f.drop (i+1)) (g.drop j))∧(b1=false→j<g.length∧(i<f.length→before (tm f i).mono (tm g j).mono=false))) ?_ ?_))
  ·
   intro _ hMt2;refine Er [[], [], [1], [2], [0,3], [4], [5], [5], [7,5], [8,5], [6,9,5], [10,5], [11], [12,11], [11], [13,14,11], [15,11], [16,11], [11], [18,11], [11], [19,20,11], [21,11], [22,11]] (by kernel_rfl) (JA (fun gh=>Jc rfl) (JA (fun gh=>Jl u40 rfl sz38 rfl) (JA (fun gh=>Js rfl (.s (.s (.s .z))) rfl pl38) (JA (fun gh=>Jo u38 rfl rfl) (JA (fun gh=>EL rfl rfl) (JA (fun gh=>Jc rfl) (EV 5 rfl (fun hg67=>?_) (fun hg67=>?_))))))))
   ·
    try have hg67p:=of_decide_eq_true hg67
    refine Ee rfl (fun gh=>rfl) hg67 (Ee rfl (fun gh=>rfl) hg67 (Ee rfl (fun gh=>rfl) hg67 (Ee rfl (fun gh=>rfl) hg67 (Ee rfl (fun gh=>rfl) hg67 (Ee rfl (fun gh=>rfl) hg67 (EQ rfl (fun gh=>rfl) (EQ rfl (fun gh=>rfl) (EQ rfl (fun gh=>rfl) (EQ rfl (fun gh=>rfl) (EQ rfl (fun gh=>rfl) (EQ rfl (fun gh=>rfl) (EQ rfl (fun gh=>rfl) (EQ rfl (fun gh=>rfl) (EQ rfl (fun gh=>rfl) ?_))))))))))))));refine EQ rfl (fun gh=>rfl) (EQ rfl (fun gh=>rfl) (EQ rfl (fun gh=>rfl) (Ec 24 1 foll0 (by kernel_rfl) rfl rfl fun gh=>(En (us':=(62,_)::(63,_)::(64,_)::(65,_)::(66,_)::(67,_)::(68,_)::(69,_)::(70,_)::(71,_)::(72,_)::(73,_)::(74,_)::(75,_)::(76,_)::(77,_)::(78,_)::(79,_)::(80,_)::(81,_)::(82,_)::(83,_)::(84,_)::(85,_)::_) (L':=_) rfl rfl (J.gu rfl rfl rfl (Jf (Eb (JS.gn rfl rfl rfl hg67 (JC (JY rfl hg67 rfl) rfl (JC (Jd rfl) rfl (Ed (Ja ?_))))))))))));exact hMt2 true ⟨fun _=>⟨by omega,mrgA1 (by omega) (by omega)⟩,fun h=>(by cases h)⟩ 28 rfl rfl ⟨rfl,trivial⟩ rfl rfl
   ·
    try have hg67p:=of_decide_eq_false hg67
    refine Eh (fun gh=>Jc rfl) rfl (fun gh=>rfl) hg67 (Eh (fun gh=>Jl u40 rfl sz38 rfl) rfl (fun gh=>rfl) hg67 (Eh (fun gh=>Js rfl (.s (.s (.s (.s .z)))) rfl pl38) rfl (fun gh=>rfl) hg67 (Eh (fun gh=>Jo u38 rfl rfl) rfl (fun gh=>rfl) hg67 (Eh (fun gh=>JJ rfl rfl) rfl (fun gh=>rfl) hg67 (Eh (fun gh=>Jc rfl) rfl (fun gh=>rfl) hg67 (EV 11 rfl (fun hg73=>?_) (fun hg73=>?_)))))))
    ·
     try have hg73p:=of_decide_eq_true hg73
     refine Eh (fun gh=>Jl u40 rfl sz38 rfl) rfl (fun gh=>rfl) hg73 (Eh (fun gh=>Js rfl (.s (.s (.s (.s .z)))) rfl pl38) rfl (fun gh=>rfl) hg73 (Eh (fun gh=>Jc rfl) rfl (fun gh=>rfl) hg73 (Eh (fun gh=>Ey u38 sz107 rfl rfl rfl (by omega) hf.sm) rfl (fun gh=>rfl) hg73 (Eh (fun gh=>EM u107 rfl sz105 rfl (hf.sm (i:=i) (by omega))) rfl (fun gh=>rfl) hg73 (Eh (fun gh=>JM rfl (hf.mono (by omega)) (hf.sm (i:=i) (by omega)) (by rw [bytesC_length,(hf.wf _ (by omega)).mono.len];exact ag105)) rfl (fun gh=>rfl) hg73 (Eh (fun gh=>Jl u40 rfl sz38 rfl) rfl (fun gh=>rfl) hg73 (Eh (fun gh=>Js rfl (.s (.s (.s .z))) rfl pl38) rfl (fun gh=>rfl) hg73 (Eh (fun gh=>Jc rfl) rfl (fun gh=>rfl) hg73 (Eh (fun gh=>Ey u38 sz107 rfl rfl rfl (by omega) hg.sm) rfl (fun gh=>rfl) hg73 (Eh (fun gh=>EM u107 rfl sz105 rfl (hg.sm (i:=j) (by omega))) rfl (fun gh=>rfl) hg73 (Eh (fun gh=>JM rfl (hg.mono (by omega)) (hg.sm (i:=j) (by omega)) (by rw [bytesC_length,(hg.wf _ (by omega)).mono.len];exact ag105)) rfl (fun gh=>rfl) hg73 (Ec 24 1 foll0 (by kernel_rfl) rfl rfl fun gh=>(En (us':=(62,_)::(63,_)::(64,_)::(65,_)::(66,_)::(67,_)::(68,_)::(69,_)::(70,_)::(71,_)::(72,_)::(73,_)::(74,_)::(75,_)::(76,_)::(77,_)::(78,_)::(79,_)::(80,_)::(81,_)::(82,_)::(83,_)::(84,_)::(85,_)::_) (L':=_) rfl rfl (EW fn128 rfl rfl hg73 rfl rfl fun w hH=>(l01Before_c (hf.wf i (by omega)).mono (hg.wf j (by omega)).mono hH).mono ?_))))))))))))));rintro _ w ⟨rfl,hH⟩;refine ⟨_,rfl,fun a hF=>JH hF hH ?_⟩;refine Jf (Eb (JS.gy (JY rfl hg73 rfl) rfl rfl rfl hg67 (JC (JX rfl hg67 rfl) rfl (JC (Jd rfl) rfl (Ed (Ja ?_))))));exact hMt2 (before (tm f i).mono (tm g j).mono) ⟨fun h=>⟨by omega,mrgA2 (by omega) (by omega) h⟩,fun h=>⟨by omega,fun _=>h⟩⟩ 28 rfl rfl ⟨rfl,trivial⟩ rfl rfl
    ·
     try have hg73p:=of_decide_eq_false hg73
     refine Ee rfl (fun gh=>rfl) hg73 (Ee rfl (fun gh=>rfl) hg73 (Ee rfl (fun gh=>rfl) hg73 (Ee rfl (fun gh=>rfl) hg73 (Ee rfl (fun gh=>rfl) hg73 (Ee rfl (fun gh=>rfl) hg73 (Ee rfl (fun gh=>rfl) hg73 (Ee rfl (fun gh=>rfl) hg73 (Ee rfl (fun gh=>rfl) hg73 (Ee rfl (fun gh=>rfl) hg73 (Ee rfl (fun gh=>rfl) hg73 (Ee rfl (fun gh=>rfl) hg73 (Ec 24 1 foll0 (by kernel_rfl) rfl rfl fun gh=>(En (us':=(62,_)::(63,_)::(64,_)::(65,_)::(66,_)::(67,_)::(68,_)::(69,_)::(70,_)::(71,_)::(72,_)::(73,_)::(74,_)::(75,_)::(76,_)::(77,_)::(78,_)::(79,_)::(80,_)::(81,_)::(82,_)::(83,_)::(84,_)::(85,_)::_) (L':=_) rfl rfl (JQ rfl rfl rfl hg73 ?_))))))))))))));refine Jf (Eb (JS.gy (JX rfl hg73 rfl) rfl rfl rfl hg67 (JC (JX rfl hg67 rfl) rfl (JC (Jd rfl) rfl (Ed (Ja ?_))))));exact hMt2 false ⟨fun h=>(by cases h),fun _=>⟨by omega,fun h=>absurd h (by omega)⟩⟩ 28 rfl rfl ⟨rfl,trivial⟩ rfl rfl
  ·
   rintro b1 ⟨h1,h2⟩;refine Ei rfl (fun h61=>?_) (fun h61=>?_)
   ·
    subst h61;have hil:=(h1 rfl).1;refine Je fun _ hK7 _=>(Er [[], [0], [], [2], [], [3,4], [5], [6]] (by kernel_rfl) (JA (fun gh=>Jl u40 rfl sz38 rfl) (JA (fun gh=>Js rfl At.z rfl pl38) (JA (fun gh=>Jl u40 rfl sz38 rfl) (JA (fun gh=>Js rfl (.s (.s (.s (.s .z)))) rfl pl38) (JA (fun gh=>Jc rfl) (JA (fun gh=>Ey u38 sz107 rfl rfl rfl (by omega) hf.sm) (JA (fun gh=>JM rfl (hf.cell _ (by omega)) (hf.sm (i:=i) (by omega)) (by rw [Term.c_length (hf.wf _ (by omega))];exact ag107)) (HJ.mk (fun gh=>MK.lit1T u38 ze107 sz107 (hf.wf i (by omega)) rfl) (Ec 8 3 foll0 (by kernel_rfl) rfl rfl fun gh=>(En (us':=(89,_)::(90,_)::(91,_)::(92,_)::(93,_)::(94,_)::(95,_)::(96,_)::_) (L':=_::_) rfl rfl (J.appendOT u38 ze107 sz107 by107 rfl rfl (by simp only [List.length_cons,List.length_nil];omega) .z (.s .z) (fun _ _=>(.s .z)) rfl fun qo97 co97=>(Jg (Jl u40 rfl sz38 rfl) rfl (Et rfl rfl rfl rfl sz38 (by simp [*]) (.s .z) ?_))))))))))))));refine Jf (Eb (Ed (Ja (hK7 (Jb (Jg (Jc rfl) rfl (Jg (Jz rfl rfl (by first | exact nw _ (by omega) | rfl)) rfl (Jg (Jd rfl) rfl (Jf (JF (JF (Ja (JN .z ?_)))))))))))));exact hAg0 (qo97,co97,O++[tm f i],i+1,j) ⟨by omega,by omega,hO.app (h1 rfl).2⟩ (by show f.length+g.length - _<f.length+g.length - (i+j);omega) 16 rfl rfl ⟨rfl,⟨rfl,trivial⟩⟩ rfl rfl
   ·
    subst h61;obtain ⟨hjl,hbf⟩:=h2 rfl;have hyv:=hsg.val _ (toS_at (ts:=g) hjl);simp only at hyv;have kb:=mul_sb (b:=(tm g j).fac) (B:=10006) (show -10006≤k∧k≤10006 by omega) hyv;have fb:=fld_bd (k * (tm g j).fac);refine CJ.cutU (σ:=Bool) (fun (b2:Bool)=>[(101,.bool b2)]) (fun (b2:Bool)=>H) (fun (b2:Bool)=>obj g7 (.cells [.slice q (O).length c].toArray 40 (0,0))::own 107 9 q (O).length c (tsC (O))::obj g6 (.cells [.slice none 0 0].toArray 40 (0,0))::obj g4 (.cells [.slice qg g.length cg].toArray 40 (0,0))::obj g3 (.cells [.slice qf f.length cf].toArray 40 (0,0))::L) (fun (b2:Bool)=>(b2=true→mrg k (f.drop i) (g.drop j)=if fld (k * (tm g j).fac)=0 then mrg k (f.drop i) (g.drop (j+1)) else [⟨(tm g j).mono,fld (k * (tm g j).fac)⟩]++mrg k (f.drop i) (g.drop (j+1)))∧(b2=false→i<f.length∧mrg k (f.drop i) (g.drop j)=if fld ((tm f i).fac+fld (k * (tm g j).fac))=0 then mrg k (f.drop (i+1)) (g.drop (j+1)) else [⟨(tm f i).mono,fld ((tm f i).fac+fld (k * (tm g j).fac))⟩]++mrg k (f.drop (i+1)) (g.drop (j+1)))) ?_ ?_
    ·
     intro _ hMt3;refine Er [[], [], [1], [2], [0,3], [4], [5], [6,5], [5], [7,8,5], [9,5], [10,5], [5], [12,5], [5], [13,14,5], [15,5], [16,5]] (by kernel_rfl) (JA (fun gh=>Jc rfl) (JA (fun gh=>Jl u40 rfl sz38 rfl) (JA (fun gh=>Js rfl (.s (.s (.s (.s .z)))) rfl pl38) (JA (fun gh=>Jo u38 rfl rfl) (JA (fun gh=>EL rfl rfl) (JA (fun gh=>Jc rfl) (EV 5 rfl (fun hg107=>?_) (fun hg107=>?_))))))))
     ·
      try have hg107p:=of_decide_eq_true hg107
      refine Ee rfl (fun gh=>rfl) hg107 (Ee rfl (fun gh=>rfl) hg107 (Ee rfl (fun gh=>rfl) hg107 (Ee rfl (fun gh=>rfl) hg107 (Ee rfl (fun gh=>rfl) hg107 (Ee rfl (fun gh=>rfl) hg107 (Ee rfl (fun gh=>rfl) hg107 (Ee rfl (fun gh=>rfl) hg107 (Ee rfl (fun gh=>rfl) hg107 (Ee rfl (fun gh=>rfl) hg107 (Ee rfl (fun gh=>rfl) hg107 (Ee rfl (fun gh=>rfl) hg107 (Ec 18 1 foll0 (by kernel_rfl) rfl rfl fun gh=>(En (us':=(102,_)::(103,_)::(104,_)::(105,_)::(106,_)::(107,_)::(108,_)::(109,_)::(110,_)::(111,_)::(112,_)::(113,_)::(114,_)::(115,_)::(116,_)::(117,_)::(118,_)::(119,_)::_) (L':=_) rfl rfl (JQ rfl rfl rfl hg107 ?_))))))))))))));refine Jf (Eb (JC (JY rfl hg107 rfl) rfl (JC (Jd rfl) rfl (Ed (Ja ?_)))));exact hMt3 true ⟨fun _=>mrgB1 (by omega) hjl,fun h=>(by cases h)⟩ 21 rfl rfl ⟨rfl,trivial⟩ rfl rfl
     ·
      try have hg107p:=of_decide_eq_false hg107
      refine Eh (fun gh=>Jl u40 rfl sz38 rfl) rfl (fun gh=>rfl) hg107 (Eh (fun gh=>Js rfl (.s (.s (.s .z))) rfl pl38) rfl (fun gh=>rfl) hg107 (Eh (fun gh=>Jc rfl) rfl (fun gh=>rfl) hg107 (Eh (fun gh=>Ey u38 sz107 rfl rfl rfl (by omega) hg.sm) rfl (fun gh=>rfl) hg107 (Eh (fun gh=>EM u107 rfl sz105 rfl (hg.sm (i:=j) (by omega))) rfl (fun gh=>rfl) hg107 (Eh (fun gh=>JM rfl (hg.mono (by omega)) (hg.sm (i:=j) (by omega)) (by rw [bytesC_length,(hg.wf _ (by omega)).mono.len];exact ag105)) rfl (fun gh=>rfl) hg107 (Eh (fun gh=>Jl u40 rfl sz38 rfl) rfl (fun gh=>rfl) hg107 (Eh (fun gh=>Js rfl (.s (.s (.s (.s .z)))) rfl pl38) rfl (fun gh=>rfl) hg107 (Eh (fun gh=>Jc rfl) rfl (fun gh=>rfl) hg107 (Eh (fun gh=>Ey u38 sz107 rfl rfl rfl (by omega) hf.sm) rfl (fun gh=>rfl) hg107 (Eh (fun gh=>EM u107 rfl sz105 rfl (hf.sm (i:=i) (by omega))) rfl (fun gh=>rfl) hg107 (Eh (fun gh=>JM rfl (hf.mono (by omega)) (hf.sm (i:=i) (by omega)) (by rw [bytesC_length,(hf.wf _ (by omega)).mono.len];exact ag105)) rfl (fun gh=>rfl) hg107 (Ec 18 1 foll0 (by kernel_rfl) rfl rfl fun gh=>(En (us':=(102,_)::(103,_)::(104,_)::(105,_)::(106,_)::(107,_)::(108,_)::(109,_)::(110,_)::(111,_)::(112,_)::(113,_)::(114,_)::(115,_)::(116,_)::(117,_)::(118,_)::(119,_)::_) (L':=_) rfl rfl (EW fn128 rfl rfl hg107 rfl rfl fun w hH=>(l01Before_c (hg.wf j (by omega)).mono (hf.wf i (by omega)).mono hH).mono ?_))))))))))))));rintro _ w ⟨rfl,hH⟩;refine ⟨_,rfl,fun a hF=>JH hF hH ?_⟩;refine Jf (Eb (JC (JX rfl hg107 rfl) rfl (JC (Jd rfl) rfl (Ed (Ja ?_)))));exact hMt3 (before (tm g j).mono (tm f i).mono) ⟨fun h=>mrgB2 (by omega) hjl (by rw [hbf (by omega)];decide) h,fun h=>⟨by omega,mrgC (by omega) hjl (by rw [hbf (by omega)];decide) (by rw [h];decide)⟩⟩ 21 rfl rfl ⟨rfl,trivial⟩ rfl rfl
    ·
     rintro b2 ⟨h3,h4⟩;refine Ei rfl (fun h101=>?_) (fun h101=>?_)
     ·
      subst h101;have hB:=h3 rfl;refine Je fun _ hK8 _=>(Je fun _ hK9 _=>(Jb (Jg (Jc rfl) rfl (Jg (Jl u40 rfl sz38 rfl) rfl (Jg (Js rfl (.s (.s (.s .z))) rfl pl38) rfl (Jg (Jc rfl) rfl (Jg (Ey u38 sz107 rfl rfl rfl (by omega) hg.sm) rfl (Jg (EM u107 rfl sz2 rfl (hg.sm (i:=j) (by omega))) rfl (Jg (JE rfl (hg.fac (by omega)) pl2) rfl (Jg (EO rfl rfl (by first | exact nw _ (by omega) | rfl)) rfl (Ju fn98 rfl rfl fun w hH=>(l01Mod_c (by omega) hH).mono ?_)))))))))));rintro _ w ⟨rfl,hH⟩;refine ⟨_,rfl,fun a hF=>JH hF hH ?_⟩;refine Jg (Jd rfl) rfl (Jf (Ja (hK9 (Je fun _ hK10 _=>(Jb (Jg (Jc rfl) rfl (Jg (Eo rfl rfl) rfl (Jf (Ja (hK10 (Jq rfl (fun h132=>?_) (fun h132=>?_))))))))))))
      ·
       refine Er [[], [0], [], [2], [], [3,4], [5], [6], [], [7,8], [9]] (by kernel_rfl) (JA (fun gh=>Jl u40 rfl sz38 rfl) (JA (fun gh=>Js rfl At.z rfl pl38) (JA (fun gh=>Jl u40 rfl sz38 rfl) (JA (fun gh=>Js rfl (.s (.s (.s .z))) rfl pl38) (JA (fun gh=>Jc rfl) (JA (fun gh=>Ey u38 sz107 rfl rfl rfl (by omega) hg.sm) (JA (fun gh=>EM u107 rfl sz105 rfl (hg.sm (i:=j) (by omega))) (JA (fun gh=>JM rfl (hg.mono (by omega)) (hg.sm (i:=j) (by omega)) (by rw [bytesC_length,(hg.wf _ (by omega)).mono.len];exact ag105)) (JA (fun gh=>Jc rfl) (JA (fun gh=>PR.build2 rfl rfl (fun w=>bt107 _ _ (hg.wf j (by omega)).mono.len w)) (HJ.mk (fun gh=>MK.lit1T u38 ze107 sz107 (Term.wf.of (hg.wf j (by omega)).mono (by omega)) rfl) (Ec 11 3 foll0 (by kernel_rfl) rfl rfl fun gh=>(En (us':=(133,_)::(134,_)::(135,_)::(136,_)::(137,_)::(138,_)::(139,_)::(140,_)::(141,_)::(142,_)::(143,_)::_) (L':=_::_) rfl rfl (J.appendOT u38 ze107 sz107 by107 rfl rfl (by simp only [List.length_cons,List.length_nil];omega) .z (.s .z) (fun _ _=>(.s .z)) rfl fun qo144 co144=>?_))))))))))))));refine Jg (Jl u40 rfl sz38 rfl) rfl (Et rfl rfl rfl rfl sz38 (by simp [*]) (.s .z) (Jf (Eb (Ed (Ja (hK8 (Jb (Jg (Jc rfl) rfl (Jg (Jz rfl rfl (by first | exact nw _ (by omega) | rfl)) rfl (Jg (Jd rfl) rfl (Jf (JF (JF (Ja (JN .z ?_)))))))))))))));exact hAg0 (qo144,co144,O++[⟨(tm g j).mono,fld (k * (tm g j).fac)⟩],i,j+1) ⟨by omega,by omega,hO.app (hB.trans (if_neg h132))⟩ (by show f.length+g.length - _<f.length+g.length - (i+j);omega) 32 rfl rfl ⟨rfl,⟨rfl,trivial⟩⟩ rfl rfl
      ·
       refine Jn (Ja (hK8 (Jb (Jg (Jc rfl) rfl (Jg (Jz rfl rfl (by first | exact nw _ (by omega) | rfl)) rfl (Jg (Jd rfl) rfl (Jf (JF (JF (Ja ?_))))))))));exact hAg0 (q,c,O,i,j+1) ⟨by omega,by omega,hO.skip (hB.trans (if_pos (Decidable.not_not.1 h132)))⟩ (by show f.length+g.length - _<f.length+g.length - (i+j);omega) 19 rfl rfl ⟨rfl,⟨rfl,trivial⟩⟩ rfl rfl
     ·
      subst h101;obtain ⟨hil,hC⟩:=h4 rfl;have hxv:=hsf.val _ (toS_at (ts:=f) hil);simp only at hxv;have fb2:=fld_bd ((tm f i).fac+fld (k * (tm g j).fac));refine Je fun _ hK11 _=>(Je fun _ hK12 _=>(Er [[], [0], [], [1,2], [3], [4], [], [], [7], [], [8,9], [10], [11], [6,12], [13]] (by kernel_rfl) (JA (fun gh=>Jl u40 rfl sz38 rfl) (JA (fun gh=>Js rfl (.s (.s (.s (.s .z)))) rfl pl38) (JA (fun gh=>Jc rfl) (JA (fun gh=>Ey u38 sz107 rfl rfl rfl (by omega) hf.sm) (JA (fun gh=>EM u107 rfl sz2 rfl (hf.sm (i:=i) (by omega))) (JA (fun gh=>JE rfl (hf.fac (by omega)) pl2) (JA (fun gh=>Jc rfl) (JA (fun gh=>Jl u40 rfl sz38 rfl) (JA (fun gh=>Js rfl (.s (.s (.s .z))) rfl pl38) (JA (fun gh=>Jc rfl) (JA (fun gh=>Ey u38 sz107 rfl rfl rfl (by omega) hg.sm) (JA (fun gh=>EM u107 rfl sz2 rfl (hg.sm (i:=j) (by omega))) ?_))))))))))))));refine JA (fun gh=>JE rfl (hg.fac (by omega)) pl2) (JA (fun gh=>EO rfl rfl (by first | exact nw _ (by omega) | rfl)) (HJ.call fn98 (fun gh=>rfl) (fun w X hH=>l01Mod_c (by omega) hH) (Ec 15 2 foll0 (by kernel_rfl) rfl rfl fun gh=>(En (us':=(25,_)::(26,_)::(27,_)::(28,_)::(29,_)::(30,_)::(31,_)::(32,_)::(33,_)::(34,_)::(35,_)::(36,_)::(37,_)::(38,_)::(39,_)::_) (L':=_) rfl rfl (Jg (Jz rfl rfl (by first | exact nw _ (by omega) | rfl)) rfl (Ju fn98 rfl rfl fun w hH=>(l01Mod_c (by omega) hH).mono ?_))))));rintro _ w ⟨rfl,hH⟩;refine ⟨_,rfl,fun a hF=>JH hF hH ?_⟩;refine Jf (Eb (JC (Jd rfl) rfl (Ed (Ja (hK12 (Je fun _ hK13 _=>(Jb (Jg (Jc rfl) rfl (Jg (Eo rfl rfl) rfl (Jf (Ja (hK13 (Jq rfl (fun h43=>?_) (fun h43=>?_))))))))))))))
      ·
       refine Er [[], [0], [], [2], [], [3,4], [5], [6], [], [7,8], [9]] (by kernel_rfl) (JA (fun gh=>Jl u40 rfl sz38 rfl) (JA (fun gh=>Js rfl At.z rfl pl38) (JA (fun gh=>Jl u40 rfl sz38 rfl) (JA (fun gh=>Js rfl (.s (.s (.s (.s .z)))) rfl pl38) (JA (fun gh=>Jc rfl) (JA (fun gh=>Ey u38 sz107 rfl rfl rfl (by omega) hf.sm) (JA (fun gh=>EM u107 rfl sz105 rfl (hf.sm (i:=i) (by omega))) (JA (fun gh=>JM rfl (hf.mono (by omega)) (hf.sm (i:=i) (by omega)) (by rw [bytesC_length,(hf.wf _ (by omega)).mono.len];exact ag105)) (JA (fun gh=>Jc rfl) (JA (fun gh=>PR.build2 rfl rfl (fun w=>bt107 _ _ (hf.wf i (by omega)).mono.len w)) (HJ.mk (fun gh=>MK.lit1T u38 ze107 sz107 (Term.wf.of (hf.wf i (by omega)).mono (by omega)) rfl) (Ec 11 3 foll0 (by kernel_rfl) rfl rfl fun gh=>(En (us':=(44,_)::(45,_)::(46,_)::(47,_)::(48,_)::(49,_)::(50,_)::(51,_)::(52,_)::(53,_)::(54,_)::_) (L':=_::_) rfl rfl (J.appendOT u38 ze107 sz107 by107 rfl rfl (by simp only [List.length_cons,List.length_nil];omega) .z (.s .z) (fun _ _=>(.s .z)) rfl fun qo55 co55=>?_))))))))))))));refine Jg (Jl u40 rfl sz38 rfl) rfl (Et rfl rfl rfl rfl sz38 (by simp [*]) (.s .z) (Jf (Eb (Ed (Ja (hK11 (Je fun _ hK14 _=>(Jb (Jg (Jc rfl) rfl (Jg (Jz rfl rfl (by first | exact nw _ (by omega) | rfl)) rfl (Jg (Jd rfl) rfl (Jf (Ja (hK14 (Jb (Jg (Jc rfl) rfl ?_))))))))))))))));refine Jg (Jz rfl rfl (by first | exact nw _ (by omega) | rfl)) rfl (Jg (Jd rfl) rfl (Jf (JF (JF (Ja (JN .z ?_))))));exact hAg0 (qo55,co55,O++[⟨(tm f i).mono,fld ((tm f i).fac+fld (k * (tm g j).fac))⟩],i+1,j+1) ⟨by omega,by omega,hO.app (hC.trans (if_neg h43))⟩ (by show f.length+g.length - _<f.length+g.length - (i+j);omega) 43 rfl rfl ⟨rfl,⟨rfl,trivial⟩⟩ rfl rfl
      ·
       refine Jn (Ja (hK11 (Je fun _ hK15 _=>(Jb (Jg (Jc rfl) rfl (Jg (Jz rfl rfl (by first | exact nw _ (by omega) | rfl)) rfl (Jg (Jd rfl) rfl (Jf (Ja (hK15 (Jb (Jg (Jc rfl) rfl (Jg (Jz rfl rfl (by first | exact nw _ (by omega) | rfl)) rfl (Jg (Jd rfl) rfl (Jf (JF ?_))))))))))))))));refine JF (Ja ?_);exact hAg0 (q,c,O,i+1,j+1) ⟨by omega,by omega,hO.skip (hC.trans (if_pos (Decidable.not_not.1 h43)))⟩ (by show f.length+g.length - _<f.length+g.length - (i+j);omega) 30 rfl rfl ⟨rfl,⟨rfl,trivial⟩⟩ rfl rfl
theorem fn100:Fn Tryz.prog 100:=⟨_,Tryz.func100,by kernel_rfl,rfl⟩
theorem fn101:Fn Tryz.prog 101:=⟨_,Tryz.func101,by kernel_rfl,rfl⟩
theorem bd40_0 : ∀(q0:Option Addr) (m0 c0:Nat) w,(Instr.build 40 #[(0,.slice q0 m0 c0)]).run Tryz.prog w = .ok (.agg [.slice q0 m0 c0].toArray) w:=fun q0 m0 c0 _=>by kernel_rfl
theorem addS_len (s:Sm) (p:Pw) (k:Int):(addS s p k).length≤s.length+1:=by
 induction s with
 | nil=>simp only [addS];split <;> simp
 | cons x s ih=>
  simp only [addS]
  split
  ·split
   ·simp;omega
   ·simp
  ·split
   ·split <;> simp
   ·simp only [List.length_cons];omega
theorem acc_len (l:Sm) : ∀s:Sm,(acc s l).length≤s.length+l.length:=by
 induction l with
 | nil=>intro s;simp [acc]
 | cons x l ih=>
  intro s;rw [acc_cons];have h1:=ih (addS s x.1 x.2);have h2:=addS_len s x.1 x.2;simp only [List.length_cons]
  omega
theorem mul1_len (ds:Pw) (x:Pw × Int) (t:Sm):(mul1 ds x t).length≤t.length:=by
 rw [mul1_raw,List.length_map];exact raw1_len ds x t
theorem mulL_len (ds:Pw) (t:Sm) : ∀s:Sm,(mulL ds s t).length≤s.length * t.length
 | []=>by simp [mulL]
 | x::s=>by
  have h1:=mulL_len ds t s
  have h2:=mul1_len ds x t
  unfold mulL at h1 ⊢
  rw [List.flatMap_cons,List.length_append,List.length_cons,Nat.succ_mul]
  omega
theorem gmulL {ds:Pw} {s t:Sm} {M N:Int} (hs:Gok M s) (ht:Gok N t) : ∀z∈mulL ds s t,Pok (M+N) z.1:=fun z hz=>by
 obtain ⟨x,hx,y,hy,_,e⟩:=mulL_mem hz
 rw [e]
 exact (hs.key x hx).add (ht.key y hy)
theorem mulL_one (ds:Pw) {ts:List Term} {k:Nat} (hk:k<ts.length) (t:Sm):mulL ds (toS (ts.take (k+1))) t=mulL ds (toS (ts.take k)) t++mul1 ds ((tm ts k).mono,(tm ts k).fac) t:=by
 rw [toS_take hk];unfold mulL;rw [List.flatMap_append]
 simp
theorem acc_mulL {ds:Pw} {ts:List Term} {k:Nat} (hk:k<ts.length) (t:Sm):acc (acc [] (mulL ds (toS (ts.take k)) t)) (scl (shf ds ((tm ts k).mono,(tm ts k).fac) t) 1)=acc [] (mulL ds (toS (ts.take (k+1))) t):=by
 rw [acc_shf,mulL_one ds hk,acc_app]
theorem mulL_kex {ds:Pw} {s t:Sm} {M N:Int} (hs:Gok M s) (ht:Gok N t) (h1:KEx ds s) (h2:KEx ds t):KEx ds (mulL ds s t):=fun z hz=>by
 obtain ⟨x,hx,h⟩:=List.mem_flatMap.1 hz
 exact mul1_kex (hs.key x hx) ht (h1 x hx) h2 z h
theorem KEx.nil {ds:Pw}:KEx ds []:=fun x hx=>by simp at hx
theorem times_kex {ds:Pw} {s t:Sm} {M N:Int} (hs:Gok M s) (ht:Gok N t) (h1:KEx ds s) (h2:KEx ds t):KEx ds (timesS ds s t):=acc_kex KEx.nil (mulL_kex hs ht h1 h2)
theorem gtimes {ds:Pw} {s t:Sm} {M N:Int} (hs:Gok M s) (ht:Gok N t):Sok (M+N) (timesS ds s t):=Sok.nil.acc (gmulL hs ht)
theorem times_lens {ds:Pw} {x:Pw × Int} {f g:List Term} {k:Nat} (hk:k<f.length) (hl:f.length * g.length≤1000000000000):(ofS (acc [] (mulL ds (toS (f.take k)) (toS g)))).length+(ofS (shf ds x (toS g))).length≤1000000000000:=by
 have h1:=acc_len (mulL ds (toS (f.take k)) (toS g)) [];have h2:=mulL_len ds (toS g) (toS (f.take k));have h3:=shf_len ds x (toS g);have h4:(k+1) * g.length≤f.length * g.length:=Nat.mul_le_mul_right _ hk;rw [toS_len,toS_len,List.length_take_of_le (by omega)] at h2;rw [toS_len] at h3;rw [ofS_len,ofS_len];rw [Nat.succ_mul] at h4;simp only [List.length_nil] at h1
 omega
theorem times_len (ds:Pw) (s t:Sm):(timesS ds s t).length≤s.length * t.length:=by
 have h1:=acc_len (mulL ds s t) [];have h2:=mulL_len ds t s;unfold timesS;simp only [List.length_nil] at h1
 omega
theorem l01Single_c {B:World} {H0 H:HP} {L:List SA} {w:World} {m:List Int} {x:Int} (hm:Mono m) (hx : -1000000000000≤x∧x≤1000000000000) (hH:Hp B H0 H L w):Calls Tryz.prog 130 [.agg (bytesC m).toArray,.int .i64 x].toArray w fun e w'=>∃q c,e = .returned (.agg [.slice q (ofS (addS [] m x)).length c].toArray)∧Hp B H0 H (own 107 9 q (ofS (addS [] m x)).length c (tsC (ofS (addS [] m x)))::L) w':=by
 refine Jx Tryz.func130 rfl 15 rfl rfl [(0,.agg (bytesC m).toArray),(1,.int .i64 x)] rfl hH ?_;have hml:=hm.len;clear hH;have fb:=fld_bd x;refine Je fun _ hK1 _=>(Jb (JW rfl rfl rfl fun g2=>(JP ze40 rfl fun g4=>(Jf (Ja (hK1 (Je fun _ hK2 _=>(Je fun _ hK3 _=>(Jb (Jg (Jc rfl) rfl (Ju fn98 rfl rfl fun w hH=>(l01Mod_c (by omega) hH).mono ?_)))))))))));rintro _ w ⟨rfl,hH⟩;refine ⟨_,rfl,fun a hF=>JH hF hH ?_⟩;refine Jg (EL rfl rfl) rfl (Jf (Ja (hK3 (Jq rfl (fun h7=>?_) (fun h7=>?_)))))
 ·
  refine Je fun _ hK4 _=>(Jb (J.own0 107 9 (Jg (EB bz40) rfl (JB rfl rfl (by first | exact bytesC_one _ | exact intsC_one _ | exact Term.c_one _ | simp [Value.oneCell']) (by simpa [*] using sz40) (by simp [*]) (.s .z) (Jf (Ja (hK4 (Jt (Jk (Jr rfl (Res.agg rfl (.s .z) (by simpa [*] using ag40)) fun w hH=>?_))))))))));replace hH:=hH.sublist (.cons_cons _ (.cons _ (.cons _ (List.Sublist.refl _))))
  have e9:ofS (addS [] m x)=[]:=by simp only [addS];rw [if_pos h7];rfl
  rw [e9];exact ⟨_,_,rfl,hH⟩
 ·
  refine Jn (Ja (hK2 (Je fun _ hK5 _=>(Er [[], [], [1]] (by kernel_rfl) (JA (fun gh=>Jm rfl (.s .z) (by simpa [*] using ag105)) (JA (fun gh=>Jc rfl) (HJ.call fn98 (fun gh=>rfl) (fun w X hH=>l01Mod_c (by omega) hH) (Ec 3 4 foll0 (by kernel_rfl) rfl rfl fun gh=>(En (us':=(9,_)::(10,_)::(11,_)::_) (L':=_) rfl rfl (Jg (PR.build2 rfl rfl (fun w=>bt107 _ _ hm.len w)) rfl (EI (MK.lit1T u38 ze107 sz107 (Term.wf.of hm (by omega)) rfl) rfl fun qo13 co13=>(Jg (PR.build1 rfl (fun w=>bd40_0 _ _ _ w)) rfl (JB rfl rfl (by first | exact bytesC_one _ | exact intsC_one _ | exact Term.c_one _ | simp [Value.oneCell']) (by simpa [*] using sz40) (by simp [*]) (.s .z) (Jf (Eb ?_)))))))))))))));refine Ed (Ja (hK5 (Jt (Jr rfl (Res.agg rfl (.s .z) (by simpa [*] using ag40)) fun w hH=>?_))));replace hH:=hH.sublist (.cons_cons _ (.cons _ (.cons _ (List.Sublist.refl _))))
  have e9:ofS (addS [] m x)=[⟨m,fld x⟩]:=by simp only [addS];rw [if_neg h7];rfl
  rw [e9];exact ⟨_,_,rfl,hH⟩
theorem l01Times_c {B:World} {H0 H:HP} {L:List SA} {w:World} {qds:Option Addr} {cds:Nat} {ds:List Int} {qf:Option Addr} {cf:Nat} {f:List Term} {qg:Option Addr} {cg:Nat} {g:List Term} {M N:Int} (hds:Ints H qds ds) (hf:Terms H qf f) (hg:Terms H qg g) (hn:ds.length≤8) (hd : ∀j,0≤ds.getD j 0∧ds.getD j 0≤12) (h1:KEx ds (toS f)) (h2:KEx ds (toS g)) (hp:Gok M (toS f)) (hq:Gok N (toS g)) (hM:M+N≤255) (hl:f.length * g.length≤1000000000000) (hlf:f.length≤1000000000000) (hH:Hp B H0 H L w):Calls Tryz.prog 51 [.slice qds ds.length cds,.agg [.slice qf f.length cf].toArray,.agg [.slice qg g.length cg].toArray].toArray w fun e w'=>∃q c,e = .returned (.agg [.slice q (ofS (timesS ds (toS f) (toS g))).length c].toArray)∧Hp B H0 H (own 107 9 q (ofS (timesS ds (toS f) (toS g))).length c (tsC (ofS (timesS ds (toS f) (toS g))))::L) w':=by
 refine Jx Tryz.func51 rfl 28 rfl rfl [(0,.slice qds ds.length cds),(1,.agg [.slice qf f.length cf].toArray),(2,.agg [.slice qg g.length cg].toArray)] rfl hH ?_;clear hH;have hw9 : ∀k,Wfs (ofS (acc [] (mulL ds (toS (f.take k)) (toS g)))):=fun k=>(Sok.nil.acc (gmulL (hp.take k) hq)).wf hM;refine Je fun _ hK1 _=>(Jb (JW rfl rfl rfl fun g4=>(JW rfl rfl rfl fun g5=>(JP ze40 rfl fun g6=>(Jf (Ja (hK1 (Je fun _ hK2 _=>(Jb (J.own0 107 9 (Jg (EB bz40) rfl (JP ze40 rfl fun g7=>(JB rfl rfl (by first | exact bytesC_one _ | exact intsC_one _ | exact Term.c_one _ | simp [Value.oneCell']) (by simpa [*] using sz40) (by simp [*]) At.z (Jf (Ja (hK2 ?_))))))))))))))));refine Je fun _ hK3 _=>(Je fun _ hK4 _=>(Jb (Jg (Jd rfl) rfl (Jf (Ja (hK4 (Jp (JD (σ:=Option Addr × Nat × Nat) (fun ⟨q,c,k⟩=>[(8,.int .i64 (k:Int))]) (fun ⟨q,c,k⟩=>H) (fun ⟨q,c,k⟩=>obj g7 (.cells [.slice q (ofS (acc [] (mulL ds (toS (f.take k)) (toS g)))).length c].toArray 40 (0,0))::own 107 9 q (ofS (acc [] (mulL ds (toS (f.take k)) (toS g)))).length c (tsC (ofS (acc [] (mulL ds (toS (f.take k)) (toS g)))))::obj g6 (.cells [.slice none 0 0].toArray 40 (0,0))::obj g5 (.cells [.slice qg g.length cg].toArray 40 (0,0))::obj g4 (.cells [.slice qf f.length cf].toArray 40 (0,0))::L) (fun ⟨q,c,k⟩=>k≤f.length) (fun ⟨q,c,k⟩=>f.length - k) (none,0,0) (by show 0≤f.length;omega) ⟨rfl,trivial⟩ rfl rfl ?_))))))));rintro ⟨q,c,k⟩ hI _ hAg0;have hk:=hI;have wfO:=hw9 k;refine Je fun _ hK5 _=>(Je fun _ hK6 _=>(Jb (Jg (Jc rfl) rfl (Jg (Jl u40 rfl sz38 rfl) rfl (Jg (Js rfl (.s (.s (.s (.s .z)))) rfl pl38) rfl (Jg (Jo u38 rfl rfl) rfl (Jg (JJ rfl rfl) rfl (Jf (Ja (hK6 (Jq rfl (fun hc14=>?_) (fun hc14=>?_))))))))))))
 ·
  refine Jn (Ja (hK5 (Je fun _ hK7 _=>(Jp (Er [[], [], [], [2], [], [3,4], [5], [], [1,6,7]] (by kernel_rfl) (JA (fun gh=>Jm rfl At.z (by simpa [*] using ag40)) (JA (fun gh=>Jc rfl) (JA (fun gh=>Jl u40 rfl sz38 rfl) (JA (fun gh=>Js rfl (.s (.s (.s (.s .z)))) rfl pl38) (JA (fun gh=>Jc rfl) (JA (fun gh=>Ey u38 sz107 rfl rfl rfl (by omega) hf.sm) (JA (fun gh=>JM rfl (hf.cell _ (by omega)) (hf.sm (i:=k) (by omega)) (by rw [Term.c_length (hf.wf _ (by omega))];exact ag107)) (JA (fun gh=>Jm rfl (.s (.s (.s .z))) (by simpa [*] using ag40)) (HJ.callN fn101 (fun gh=>rfl) (fun w X hH=>l01Shift_c hds (hf.wf k (by omega)) hg hn hd (h1 _ (toS_at (by omega))) h2 (hp.key _ (toS_at (by omega))) hq hM (hp.val _ (toS_at (by omega))) (Nat.le_trans (Nat.le_mul_of_pos_left _ (by omega)) hl) hH) (Ec 9 2 foll0 (by kernel_rfl) rfl rfl fun gh=>?_)))))))))))))));refine En (us':=(17,_)::(18,_)::(19,_)::(20,_)::(21,_)::(22,_)::(23,_)::(24,_)::(25,_)::_) (L':=_::_) rfl rfl (Ju fn100 rfl rfl fun w hH=>hH.lend (.s (.s .z)) fun Hl1 hle1 hA1 hB1 hH=>hH.lend .z fun Hl2 hle2 hA2 hB2 hH=>(l01Add_c ((own_terms wfO hA1).le hle2) (own_terms (Gok.wf (shf_g (hp.key _ (toS_at (by omega))) hq) hM) hA2) (by rw [toS_ofS];exact Sok.nil.acc (gmulL (hp.take k) hq)) (by rw [toS_ofS];exact shf_g (hp.key _ (toS_at (by omega))) hq) hM (by omega) (times_lens (by omega) hl) hH).mono ?_);rintro _ w ⟨qo26,co26,rfl,hH⟩;replace hH:=hB2 _ _ hH;replace hH:=hB1 _ _ hH;refine ⟨_,rfl,fun a hF=>JH hF hH ?_⟩;refine JB rfl rfl (by first | exact bytesC_one _ | exact intsC_one _ | exact Term.c_one _ | simp [Value.oneCell']) (by simpa [*] using sz40) (by simp [*]) (.s (.s (.s .z))) (Jf (Eb (Ed (JF (Ja (hK7 (Jb (Jg (Jc rfl) rfl (Jg (Jz rfl rfl (by first | exact nw _ (by omega) | rfl)) rfl (Jg (Jd rfl) rfl (Jf (Ja (JN .z (JN .z (Jw (.s (.s (.s (.s .z)))) ?_)))))))))))))));refine Jw (.s (.s (.s (.s .z)))) (Jw (.s (.s (.s (.s .z)))) (Jw (.s (.s (.s .z))) (Jw (.s (.s (.s (.s .z)))) ?_)));exact hAg0 (qo26,co26,k+1) (by show k+1≤f.length;omega) (by show f.length - (k+1)<f.length - k;omega) 19 rfl rfl ⟨rfl,trivial⟩ rfl (by simp only [toS_ofS];rw [acc_mulL (by omega)])
 ·
  refine JG (Jj (Jj (JK (Ja (hK3 (Je fun _ hK8 _=>(Jb (Jg (Jm rfl At.z (by simpa [*] using ag40)) rfl (JB rfl rfl (by first | exact bytesC_one _ | exact intsC_one _ | exact Term.c_one _ | simp [Value.oneCell']) (by simpa [*] using sz40) (by simp [*]) (.s (.s .z)) (Jf (Ja (hK8 (Jt (Jr rfl (Res.agg rfl (.s (.s .z)) (by simpa [*] using ag40)) fun w hH=>?_))))))))))))));replace hH:=hH.sublist (.cons _ (.cons_cons _ (.cons _ (.cons _ (.cons _ (List.Sublist.refl _))))))
  obtain rfl:k=f.length:=by omega
  rw [List.take_length] at hH ⊢;exact ⟨_,_,rfl,hH⟩
theorem fn130:Fn Tryz.prog 130:=⟨_,Tryz.func130,by kernel_rfl,rfl⟩
theorem fn51:Fn Tryz.prog 51:=⟨_,Tryz.func51,by kernel_rfl,rfl⟩
def frK (p:Pw) (k j:Nat):Pw:=(List.range 8).map fun t=>if t<j∧k≤t then 0 else p.getD t 0
def bkK (p:Pw) (k j:Nat):Pw:=(List.range 8).map fun t=>if t<j∧t≤k then 0 else p.getD t 0
@[simp] theorem frK_len (p:Pw) (k j:Nat):(frK p k j).length=8:=by simp [frK]
@[simp] theorem bkK_len (p:Pw) (k j:Nat):(bkK p k j).length=8:=by simp [bkK]
theorem frK_get {p:Pw} {k j t:Nat} (h:t<8):(frK p k j).getD t 0=if t<j∧k≤t then 0 else p.getD t 0:=by simp [frK,List.getD_eq_getElem?_getD,h]
theorem bkK_get {p:Pw} {k j t:Nat} (h:t<8):(bkK p k j).getD t 0=if t<j∧t≤k then 0 else p.getD t 0:=by simp [bkK,List.getD_eq_getElem?_getD,h]
theorem frK_zero {p:Pw} (hp:p.length=8) (k:Nat):frK p k 0=p:=list8 (by simp) hp fun t ht=>by rw [frK_get ht,if_neg (by omega)]
theorem bkK_zero {p:Pw} (hp:p.length=8) (k:Nat):bkK p k 0=p:=list8 (by simp) hp fun t ht=>by rw [bkK_get ht,if_neg (by omega)]
theorem frK_end (p:Pw) (k:Nat):frK p k 8=aheadP p k:=list8 (by simp) (by simp) fun t ht=>by
 rw [frK_get ht,aheadP_get ht]
 by_cases h:t<k
 ·rw [if_neg (by omega),if_pos h]
 ·rw [if_pos (by omega),if_neg h]
theorem bkK_end (p:Pw) (k:Nat):bkK p k 8=behP p (k+1):=list8 (by simp) (by simp) fun t ht=>by
 rw [bkK_get ht,behP_get ht]
 by_cases h:t<k+1
 ·rw [if_pos (by omega),if_pos h]
 ·rw [if_neg (by omega),if_neg h]
theorem frK_yes {p:Pw} {k j:Nat} (hj:j<8) (h:k≤j):(frK p k j).set j 0=frK p k (j+1):=list8 (by simp) (by simp) fun t ht=>by
 rw [getD_set8,frK_get ht,frK_get ht]
 by_cases e:j=t
 ·subst e
  rw [if_pos ⟨rfl,by simpa using hj⟩,if_pos (by omega)]
 ·rw [if_neg fun h=>e h.1]
  by_cases h2:t<j∧k≤t
  ·rw [if_pos h2,if_pos (by omega)]
  ·rw [if_neg h2,if_neg (by omega)]
theorem frK_no {p:Pw} {k j:Nat} (h : ¬k≤j):frK p k j=frK p k (j+1):=list8 (by simp) (by simp) fun t ht=>by
 rw [frK_get ht,frK_get ht,if_neg (by omega),if_neg (by omega)]
theorem bkK_yes {p:Pw} {k j:Nat} (hj:j<8) (h:j≤k):(bkK p k j).set j 0=bkK p k (j+1):=list8 (by simp) (by simp) fun t ht=>by
 rw [getD_set8,bkK_get ht,bkK_get ht]
 by_cases e:j=t
 ·subst e
  rw [if_pos ⟨rfl,by simpa using hj⟩,if_pos (by omega)]
 ·rw [if_neg fun h=>e h.1]
  by_cases h2:t<j∧t≤k
  ·rw [if_pos h2,if_pos (by omega)]
  ·rw [if_neg h2,if_neg (by omega)]
theorem bkK_no {p:Pw} {k j:Nat} (h : ¬j≤k):bkK p k j=bkK p k (j+1):=list8 (by simp) (by simp) fun t ht=>by
 rw [bkK_get ht,bkK_get ht]
 by_cases h2:t<j∧t≤k
 ·rw [if_pos h2,if_pos (by omega)]
 ·rw [if_neg h2,if_neg (by omega)]
theorem aheadP_pok {M:Int} {p:Pw} (h:Pok M p) (k:Nat):Pok M (aheadP p k):=⟨by simp,fun j=>by
 have:=h.bd j
 rcases Nat.lt_or_ge j 8 with hj | hj
 ·rw [aheadP_get hj]
  split <;> omega
 ·rw [getD_ge (by simp;omega)]
  omega⟩
theorem Pok.mn {M:Int} {p:Pw} (h:Pok M p) (hM:M≤255):Mono p:=⟨h.len,(h.mono hM).bd⟩
theorem wsum_ahead {ds p:Pw} {k:Nat} : ∀{n:Nat},n≤8→wsum ds (aheadP p k) n=wsum ds p (min n k)
 | 0,_=>by simp [wsum]
 | n+1,h=>by
  simp only [wsum]
  rw [wsum_ahead (by omega),aheadP_get (by omega)]
  by_cases hk:n<k
  ·rw [if_pos hk,Nat.min_eq_left (by omega),Nat.min_eq_left (by omega)]
   rfl
  ·rw [if_neg hk,Nat.min_eq_right (by omega),Nat.min_eq_right (by omega),Int.mul_zero,Int.add_zero]
theorem dsg_wsum {ds p:Pw} (hd : ∀j,0≤ds.getD j 0∧ds.getD j 0≤12) (hp : ∀j,0≤p.getD j 0) : ∀{k:Nat},k≤ds.length→dsg ds p k=if wsum ds p k % 2=1 then -1 else 1
 | 0,_=>by simp [dsg,wsum]
 | k+1,h=>by
  have ih:=dsg_wsum hd hp (k:=k) (by omega)
  have e1:=Int.tmod_eq_emod_of_nonneg (b:=2) (hd k).1
  have e2:=Int.tmod_eq_emod_of_nonneg (b:=2) (hp k)
  have em:=Int.mul_emod (ds.getD k 0) (p.getD k 0) 2
  have e:wsum ds p (k+1)=wsum ds p k+ds.getD k 0 * p.getD k 0:=rfl
  by_cases hc:(ds.getD k 0).tmod 2=1∧(p.getD k 0).tmod 2=1
  ·rw [show ds.getD k 0 % 2=1 by omega,show p.getD k 0 % 2=1 by omega] at em
   rw [← dsg_yes (by omega) hc.1 hc.2,ih]
   by_cases c:wsum ds p k % 2=1
   ·rw [if_pos c,if_neg (by omega)];rfl
   ·rw [if_neg c,if_pos (by omega)];rfl
  ·have em2:(ds.getD k 0 * p.getD k 0) % 2=0:=by
    rcases (show ds.getD k 0 % 2=0∨ds.getD k 0 % 2=1 by omega) with a | a <;> rcases (show p.getD k 0 % 2=0∨p.getD k 0 % 2=1 by omega) with b | b <;> rw [a,b] at em <;> omega
   rw [← dsg_no (fun h=>hc h.2),ih]
   by_cases c:wsum ds p k % 2=1
   ·rw [if_pos c,if_pos (by omega)]
   ·rw [if_neg c,if_neg (by omega)]
theorem wsum_nn {ds p:Pw} (hd : ∀j,0≤ds.getD j 0∧ds.getD j 0≤12) (hp : ∀j,0≤p.getD j 0) : ∀k,0≤wsum ds p k
 | 0=>by simp [wsum]
 | k+1=>by
  have h1:=wsum_nn hd hp k
  have h2:=Int.mul_nonneg (hd k).1 (hp k)
  simp only [wsum]
  omega
theorem sg_neg {ds p:Pw} {k:Nat} (hn:ds.length≤8) (hd : ∀j,0≤ds.getD j 0∧ds.getD j 0≤12) (hp : ∀j,0≤p.getD j 0) (hk:k<ds.length) (h:(wsum ds (aheadP p k) ds.length).tmod 2≠0):dsg ds p k = -1:=by
 rw [wsum_ahead hn,Nat.min_eq_right (by omega)] at h;rw [dsg_wsum hd hp (by omega),if_pos];have:=Int.tmod_eq_emod_of_nonneg (b:=2) (show 0≤wsum ds p k from wsum_nn hd hp k)
 omega
theorem sg_pos {ds p:Pw} {k:Nat} (hn:ds.length≤8) (hd : ∀j,0≤ds.getD j 0∧ds.getD j 0≤12) (hp : ∀j,0≤p.getD j 0) (hk:k<ds.length) (h : ¬(wsum ds (aheadP p k) ds.length).tmod 2≠0):dsg ds p k=1:=by
 rw [wsum_ahead hn,Nat.min_eq_right (by omega)] at h;rw [dsg_wsum hd hp (by omega),if_neg];have:=Int.tmod_eq_emod_of_nonneg (b:=2) (show 0≤wsum ds p k from wsum_nn hd hp k)
 omega
theorem addS_one (p:Pw):addS [] p 1=[(p,1)]:=by
 simp only [addS];rw [fld_id (by omega),if_neg (by omega)]
theorem one_wf {p:Pw} (h:Mono p):Wfs (ofS (addS [] p 1)):=by
 rw [addS_one]
 exact fun t ht=>by
  simp [ofS] at ht
  subst ht;exact ⟨⟨h.len,h.bd⟩,by show -9223372036854775808≤(1:Int)∧(1:Int)≤9223372036854775807;omega⟩
theorem one_g {M:Int} {p:Pw} (h:Pok M p):Gok M (toS (ofS (addS [] p 1))):=by
 rw [toS_ofS,addS_one];exact (Sok.one h (by omega)).g
theorem one_kex {ds p:Pw} (h:Ex ds p):KEx ds (toS (ofS (addS [] p 1))):=by
 rw [toS_ofS,addS_one];intro x hx
 simp at hx
 rw [hx];exact h
theorem one_len (p:Pw):(ofS (addS [] p 1)).length=1:=by rw [addS_one];rfl
theorem Ex.le {ds p q:Pw} (h:Ex ds p) (hq : ∀j,0≤q.getD j 0∧q.getD j 0≤p.getD j 0):Ex ds q:=
 ⟨fun i hi=>by have:=h.out i hi;have:=hq i;omega,fun i hi ho=>by have:=h.odd i hi ho;have:=hq i;omega⟩
theorem leftP_ex {ds p:Pw} {M:Int} (hp:Pok M p) (h:Ex ds p) {k:Nat} (hk:0<p.getD k 0):Ex ds (leftP p k):=h.le fun j=>by
 have b:=hp.bd j
 have c:=hp.bd k
 unfold leftP
 rw [getD_set8]
 split
 ·rename_i e
  rw [← e.1]
  omega
 ·rcases Nat.lt_or_ge j 8 with hj | hj
  ·rw [aheadP_get hj]
   split <;> omega
  ·rw [getD_ge (by simp;omega)]
   omega
theorem behP_ex {ds p:Pw} {M:Int} (hp:Pok M p) (h:Ex ds p) (k:Nat):Ex ds (behP p k):=h.le fun j=>by
 have b:=hp.bd j
 rcases Nat.lt_or_ge j 8 with hj | hj
 ·rw [behP_get hj]
  split <;> omega
 ·rw [getD_ge (by simp;omega)]
  omega
theorem dT_len (ds:Pw) (im:Sm) (p:Pw) (k:Nat):(dT ds im p k).length≤im.length:=by
 unfold dT;have h1:=times_len ds (timesS ds [(leftP p k,1)] im) [(behP p (k+1),1)];have h2:=times_len ds [(leftP p k,1)] im;simp only [List.length_singleton] at h1 h2
 omega
theorem dP_len {ds:Pw} {fs:List (List Term)} {x:Pw × Int} {k:Nat} (hL : ∀i,i<fs.length→(fm fs i).length≤10000) (hk:0<x.1.getD k 0→k<fs.length):(dP ds fs x k).length≤10000:=by
 unfold dP
 split
 ·rename_i h
  have h1:=dT_len ds (toS (fm fs k)) x.1 k;have h2:=hL k (hk h);rw [toS_len] at h1;unfold scl;rw [List.length_map]
  omega
 ·simp
theorem dLk_len {ds:Pw} {fs:List (List Term)} {x:Pw × Int} (hL : ∀i,i<fs.length→(fm fs i).length≤10000) (ho : ∀k,0<x.1.getD k 0→k<fs.length) : ∀k,(dLk ds fs x k).length≤k * 10000
 | 0=>by simp [dLk]
 | k+1=>by
  have h1:=dLk_len (ds:=ds) hL ho k
  have h2:=dP_len (ds:=ds) hL (ho k)
  rw [dLk_succ,List.length_append]
  omega
theorem dAll_len {ds:Pw} {fs:List (List Term)} (hL : ∀i,i<fs.length→(fm fs i).length≤10000) : ∀{s:Sm},Occ fs.length s→(dAll ds fs s).length≤s.length * 80000
 | [],_=>by simp [dAll]
 | x::s,ho=>by
  have h1:=dAll_len (ds:=ds) hL (s:=s) fun y hy=>ho y (by simp [hy])
  have h2:=dLk_len (ds:=ds) hL (ho x (by simp)) 8
  unfold dAll at h1 ⊢
  rw [List.flatMap_cons,List.length_append,List.length_cons]
  omega
theorem dAll_take {ds:Pw} {fs:List (List Term)} {f:List Term} {i:Nat} (hi:i<f.length):dAll ds fs (toS (f.take (i+1)))=dAll ds fs (toS (f.take i))++dLk ds fs ((tm f i).mono,(tm f i).fac) 8:=by
 rw [toS_take hi];unfold dAll;rw [List.flatMap_append]
 simp
theorem dLk_same {ds:Pw} {fs:List (List Term)} {x:Pw × Int} {n:Nat} (h : ∀k,n≤k→x.1.getD k 0=0) : ∀m,dLk ds fs x (n+m)=dLk ds fs x n
 | 0=>rfl
 | m+1=>by
  rw [← Nat.add_assoc,dLk_succ,dLk_same h m]
  unfold dP
  rw [if_neg (by rw [h _ (by omega)];omega),List.append_nil]
theorem dLk_8 {ds:Pw} {fs:List (List Term)} {x:Pw × Int} (hn:ds.length≤8) (h:Ex ds x.1):dLk ds fs x ds.length=dLk ds fs x 8:=by
 rw [← dLk_same (ds:=ds) (fs:=fs) (x:=x) (n:=ds.length) h.out (8 - ds.length),Nat.add_sub_cancel' hn]
theorem Ex.occ {ds:Pw} {s:Sm} {n:Nat} (h:KEx ds s) (hl:n=ds.length):Occ n s:=fun x hx i hi=>by
 have:=(h x hx).out i
 omega
theorem toS_tk (ts:List Term) (k:Nat):toS (ts.take k)=(toS ts).take k:=by simp [toS,List.map_take]
theorem Sok.tk {M:Int} {ts:List Term} (h:Sok M (toS ts)) (k:Nat):Sok M (toS (ts.take k)):=by
 rw [toS_tk];exact ⟨h.srt.sublist (List.take_sublist _ _),fun x hx=>h.key x (List.mem_of_mem_take hx),fun x hx=>h.val x (List.mem_of_mem_take hx)⟩
theorem Occ.tk {n:Nat} {ts:List Term} (h:Occ n (toS ts)) (k:Nat):Occ n (toS (ts.take k)):=by
 rw [toS_tk];exact fun x hx=>h x (List.mem_of_mem_take hx)
theorem d1_sok {ad:Pw} {af:List (List Term)} {f:List Term} {Mi Ms:Int} (hf:Fok Mi af) (hs:Sok Ms (toS f)) (ho:Occ af.length (toS f)) (i:Nat):Sok (Ms+Mi+Ms) (acc [] (dAll ad af (toS (f.take i)))):=Sok.nil.acc (dAll_pok (hs.tk i) hf (ho.tk i))
theorem d2_sok {ad:Pw} {af:List (List Term)} {f:List Term} {Mi Ms:Int} (hf:Fok Mi af) (hs:Sok Ms (toS f)) (ho:Occ af.length (toS f)) {i:Nat} (hi:i<f.length) (k:Nat):Sok (Ms+Mi+Ms) (acc [] (dAll ad af (toS (f.take i))++dLk ad af ((tm f i).mono,(tm f i).fac) k)):=Sok.nil.acc fun z hz=>by
 rcases List.mem_append.1 hz with h | h
 ·exact dAll_pok (hs.tk i) hf (ho.tk i) z h
 ·exact dLk_pok (hs.key _ (toS_at hi)) hf (ho _ (toS_at hi)) z h
theorem d2_len {ad:Pw} {af:List (List Term)} {f:List Term} (hL : ∀i,i<af.length→(fm af i).length≤10000) (ho:Occ af.length (toS f)) (hlf:f.length≤10000) {i k:Nat} (hi:i<f.length) (hk:k≤8):(acc [] (dAll ad af (toS (f.take i))++dLk ad af ((tm f i).mono,(tm f i).fac) k)).length≤900000000:=by
 have h1:=acc_len (dAll ad af (toS (f.take i))++dLk ad af ((tm f i).mono,(tm f i).fac) k) [];have h2:=dAll_len (ds:=ad) hL (ho.tk i);have h3:=dLk_len (ds:=ad) hL (ho _ (toS_at hi)) k;rw [toS_len,List.length_take_of_le (by omega)] at h2;rw [List.length_append,List.length_nil] at h1
 omega
theorem fac_neg {ds p:Pw} {k:Nat} {x:Int} (h:dsg ds p k = -1):fld (dsg ds p k * x * p.getD k 0)=fld (0 - x * p.getD k 0):=by rw [h];simp only [Int.neg_mul,Int.one_mul,Int.zero_sub]
theorem fac_pos {ds p:Pw} {k:Nat} {x:Int} (h:dsg ds p k=1):fld (dsg ds p k * x * p.getD k 0)=fld (x * p.getD k 0):=by rw [h,Int.one_mul]
theorem l02D_c {B:World} {H0 H:HP} {L:List SA} {w:World} {qad qaf:Option Addr} {cad caf:Nat} {ad:List Int} {af:List (List Term)} {qf:Option Addr} {cf:Nat} {f:List Term} {Mi Ms:Int} (had:Ints H qad ad) (haf:Forms H qaf af) (hf:Terms H qf f) (hn:ad.length≤8) (hd : ∀j,0≤ad.getD j 0∧ad.getD j 0≤12) (hf9:Fok Mi af) (hl:af.length=ad.length) (hk9 : ∀i,i<af.length→KEx ad (toS (fm af i))) (hs:Sok Ms (toS f)) (hfk:KEx ad (toS f)) (hM:0≤Mi∧0≤Ms∧Ms+Mi+Ms≤255) (hL : ∀i,i<af.length→(fm af i).length≤10000) (hlf:f.length≤10000) (hH:Hp B H0 H L w):Calls Tryz.prog 93 [.agg [.slice qad ad.length cad,.slice qaf af.length caf].toArray,.agg [.slice qf f.length cf].toArray].toArray w fun e w'=>∃q c,e = .returned (.agg [.slice q (ofS (dS ad af (toS f))).length c].toArray)∧Hp B H0 H (own 107 9 q (ofS (dS ad af (toS f))).length c (tsC (ofS (dS ad af (toS f))))::L) w':=by
 refine Jx Tryz.func93 rfl 103 rfl rfl [(0,.agg [.slice qad ad.length cad,.slice qaf af.length caf].toArray),(1,.agg [.slice qf f.length cf].toArray)] rfl hH ?_;clear hH;have hoc:=Ex.occ hfk hl;refine Je fun _ hK1 _=>(Jb (JW rfl rfl rfl fun g2=>(JW rfl rfl rfl fun g3=>(JP ze40 rfl fun g4=>(Jf (Ja (hK1 (Je fun _ hK2 _=>(Jb (J.own0 107 9 (Jg (EB bz40) rfl (JP ze40 rfl fun g5=>(JB rfl rfl (by first | exact bytesC_one _ | exact intsC_one _ | exact Term.c_one _ | simp [Value.oneCell']) (by simpa [*] using sz40) (by simp [*]) At.z (Jf (Ja (hK2 ?_))))))))))))))));refine Je fun _ hK3 _=>(Je fun _ hK4 _=>(Jb (Jg (Jd rfl) rfl (Jf (Ja (hK4 (Jp (JD (σ:=Option Addr × Nat × Nat) (fun ⟨q,c,i⟩=>[(6,.int .i64 (i:Int))]) (fun ⟨q,c,i⟩=>H) (fun ⟨q,c,i⟩=>obj g5 (.cells [.slice q (ofS (acc [] (dAll ad af (toS (f.take i))))).length c].toArray 40 (0,0))::own 107 9 q (ofS (acc [] (dAll ad af (toS (f.take i))))).length c (tsC (ofS (acc [] (dAll ad af (toS (f.take i))))))::obj g4 (.cells [.slice none 0 0].toArray 40 (0,0))::obj g3 (.cells [.slice qf f.length cf].toArray 40 (0,0))::obj g2 (.cells [.slice qad ad.length cad,.slice qaf af.length caf].toArray 36 (0,0))::L) (fun ⟨q,c,i⟩=>i≤f.length) (fun ⟨q,c,i⟩=>f.length - i) (none,0,0) (by show 0≤f.length;omega) ⟨rfl,trivial⟩ rfl rfl ?_))))))));rintro ⟨q,c,i⟩ hI _ hAg0;have hi:=hI;have wfO:=(d1_sok (ad:=ad) hf9 hs hoc i).wf (by omega);refine Je fun _ hK5 _=>(Je fun _ hK6 _=>(Jb (Jg (Jc rfl) rfl (Jg (Jl u40 rfl sz38 rfl) rfl (Jg (Js rfl (.s (.s (.s .z))) rfl pl38) rfl (Jg (Jo u38 rfl rfl) rfl (Jg (JJ rfl rfl) rfl (Jf (Ja (hK6 (Jq rfl (fun h20=>?_) (fun h20=>?_))))))))))))
 ·
  have hxi:=toS_at (ts:=f) (k:=i) (by omega);have hxp:=hs.key _ hxi;have hxv:=hs.val _ hxi;have hxe:=hfk _ hxi;simp only at hxp hxv hxe;have hx8:=hxp.len;have hxn : ∀j,0≤(tm f i).mono.getD j 0:=fun j=>(hxp.bd j).1;refine Jn (Ja (hK5 (Je fun _ hK7 _=>(Jp (Je fun _ hK8 _=>(Jb (Jg (Jl u40 rfl sz38 rfl) rfl (Jg (Js rfl (.s (.s (.s .z))) rfl pl38) rfl (Jg (Jc rfl) rfl (Jg (Ey u38 sz107 rfl rfl rfl (by omega) hf.sm) rfl (Jg (EM u107 rfl sz105 rfl (hf.sm (i:=i) (by omega))) rfl (Jg (JM rfl (hf.mono (by omega)) (hf.sm (i:=i) (by omega)) (by rw [bytesC_length,(hf.wf _ (by omega)).mono.len];exact ag105)) rfl (JP ze105 rfl fun g7=>(JB rfl rfl (by first | exact bytesC_one _ | exact intsC_one _ | exact Term.c_one _ | simp [Value.oneCell']) (by simpa [*] using sz105) (by simp [*]) At.z (Jf ?_)))))))))))))));refine Ja (hK8 (Je fun _ hK9 _=>(Jb (Jg (Jd rfl) rfl (Jf (Ja (hK9 (Jp (JD (σ:=Option Addr × Nat × Nat) (fun ⟨q1,c1,k⟩=>[(8,.int .i64 (k:Int))]) (fun ⟨q1,c1,k⟩=>H) (fun ⟨q1,c1,k⟩=>obj g7 (.cells (bytesC ((tm f i).mono)).toArray 105 (0,0))::obj g5 (.cells [.slice q1 (ofS (acc [] (dAll ad af (toS (f.take i))++dLk ad af ((tm f i).mono,(tm f i).fac) k))).length c1].toArray 40 (0,0))::own 107 9 q1 (ofS (acc [] (dAll ad af (toS (f.take i))++dLk ad af ((tm f i).mono,(tm f i).fac) k))).length c1 (tsC (ofS (acc [] (dAll ad af (toS (f.take i))++dLk ad af ((tm f i).mono,(tm f i).fac) k))))::obj g4 (.cells [.slice none 0 0].toArray 40 (0,0))::obj g3 (.cells [.slice qf f.length cf].toArray 40 (0,0))::obj g2 (.cells [.slice qad ad.length cad,.slice qaf af.length caf].toArray 36 (0,0))::L) (fun ⟨q1,c1,k⟩=>k≤ad.length) (fun ⟨q1,c1,k⟩=>ad.length - k) (q,c,0) (by show 0≤ad.length;omega) ⟨rfl,trivial⟩ rfl (by simp only [dLk,List.range_zero,List.flatMap_nil,List.append_nil]) ?_)))))))));rintro ⟨q1,c1,k⟩ hkI _ hAg1;have hk:=hkI;have wfO:=(d2_sok (ad:=ad) hf9 hs hoc (i:=i) (by omega) k).wf (by omega);refine Je fun _ hK10 _=>(Je fun _ hK11 _=>(Jb (Jg (Jc rfl) rfl (Jg (Jl u36 rfl sz22 rfl) rfl (Jg (Js rfl (.s (.s (.s (.s (.s .z))))) rfl pl22) rfl (Jg (Jo u22 rfl rfl) rfl (Jg (JJ rfl rfl) rfl (Jf (Ja (hK11 (Jq rfl (fun h33=>?_) (fun h33=>?_))))))))))))
  ·
   have hkl:k<af.length:=by omega
   have hpk:=hxp.bd k;refine Jn (Ja (hK10 (Je fun _ hK12 _=>(Jp (Je fun _ hK13 _=>(Je fun _ hK14 _=>(Jb (Jg (Jc rfl) rfl (Jg (JT u105 sz5 rfl rfl rfl (by omega)) rfl (Jg (Js rfl At.z (bytesC_get (by omega)) pl5) rfl (Jg (EL rfl rfl) rfl (Jf (Ja (hK14 (Jq rfl (fun h39=>?_) (fun h39=>?_))))))))))))))))
   ·
    refine JG (Jj (JK (Ja (hK12 (Jb (Jg (Jc rfl) rfl (Jg (Jz rfl rfl (by first | exact nw _ (by omega) | rfl)) rfl (Jg (Jd rfl) rfl (Jf (Ja ?_))))))))));exact hAg1 (q1,c1,k+1) (by show k+1≤ad.length;omega) (by show ad.length - (k+1)<ad.length - k;omega) 13 rfl rfl ⟨rfl,trivial⟩ rfl (by simp only [acc_dN (ds:=ad) (fs:=af) (x:=((tm f i).mono,(tm f i).fac)) (k:=k) (show ¬0<(tm f i).mono.getD k 0 by omega)])
   ·
    have hpos:0<(tm f i).mono.getD k 0:=by omega
    have hlp:=leftP_pok hxp hpos;have hfp:=aheadP_pok hxp k;have hbp:=behP_pok hxp (k+1);have hlm:=hlp.mn (by omega);have hfm:=hfp.mn (by omega);have hbm:=hbp.mn (by omega);have hle:=leftP_ex hxp hxe hpos;have hbe:=behP_ex hxp hxe (k+1);have mb:=mul_sb (b:=(tm f i).mono.getD k 0) (B:=255) (show -10006≤(tm f i).fac∧(tm f i).fac≤10006 by omega) (by omega);have gt1:=gtimes (ds:=ad) (Sok.one hlp (k:=1) (by omega)).g (hf9 k hkl).1.g;have gt2:=gtimes (ds:=ad) (gt1.g) (Sok.one hbp (k:=1) (by omega)).g;have l9:=hL k hkl;have l8:=d2_len (ad:=ad) hL hoc hlf (i:=i) (k:=k) (by omega) (by omega);refine Jn (Ja (hK13 (Je fun _ hK15 _=>(Ea (Rs:=[_,_,_,_,_,_]) 6 [[], [], [], [], [0,2,3], [0,1,2,3,4]] [[6], [6], [], [], [], []] [[], [], [], [], [2], [3]] rfl rfl (by kernel_rfl) ?_))));apply Ji 1 rfl rfl rfl
    ·intros;conv=>lhs;simp only [Jh,reduceEqDiff,reduceAdd]
    ·exact Jm rfl At.z (by simpa [*] using ag105)
    apply Ji 2 rfl rfl rfl
    ·intros;conv=>lhs;simp only [Jh,reduceEqDiff,reduceAdd]
    ·exact Jm rfl At.z (by simpa [*] using ag105)
    apply JR 3 rfl
    ·intros;conv=>lhs;simp only [Jh,reduceEqDiff,reduceAdd]
    ·
     intro gh X K zq zc zq2 zc2 zb zv hK;refine JP ze105 rfl fun g9=>(Jy ?_);exact hK zq zc zq2 zc2 g9 zv
    ·intro gh gh' h;refine ⟨?_,?_⟩ <;> rfl
    apply JR 4 rfl
    ·intros;conv=>lhs;simp only [Jh,reduceEqDiff,reduceAdd]
    ·
     intro gh X K zq zc zq2 zc2 zb zv hK;refine JP ze105 rfl fun g10=>(Jy ?_);exact hK zq zc zq2 zc2 g10 zv
    ·intro gh gh' h;refine ⟨?_,?_⟩ <;> rfl
    apply EZ 5 rfl
    ·intros;conv=>lhs;simp only [Jh,reduceEqDiff,reduceAdd]
    ·
     intro gh X K hK;refine JB rfl rfl (by first | exact bytesC_one _ | exact intsC_one _ | exact Term.c_one _ | simp [Value.oneCell']) (by simpa [*] using sz105) (by simp [*]) At.z (Jy ?_);exact hK
    ·intro gh gh' h;first | simp only [h 2 rfl,h 3 rfl] | rfl
    apply EZ 6 rfl
    ·intros;conv=>lhs;simp only [Jh,reduceEqDiff,reduceAdd]
    ·
     intro gh X K hK;refine JB rfl rfl (by first | exact bytesC_one _ | exact intsC_one _ | exact Term.c_one _ | simp [Value.oneCell']) (by simpa [*] using sz105) (by simp [*]) At.z (Jy ?_);exact hK
    ·intro gh gh' h;first | simp only [h 2 rfl,h 3 rfl] | rfl
    apply JZ [0,1,2,3,4,5] [0,1,4,5,6,7,8,9,10,11] foll0 rfl rfl rfl (by rfl)
    iterate 2 focus (intros;(conv=>lhs;simp only [JU,Ej,Ka,El,Es,eq_self,reduceEqDiff,reduceIte,reduceSub,reduceAdd,JxA,JxB]);all_goals rfl)
    intro gh;generalize (gh 2).b=g9;generalize (gh 3).b=g10;clear gh;refine Ja (hK15 (Je fun _ hK16 _=>(Je fun _ hK17 _=>(Jb (Jg (Jd rfl) rfl (Jf (Ja (hK17 (Jp (JD (σ:=Nat) (fun (j:Nat)=>[(11,.int .i64 (j:Int))]) (fun (j:Nat)=>H) (fun (j:Nat)=>obj g9 (.cells (bytesC (frK (tm f i).mono k j)).toArray 105 (0,0))::obj g10 (.cells (bytesC (bkK (tm f i).mono k j)).toArray 105 (0,0))::obj g7 (.cells (bytesC ((tm f i).mono)).toArray 105 (0,0))::obj g5 (.cells [.slice q1 (ofS (acc [] (dAll ad af (toS (f.take i))++dLk ad af ((tm f i).mono,(tm f i).fac) k))).length c1].toArray 40 (0,0))::own 107 9 q1 (ofS (acc [] (dAll ad af (toS (f.take i))++dLk ad af ((tm f i).mono,(tm f i).fac) k))).length c1 (tsC (ofS (acc [] (dAll ad af (toS (f.take i))++dLk ad af ((tm f i).mono,(tm f i).fac) k))))::obj g4 (.cells [.slice none 0 0].toArray 40 (0,0))::obj g3 (.cells [.slice qf f.length cf].toArray 40 (0,0))::obj g2 (.cells [.slice qad ad.length cad,.slice qaf af.length caf].toArray 36 (0,0))::L) (fun (j:Nat)=>j≤8) (fun (j:Nat)=>8 - j) 0 (by omega) ⟨rfl,trivial⟩ rfl (by rw [bkK_zero hx8,frK_zero hx8]) ?_))))))))));rintro j hj _ hAg2;refine Je fun _ hK18 _=>(Je fun _ hK19 _=>(Jb (Jg (Jc rfl) rfl (Jg (JJ rfl rfl) rfl (Jf (Ja (hK19 (Jq rfl (fun h43=>?_) (fun h43=>?_)))))))))
    ·
     refine Jn (Ja (hK18 (Je fun _ hK20 _=>(Jp (Je fun _ hK21 _=>(Je fun _ hK22 _=>(Jb (Jg (Jc rfl) rfl (Jg (Jc rfl) rfl (Jg (PR.geq rfl rfl) rfl (Jf (Ja (hK22 (Jq rfl (fun h48=>?_) (fun h48=>?_)))))))))))))))
     ·
      refine Jb (Jg (Jc rfl) rfl (Jg (JT u105 sz5 rfl rfl rfl (by omega)) rfl (J.storeB rfl rfl sz5 (by simp;omega) At.z (Jf (Ja (hK21 (Je fun _ hK23 _=>(Jb (Jg (Jc rfl) rfl (Jg (Jc rfl) rfl (Jg (PR.leq rfl rfl) rfl (Jf (Ja (hK23 (Jq rfl (fun h53=>?_) (fun h53=>?_))))))))))))))))
      ·
       refine Jb (Jg (Jc rfl) rfl (Jg (JT u105 sz5 rfl rfl rfl (by omega)) rfl (J.storeB rfl rfl sz5 (by simp;omega) (.s .z) (Jf (JF (Ja (hK20 (Jb (Jg (Jc rfl) rfl (Jg (Jz rfl rfl (by first | exact nw _ (by omega) | rfl)) rfl (Jg (Jd rfl) rfl (Jf (Ja ?_)))))))))))));exact hAg2 (j+1) (by omega) (by omega) 16 rfl rfl ⟨rfl,trivial⟩ rfl (by simp only [frK_yes (p:=(tm f i).mono) (show j<8 by omega) (show k≤j by omega),bkK_yes (p:=(tm f i).mono) (show j<8 by omega) (show j≤k by omega)])
      ·
       refine Jn (JF (Ja (hK20 (Jb (Jg (Jc rfl) rfl (Jg (Jz rfl rfl (by first | exact nw _ (by omega) | rfl)) rfl (Jg (Jd rfl) rfl (Jf (Ja ?_)))))))));exact hAg2 (j+1) (by omega) (by omega) 14 rfl rfl ⟨rfl,trivial⟩ rfl (by simp only [frK_yes (p:=(tm f i).mono) (show j<8 by omega) (show k≤j by omega),bkK_no (p:=(tm f i).mono) (show ¬j≤k by omega)])
     ·
      refine Jn (Ja (hK21 (Je fun _ hK24 _=>(Jb (Jg (Jc rfl) rfl (Jg (Jc rfl) rfl (Jg (PR.leq rfl rfl) rfl (Jf (Ja (hK24 (Jq rfl (fun h53=>?_) (fun h53=>?_))))))))))))
      ·
       refine Jb (Jg (Jc rfl) rfl (Jg (JT u105 sz5 rfl rfl rfl (by omega)) rfl (J.storeB rfl rfl sz5 (by simp;omega) (.s .z) (Jf (JF (Ja (hK20 (Jb (Jg (Jc rfl) rfl (Jg (Jz rfl rfl (by first | exact nw _ (by omega) | rfl)) rfl (Jg (Jd rfl) rfl (Jf (Ja ?_)))))))))))));exact hAg2 (j+1) (by omega) (by omega) 14 rfl rfl ⟨rfl,trivial⟩ rfl (by simp only [frK_no (p:=(tm f i).mono) (show ¬k≤j by omega),bkK_yes (p:=(tm f i).mono) (show j<8 by omega) (show j≤k by omega)])
      ·
       refine Jn (JF (Ja (hK20 (Jb (Jg (Jc rfl) rfl (Jg (Jz rfl rfl (by first | exact nw _ (by omega) | rfl)) rfl (Jg (Jd rfl) rfl (Jf (Ja ?_)))))))));exact hAg2 (j+1) (by omega) (by omega) 12 rfl rfl ⟨rfl,trivial⟩ rfl (by simp only [frK_no (p:=(tm f i).mono) (show ¬k≤j by omega),bkK_no (p:=(tm f i).mono) (show ¬j≤k by omega)])
    ·
     obtain rfl:j=8:=by omega
     rw [frK_end,bkK_end];refine JG (Jj (Jj (JK (Ja (hK16 (Je fun _ hK25 _=>(Jb (Jg (Jm rfl At.z (by simpa using ag105)) rfl (JP ze105 rfl fun g12=>(JB rfl rfl (by first | exact bytesC_one _ | exact intsC_one _ | exact Term.c_one _ | simp [Value.oneCell']) (by simpa [*] using sz105) (by simp [*]) At.z (Jf (Ja (hK25 (Je fun _ hK26 _=>(Jb (Jg (Jc rfl) rfl ?_))))))))))))))));refine Jg (Jc rfl) rfl (Jg (JT u105 sz5 rfl rfl rfl (by omega)) rfl (Jg (Js rfl (.s (.s (.s .z))) (bytesC_get (by omega)) pl5) rfl (Jg (EH rfl rfl (u8_id (by omega))) rfl (Jg (JT u105 sz5 rfl rfl rfl (by omega)) rfl (J.storeB rfl rfl sz5 (by simp;omega) At.z (Jf (Ja (hK26 (Je fun _ hK27 _=>(EC foll0 (by kernel_rfl) (JC (Jl u40 rfl sz38 rfl) rfl (JC (Js rfl (.s (.s (.s (.s (.s (.s (.s .z))))))) rfl pl38) rfl (JC (Jc rfl) rfl (JC (Ey u38 sz107 rfl rfl rfl (by omega) hf.sm) rfl (JC (EM u107 rfl sz2 rfl (hf.sm (i:=i) (by omega))) rfl ?_)))))))))))))));refine JC (JE rfl (hf.fac (by omega)) pl2) rfl (JC (Jc rfl) rfl (JC (JT u105 sz5 rfl rfl rfl (by omega)) rfl (JC (Js rfl (.s (.s (.s .z))) (bytesC_get (by omega)) pl5) rfl (JC (PR.conv u5 u2 rfl (by first | exact nw _ (by omega) | rfl)) rfl (JC (EO rfl rfl (by first | exact nw _ (by omega) | rfl)) rfl (JC (Jd rfl) rfl (Ed (Ja (hK27 (CJ.cutU (σ:=Int) (fun (v:Int)=>[(13,.int .i64 v)]) (fun (v:Int)=>H) (fun (v:Int)=>obj g12 (.cells (bytesC (leftP (tm f i).mono k)).toArray 105 (0,0))::obj g9 (.cells (bytesC (aheadP (tm f i).mono k)).toArray 105 (0,0))::obj g10 (.cells (bytesC (behP (tm f i).mono (k+1))).toArray 105 (0,0))::obj g7 (.cells (bytesC ((tm f i).mono)).toArray 105 (0,0))::obj g5 (.cells [.slice q1 (ofS (acc [] (dAll ad af (toS (f.take i))++dLk ad af ((tm f i).mono,(tm f i).fac) k))).length c1].toArray 40 (0,0))::own 107 9 q1 (ofS (acc [] (dAll ad af (toS (f.take i))++dLk ad af ((tm f i).mono,(tm f i).fac) k))).length c1 (tsC (ofS (acc [] (dAll ad af (toS (f.take i))++dLk ad af ((tm f i).mono,(tm f i).fac) k))))::obj g4 (.cells [.slice none 0 0].toArray 40 (0,0))::obj g3 (.cells [.slice qf f.length cf].toArray 40 (0,0))::obj g2 (.cells [.slice qad ad.length cad,.slice qaf af.length caf].toArray 36 (0,0))::L) (fun (v:Int)=>fld v=fld (dsg ad (tm f i).mono k * (tm f i).fac * (tm f i).mono.getD k 0)∧ -1000000000000≤v∧v≤1000000000000) ?_ ?_))))))))))
     ·
      intro _ hMt1;refine Je fun _ hK28 _=>(Jb (Jg (Jl u36 rfl sz22 rfl) rfl (Jg (Js rfl (.s (.s (.s (.s (.s (.s (.s (.s .z)))))))) rfl pl22) rfl (Jg (Jm rfl (.s .z) (by simpa using ag105)) rfl (Ju fn129 rfl rfl fun w hH=>(l01Weight_c had hfm hn hd hH).mono ?_)))));rintro _ w ⟨rfl,hH⟩;refine ⟨_,rfl,fun a hF=>JH hF hH ?_⟩;refine Jg (EF rfl rfl (by decide) rfl) rfl (Jg (Eo rfl rfl) rfl (Jf (Ja (hK28 (Jq rfl (fun h79=>?_) (fun h79=>?_))))))
      ·
       refine Jb (Jg (Jc rfl) rfl (Jg (PR.neg rfl (by first | exact nw _ (by omega) | rfl)) rfl (Jg (Jd rfl) rfl (Jf (Ja ?_)))));exact hMt1 (0 - (tm f i).fac * (tm f i).mono.getD k 0) ⟨(fac_neg (sg_neg hn hd hxn (by omega) h79)).symm,by omega,by omega⟩ 9 rfl rfl ⟨(vi (by omega)),trivial⟩ rfl rfl
      ·
       refine Jn (Ja ?_);exact hMt1 ((tm f i).fac * (tm f i).mono.getD k 0) ⟨(fac_pos (sg_pos hn hd hxn (by omega) h79)).symm,by omega,by omega⟩ 6 rfl rfl ⟨rfl,trivial⟩ rfl rfl
     ·
      rintro v ⟨hv,hvb⟩;refine Je fun _ hK29 _=>(Ea (Rs:=[_,_,_,_,_,_,_,_,_]) 12 [[], [0], [], [2], [], [4], [], [4,5,6], [4,5,6,7], [0,1,2,3,4,5,6,7,8], [], [0,1,2,3,4,5,6,7,8,9,10]] [[], [20], [12], [], [], [20], [], [], [], [3], [], []] [[], [], [], [], [], [], [], [], [], [], [], [10]] rfl rfl (by kernel_rfl) ?_);apply Ji 1 rfl rfl rfl
      ·intros;conv=>lhs;simp only [Jh,reduceEqDiff,reduceAdd]
      ·exact Jl u36 rfl sz22 rfl
      apply Ji 2 rfl rfl rfl
      ·intros;conv=>lhs;simp only [Jh,reduceEqDiff,reduceAdd]
      ·exact Js rfl At.z rfl pl22
      apply Ji 3 rfl rfl rfl
      ·intros;conv=>lhs;simp only [Jh,reduceEqDiff,reduceAdd]
      ·exact Jm rfl At.z (by simpa using ag105)
      apply JR 4 rfl
      ·intros;conv=>lhs;simp only [Jh,reduceEqDiff,reduceAdd]
      ·
       intro gh X K zq zc zq2 zc2 zb zv hK;refine Ju fn130 rfl rfl fun w hH=>(l01Single_c hlm (by omega) hH).mono ?_;rintro _ w ⟨qo85,co85,rfl,hH⟩;refine ⟨_,rfl,fun a hF=>JH hF hH ?_⟩;refine Jy ?_;exact hK qo85 co85 zq2 zc2 zb zv
      ·intro gh gh' h;refine ⟨?_,?_⟩ <;> rfl
      apply Ji 5 rfl rfl rfl
      ·intros;conv=>lhs;simp only [Jh,reduceEqDiff,reduceAdd]
      ·exact Jl u36 rfl sz34 rfl
      apply Ji 6 rfl rfl rfl
      ·intros;conv=>lhs;simp only [Jh,reduceEqDiff,reduceAdd]
      ·exact Js rfl At.z rfl pl34
      apply Ji 7 rfl rfl rfl
      ·intros;conv=>lhs;simp only [Jh,reduceEqDiff,reduceAdd]
      ·exact Jc rfl
      apply Ji 8 rfl rfl rfl
      ·intros;conv=>lhs;simp only [Jh,reduceEqDiff,reduceAdd]
      ·exact JL u34 sz40 rfl rfl rfl (by omega) haf.sm
      obtain ⟨qe90,ce90,he90,le90,Fe90⟩:=haf k (by omega);apply Ji 9 rfl rfl rfl
      ·intros;conv=>lhs;simp only [Jh,reduceEqDiff,reduceAdd]
      ·exact JM (cs:=[_]) rfl (one_cell he90) (haf.sm (i:=k) (by omega)) ag40
      apply JR 10 rfl
      ·intros;conv=>lhs;simp only [Jh,reduceEqDiff,reduceAdd]
      ·
       intro gh X K zq zc zq2 zc2 zb zv hK;refine Ju fn51 rfl rfl fun w hH=>hH.lend .z fun Hl1 hle1 hA1 hB1 hH=>(l01Times_c (had.le hle1) (own_terms (one_wf hlm) hA1) (Fe90.le hle1) hn hd (one_kex hle) (hk9 k hkl) (one_g hlp) (hf9 k hkl).1.g (by omega) (by rw [one_len];omega) (by rw [one_len];omega) hH).mono ?_;rintro _ w ⟨qo91,co91,rfl,hH⟩;replace hH:=hB1 _ _ hH;refine ⟨_,rfl,fun a hF=>JH hF hH ?_⟩;refine Jw .z (Jw (.s .z) (Jy ?_));exact hK qo91 co91 zq2 zc2 zb zv
      ·intro gh gh' h;refine ⟨?_,?_⟩ <;> (first | simp only [h 3 rfl] | rfl)
      apply JR 11 rfl
      ·intros;conv=>lhs;simp only [Jh,reduceEqDiff,reduceAdd]
      ·
       intro gh X K zq zc zq2 zc2 zb zv hK;refine JP ze40 rfl fun g14=>(Jy ?_);exact hK zq zc zq2 zc2 g14 zv
      ·intro gh gh' h;refine ⟨?_,?_⟩ <;> rfl
      apply EZ 12 rfl
      ·intros;conv=>lhs;simp only [Jh,reduceEqDiff,reduceAdd]
      ·
       intro gh X K hK;refine JB rfl rfl (by first | exact bytesC_one _ | exact intsC_one _ | exact Term.c_one _ | simp [Value.oneCell']) (by simpa [*] using sz40) (by simp [*]) At.z (Jy ?_);exact hK
      ·intro gh gh' h;first | simp only [h 3 rfl,h 9 rfl,h 10 rfl] | rfl
      apply JZ [0,1,2,3,4,5,6,7,8,9,10,11] [0,1,2,3,4,5,6,7,8,9,11,12,13,14,15,16,17,18,19,20] foll0 rfl rfl rfl (by rfl)
      iterate 2 focus (intros;(conv=>lhs;simp only [JU,Ej,Ka,El,Es,eq_self,reduceEqDiff,reduceIte,reduceSub,reduceAdd,JxA,JxB]);all_goals rfl)
      intro gh;generalize (gh 3).c=co85;generalize (gh 3).q=qo85;generalize (gh 9).c=co91;generalize (gh 9).q=qo91;generalize (gh 10).b=g14;clear gh;refine Ja (hK29 (Ea (Rs:=[_,_,_,_,_,_,_,_,_,_,_,_]) 11 [[], [], [1], [], [], [4], [1,2,3,4,5], [], [1,2,3,4,5,6,7], [0,1,2,3,4,5,6,7,8], [0,1,2,3,4,5,6,7,8,9]] [[18], [], [22], [13], [16], [], [5,12], [], [], [6,19], []] [[], [], [], [], [], [], [], [], [], [], [18]] rfl rfl (by kernel_rfl) ?_));apply Ji 1 rfl rfl rfl
      ·intros;conv=>lhs;simp only [Jh,reduceEqDiff,reduceAdd]
      ·exact Jm rfl At.z (by simpa [*] using ag40)
      apply Ji 2 rfl rfl rfl
      ·intros;conv=>lhs;simp only [Jh,reduceEqDiff,reduceAdd]
      ·exact Jl u36 rfl sz22 rfl
      apply Ji 3 rfl rfl rfl
      ·intros;conv=>lhs;simp only [Jh,reduceEqDiff,reduceAdd]
      ·exact Js rfl At.z rfl pl22
      apply Ji 4 rfl rfl rfl
      ·intros;conv=>lhs;simp only [Jh,reduceEqDiff,reduceAdd]
      ·exact Jm rfl At.z (by simpa [*] using ag40)
      apply Ji 5 rfl rfl rfl
      ·intros;conv=>lhs;simp only [Jh,reduceEqDiff,reduceAdd]
      ·exact Jm rfl At.z (by simpa using ag105)
      apply JR 6 rfl
      ·intros;conv=>lhs;simp only [Jh,reduceEqDiff,reduceAdd]
      ·
       intro gh X K zq zc zq2 zc2 zb zv hK;refine Ju fn130 rfl rfl fun w hH=>(l01Single_c hbm (by omega) hH).mono ?_;rintro _ w ⟨qo97,co97,rfl,hH⟩;refine ⟨_,rfl,fun a hF=>JH hF hH ?_⟩;refine Jy ?_;exact hK qo97 co97 zq2 zc2 zb zv
      ·intro gh gh' h;refine ⟨?_,?_⟩ <;> rfl
      apply JR 7 rfl
      ·intros;conv=>lhs;simp only [Jh,reduceEqDiff,reduceAdd]
      ·
       intro gh X K zq zc zq2 zc2 zb zv hK;refine Ju fn51 rfl rfl fun w hH=>hH.lend (.s .z) fun Hl1 hle1 hA1 hB1 hH=>hH.lend .z fun Hl2 hle2 hA2 hB2 hH=>(l01Times_c ((had.le hle1).le hle2) ((own_terms (by simp only [toS_ofS,addS_one];exact gt1.wf (by omega)) hA1).le hle2) (own_terms (one_wf hbm) hA2) hn hd (by rw [toS_ofS];exact times_kex (one_g hlp) (hf9 k hkl).1.g (one_kex hle) (hk9 k hkl)) (one_kex hbe) (by simp only [toS_ofS,addS_one];exact gt1.g) (one_g hbp) (by omega) (by have h:=times_len ad (toS (ofS (addS [] (leftP (tm f i).mono k) 1))) (toS (fm af k));rw [toS_len,toS_len,one_len] at h;rw [one_len,ofS_len];omega) (by have h:=times_len ad (toS (ofS (addS [] (leftP (tm f i).mono k) 1))) (toS (fm af k));rw [toS_len,toS_len,one_len] at h;rw [ofS_len];omega) hH).mono ?_;rintro _ w ⟨qo98,co98,rfl,hH⟩;replace hH:=hB2 _ _ hH;replace hH:=hB1 _ _ hH;refine ⟨_,rfl,fun a hF=>JH hF hH ?_⟩;refine Jw .z (Jw (.s .z) (Jw (.s (.s .z)) (Jy ?_)));exact hK qo98 co98 zq2 zc2 zb zv
      ·intro gh gh' h;refine ⟨?_,?_⟩ <;> (first | simp only [h 5 rfl] | rfl)
      apply Ji 8 rfl rfl rfl
      ·intros;conv=>lhs;simp only [Jh,reduceEqDiff,reduceAdd]
      ·exact Jc rfl
      apply Ez 9 rfl
      ·intros;conv=>lhs;simp only [Jh,reduceEqDiff,reduceAdd]
      ·
       intro gh X K zq zc zq2 zc2 zb zv hK;refine Ju fn98 rfl rfl fun w hH=>(l01Mod_c (by omega) hH).mono ?_;rintro _ w ⟨rfl,hH⟩;refine ⟨_,rfl,fun a hF=>JH hF hH ?_⟩;refine Jy ?_;exact hK zq zc zq2 zc2 zb zv
      ·intro gh gh' h;first | simp only [h 5 rfl,h 6 rfl] | rfl
      apply JR 10 rfl
      ·intros;conv=>lhs;simp only [Jh,reduceEqDiff,reduceAdd]
      ·
       intro gh X K zq zc zq2 zc2 zb zv hK;refine Ju fn100 rfl rfl fun w hH=>hH.lend (.s .z) fun Hl1 hle1 hA1 hB1 hH=>hH.lend .z fun Hl2 hle2 hA2 hB2 hH=>(l01Add_c ((own_terms wfO hA1).le hle2) (own_terms (by simp only [toS_ofS,addS_one];exact gt2.wf (by omega)) hA2) (by rw [toS_ofS];exact d2_sok hf9 hs hoc (by omega) k) (by simp only [toS_ofS,addS_one];exact gt2.g) (by omega) (fld_bd _) (by have h1:=dT_len ad (toS (fm af k)) (tm f i).mono k;unfold dT at h1;rw [toS_len] at h1;simp only [toS_ofS,addS_one,ofS_len];omega) hH).mono ?_;rintro _ w ⟨qo101,co101,rfl,hH⟩;replace hH:=hB2 _ _ hH;replace hH:=hB1 _ _ hH;refine ⟨_,rfl,fun a hF=>JH hF hH ?_⟩;refine Jw .z (Jw (.s .z) (Jw (.s (.s .z)) (Jy ?_)));exact hK qo101 co101 zq2 zc2 zb zv
      ·intro gh gh' h;refine ⟨?_,?_⟩ <;> (first | simp only [h 5 rfl,h 6 rfl] | rfl)
      apply EZ 11 rfl
      ·intros;conv=>lhs;simp only [Jh,reduceEqDiff,reduceAdd]
      ·
       intro gh X K hK;refine JB rfl rfl (by first | exact bytesC_one _ | exact intsC_one _ | exact Term.c_one _ | simp [Value.oneCell']) (by simpa [*] using sz40) (by simp [*]) At.z (Jy ?_);exact hK
      ·intro gh gh' h;first | simp only [h 5 rfl,h 6 rfl,h 9 rfl] | rfl
      apply JZ [0,1,2,3,4,5,6,7,8,9,10] [0,1,2,3,4,5,6,7,8,9,10,11,12,13,14,15,16,17,19,20,21,22] foll0 rfl rfl rfl (by rfl)
      iterate 2 focus (intros;(conv=>lhs;simp only [JU,Ej,Ka,El,Es,eq_self,reduceEqDiff,reduceIte,reduceSub,reduceAdd,JxA,JxB]);all_goals rfl)
      intro gh;generalize (gh 5).c=co97;generalize (gh 5).q=qo97;generalize (gh 6).c=co98;generalize (gh 6).q=qo98;generalize (gh 9).c=co101;generalize (gh 9).q=qo101;clear gh;refine JF (Ja (hK12 (Jb (Jg (Jc rfl) rfl (Jg (Jz rfl rfl (by first | exact nw _ (by omega) | rfl)) rfl (Jg (Jd rfl) rfl (Jf (Ja (JN (.s (.s (.s (.s (.s (.s (.s (.s (.s (.s (.s .z))))))))))) (JN .z (JN .z (JN (.s (.s .z)) (JN (.s (.s .z)) (JN (.s (.s .z)) (JN (.s (.s .z)) ?_)))))))))))))));refine JN (.s (.s .z)) (JN (.s (.s .z)) (Jw (.s (.s (.s (.s (.s .z))))) (Jw (.s (.s (.s (.s (.s .z))))) (Jw (.s (.s (.s (.s (.s .z))))) (Jw (.s (.s (.s .z))) (Jw (.s (.s (.s (.s .z)))) (Jw (.s (.s (.s (.s (.s .z))))) ?_)))))));exact hAg1 (qo101,co101,k+1) (by show k+1≤ad.length;omega) (by show ad.length - (k+1)<ad.length - k;omega) 63 rfl rfl ⟨rfl,trivial⟩ rfl (by simp only [toS_ofS,addS_one];rw [← acc_dP (ds:=ad) (fs:=af) (x:=((tm f i).mono,(tm f i).fac)) (k:=k) hpos,← hv];rfl)
  ·
   refine JG (Jj (Jj (JK (JF (Ja (hK7 (Jb (Jg (Jc rfl) rfl (Jg (Jz rfl rfl (by first | exact nw _ (by omega) | rfl)) rfl (Jg (Jd rfl) rfl (Jf (Ja (JN .z ?_)))))))))))));exact hAg0 (q1,c1,i+1) (by show i+1≤f.length;omega) (by show f.length - (i+1)<f.length - i;omega) 23 rfl rfl ⟨rfl,trivial⟩ rfl (by dsimp only;rw [dAll_take (by omega),← dLk_8 hn hxe,show ad.length=k by omega])
 ·
  refine JG (Jj (Jj (JK (Ja (hK3 (Je fun _ hK30 _=>(Jb (Jg (Jm rfl At.z (by simpa [*] using ag40)) rfl (JB rfl rfl (by first | exact bytesC_one _ | exact intsC_one _ | exact Term.c_one _ | simp [Value.oneCell']) (by simpa [*] using sz40) (by simp [*]) (.s (.s .z)) (Jf (Ja (hK30 (Jt (Jr rfl (Res.agg rfl (.s (.s .z)) (by simpa [*] using ag40)) fun w hH=>?_))))))))))))));replace hH:=hH.sublist (.cons _ (.cons_cons _ (.cons _ (.cons _ (.cons _ (List.Sublist.refl _))))))
  obtain rfl:i=f.length:=by omega
  rw [List.take_length] at hH ⊢;exact ⟨_,_,rfl,hH⟩
theorem fn136:Fn Tryz.prog 136:=⟨_,Tryz.func136,by kernel_rfl,rfl⟩
theorem fn54:Fn Tryz.prog 54:=⟨_,Tryz.func54,by kernel_rfl,rfl⟩
def ClF (B:World) (H0 H:HP) (g:Nat) (cap:Array Value) (S:List Term→Prop) (p:List Term→Bool):Prop:=∀(H':HP) (L:List SA) (w:World) (q:Option Addr) (c:Nat) (x:List Term),Le H H' →S x→Terms H' q x→Hp B H0 H' L w→Calls Tryz.prog g (#[]++[.agg [.slice q x.length c].toArray].toArray++cap) w fun e w'=>e = .returned (.bool (p x))∧Hp B H0 H' L w'
def idxF (xs:List (List Term)) (p:List Term→Bool):Int:=if xs.any p then (xs.findIdx p:Int) else -1
theorem fm_eq {xs:List (List Term)} {j:Nat} (hj:j<xs.length):xs[j]=fm xs j:=by simp [fm,List.getD_eq_getElem?_getD,List.getElem?_eq_getElem hj]
theorem fm_mem {xs:List (List Term)} {j:Nat} (hj:j<xs.length):fm xs j∈xs:=by rw [← fm_eq hj];exact List.getElem_mem hj
theorem idxF_hit {xs:List (List Term)} {p:List Term→Bool} {k:Nat} (hk:k<xs.length) (h : ∀j,j<k→p (fm xs j)=false) (hp:p (fm xs k)=true):idxF xs p=k:=by
 unfold idxF;have ha:xs.any p=true:=List.any_eq_true.2 ⟨xs[k],List.getElem_mem hk,by rw [fm_eq];exact hp⟩;rw [if_pos ha]
 have:xs.findIdx p=k:=by
  rw [List.findIdx_eq hk];exact ⟨by rw [fm_eq];exact hp,fun j hj=>by rw [fm_eq];exact h j hj⟩
 rw [this]
theorem idxF_miss {xs:List (List Term)} {p:List Term→Bool} (h : ∀j,j<xs.length→p (fm xs j)=false):idxF xs p = -1:=by
 unfold idxF;rw [if_neg];intro ha;obtain ⟨x,hx,hp⟩:=List.any_eq_true.1 ha;obtain ⟨j,hj,rfl⟩:=List.mem_iff_getElem.1 hx;rw [fm_eq hj,h j hj] at hp
 cases hp
theorem idxF_ge (xs:List (List Term)) (p:List Term→Bool):decide (idxF xs p≥0)=xs.any p:=by
 unfold idxF
 cases h:xs.any p with
 | true=>rw [if_pos rfl];exact decide_eq_true (by omega)
 | false=>rw [if_neg (by simp)];exact decide_eq_false (by omega)
def degOk (ds:List Int) (ts:List Term) (x:Int):Bool:=homog ds ts && (decide (degF ds ts = -1) || decide (degF ds ts=x))
def imOk (ds:List Int) (fs:List (List Term)) (i:Nat):Bool:=isForm ds (fm fs i) && degOk ds (fm fs i) (ds.getD i 0+1)
def imsOk (ds:List Int) (fs:List (List Term)):Bool:=(List.range fs.length).all (imOk ds fs)
def noD (ds:List Int) (fs:List (List Term)):Bool:=(List.range fs.length).all fun i=>decide ((dS ds fs (toS (fm fs i))).length=0)
def isAlg (ds:List Int) (fs:List (List Term)):Bool:=isDeg ds && decide (fs.length=ds.length) && imsOk ds fs && noD ds fs
theorem imsOk_bad {ds:List Int} {fs:List (List Term)} {i:Nat} (hi:i<fs.length) (h:imOk ds fs i=false):imsOk ds fs=false:=List.all_eq_false.2 ⟨i,by simpa using hi,by simp [h]⟩
theorem imsOk_good {ds:List Int} {fs:List (List Term)} (h : ∀j,j<fs.length→imOk ds fs j=true):imsOk ds fs=true:=List.all_eq_true.2 fun j hj=>h j (by simpa using hj)
theorem imsOk_at {ds:List Int} {fs:List (List Term)} (h:imsOk ds fs=true) {i:Nat} (hi:i<fs.length):imOk ds fs i=true:=List.all_eq_true.1 h i (by simpa using hi)
theorem noD_bad {ds:List Int} {fs:List (List Term)} {i:Nat} (hi:i<fs.length) (h : ¬(dS ds fs (toS (fm fs i))).length=0):noD ds fs=false:=List.all_eq_false.2 ⟨i,by simpa using hi,by simpa using h⟩
theorem noD_good {ds:List Int} {fs:List (List Term)} (h : ∀j,j<fs.length→(dS ds fs (toS (fm fs j))).length=0):noD ds fs=true:=List.all_eq_true.2 fun j hj=>by simpa using h j (by simpa using hj)
theorem isMono_le {ds m:List Int} (h:isMono ds m=true) {j:Nat} (hj:j<8):m.getD j 0≤most ds j:=by
 unfold isMono at h
 simpa using List.all_eq_true.1 h j (by simpa using hj)
theorem isMono_pok {ds m:List Int} (h:isMono ds m=true) (hm:Mono m):Pok 20 m:=⟨hm.len,fun j=>by
 have b:=hm.bd j
 rcases Nat.lt_or_ge j 8 with hj | hj
 ·have:=isMono_le h hj
  unfold most at this
  split at this
  ·split at this <;> omega
  ·omega
 ·rw [getD_ge (by rw [hm.len];omega)]
  omega⟩
theorem isMono_ex {ds m:List Int} (hd : ∀j,0≤ds.getD j 0∧ds.getD j 0≤12) (hn:ds.length≤8) (h:isMono ds m=true) (hm:Mono m):Ex ds m:=⟨fun i hi=>by
 rcases Nat.lt_or_ge i 8 with hj | hj
 ·have a:=isMono_le h hj
  have b:=(hm.bd i).1
  rw [most_ge (by omega)] at a
  omega
 ·exact getD_ge (by rw [hm.len];omega),fun i hi ho=>by
 have a:=isMono_le h (j:=i) (by omega)
 rw [most_odd (by omega) ho (hd i).1] at a
 exact a⟩
theorem isForm_at {ds:List Int} {ts:List Term} (h:isForm ds ts=true) {i:Nat} (hi:i<ts.length):goodAt ds ts i=true:=by
 unfold isForm at h;exact List.all_eq_true.1 (Bool.and_eq_true_iff.1 h).2 i (by simpa using hi)
theorem srt_of {s:Sm}:(∀i,0<i→i<s.length→before (s.getD (i - 1) ([],0)).1 (s.getD i ([],0)).1=true)→s.Pairwise fun x y=>before x.1 y.1=true:=by
 induction s with
 | nil=>intro _;exact List.Pairwise.nil
 | cons x s ih=>
  intro h
  have h2:=ih fun i h0 hi=>by
   have:=h (i+1) (by omega) (by simp;omega);simp only [Nat.add_sub_cancel,List.getD_cons_succ] at this;rw [show i=(i - 1)+1 by omega,List.getD_cons_succ] at this
   rwa [show i - 1+1=i by omega] at this
  refine List.pairwise_cons.2 ⟨fun y hy=>?_,h2⟩
  cases s with
  | nil=>simp at hy
  | cons z s=>
   have hz:before x.1 z.1=true:=by simpa using h 1 (by omega) (by simp)
   rcases List.mem_cons.1 hy with rfl | hy
   ·exact hz
   ·exact before_tr hz ((List.pairwise_cons.1 h2).1 y hy)
theorem toS_getD {ts:List Term} {i:Nat} (hi:i<ts.length):(toS ts).getD i ([],0)=((tm ts i).mono,(tm ts i).fac):=by
 simp [toS,tm,List.getD_eq_getElem?_getD,hi]
theorem isForm_sok {ds:List Int} {ts:List Term} (hw:Wfs ts) (h:isForm ds ts=true):Sok 20 (toS ts):=by
 have hg : ∀i,i<ts.length→isMono ds (tm ts i).mono=true∧(1≤(tm ts i).fac∧(tm ts i).fac≤10006)∧(i=0∨before (tm ts (i - 1)).mono (tm ts i).mono=true):=fun i hi=>by
  have:=isForm_at h hi;unfold goodAt at this
  simpa [and_assoc] using this
 refine ⟨srt_of fun i h0 hi=>?_,fun x hx=>?_,fun x hx=>?_⟩
 ·rw [toS_len] at hi;rw [toS_getD hi,toS_getD (by omega)];exact (hg i hi).2.2.resolve_left (by omega)
 ·obtain ⟨t,ht,rfl⟩:=toS_mem hx;obtain ⟨i,hi,rfl⟩:=List.mem_iff_getElem.1 ht;rw [tm_eq hi];exact isMono_pok (hg i hi).1 (hw _ (by rw [← tm_eq hi];exact ht)).mono
 ·obtain ⟨t,ht,rfl⟩:=toS_mem hx;obtain ⟨i,hi,rfl⟩:=List.mem_iff_getElem.1 ht;rw [tm_eq hi];exact (hg i hi).2.1
theorem isForm_kex {ds:List Int} {ts:List Term} (hd : ∀j,0≤ds.getD j 0∧ds.getD j 0≤12) (hn:ds.length≤8) (hw:Wfs ts) (h:isForm ds ts=true):KEx ds (toS ts):=fun x hx=>by
 obtain ⟨t,ht,rfl⟩:=toS_mem hx
 obtain ⟨i,hi,rfl⟩:=List.mem_iff_getElem.1 ht
 have:=isForm_at h hi
 unfold goodAt at this
 rw [tm_eq hi]
 exact isMono_ex hd hn (by simp at this;exact this.1.1) (hw _ (by rw [← tm_eq hi];exact ht)).mono
theorem isForm_len4 {ds:List Int} {ts:List Term} (h:isForm ds ts=true):ts.length≤400:=by
 unfold isForm at h
 simpa using (Bool.and_eq_true_iff.1 h).1
theorem Wfss.fm {fs:List (List Term)} (h:Wfss fs) (i:Nat):Wfs (G.fm fs i):=by
 rcases Nat.lt_or_ge i fs.length with hi | hi
 ·exact h _ (fm_mem hi)
 ·rw [G.fm,List.getD_eq_getElem?_getD,List.getElem?_eq_none hi];exact Wfs.nil
structure AlgOk (ds:List Int) (fs:List (List Term)):Prop where
 hn:ds.length≤8
 hd : ∀j,0≤ds.getD j 0∧ds.getD j 0≤12
 hl:fs.length=ds.length
 ok : ∀i,i<fs.length→isForm ds (fm fs i)=true
 wf:Wfss fs
theorem AlgOk.fok {ds:List Int} {fs:List (List Term)} (h:AlgOk ds fs):Fok 20 fs:=fun i hi=>⟨isForm_sok (h.wf.fm i) (h.ok i hi),by have:=isForm_len4 (h.ok i hi);omega⟩
theorem AlgOk.kex {ds:List Int} {fs:List (List Term)} (h:AlgOk ds fs) : ∀i,i<fs.length→KEx ds (toS (G.fm fs i)):=fun i hi=>isForm_kex h.hd h.hn (h.wf.fm i) (h.ok i hi)
theorem AlgOk.len {ds:List Int} {fs:List (List Term)} (h:AlgOk ds fs) : ∀i,i<fs.length→(G.fm fs i).length≤10000:=fun i hi=>by have:=isForm_len4 (h.ok i hi);omega
theorem AlgOk.of {ds:List Int} {fs:List (List Term)} (hD:isDeg ds=true) (hl:fs.length=ds.length) (hi:imsOk ds fs=true) (hw:Wfss fs):AlgOk ds fs:=⟨isDeg_len hD,isDeg_bd hD,hl,fun i h=>(Bool.and_eq_true_iff.1 (imsOk_at hi h)).1,hw⟩
theorem isAlg_ok {ds:List Int} {fs:List (List Term)} (h:isAlg ds fs=true) (hw:Wfss fs):AlgOk ds fs:=by
 unfold isAlg at h;simp only [Bool.and_eq_true,decide_eq_true_eq] at h;exact AlgOk.of h.1.1.1 h.1.1.2 h.1.2 hw
theorem degF_neg {ds:List Int} {ts:List Term} (hn:ds.length≤8) (hd : ∀j,0≤ds.getD j 0∧ds.getD j 0≤12) (hw:Wfs ts) (hh:homog ds ts=true):degF ds ts = -1↔¬(0<ts.length):=by
 unfold degF outAt;rw [hh,if_pos rfl]
 by_cases e:ts.length=0
 ·rw [if_pos e];omega
 ·rw [if_neg e];have:=wd_bd (i:=0) (ts:=ts) hn hd (hw _ (by rw [← tm_eq (by omega)];exact List.getElem_mem (by omega))).mono
  omega
theorem IndexFuncF_c {B:World} {H0 H:HP} {L:List SA} {w:World} {qxs:Option Addr} {cxs:Nat} {xs:List (List Term)} {gp:Nat} {capp:Array Value} {Sp:List Term→Prop} {p:List Term→Bool} (hxs:Forms H qxs xs) (hgp:Fn Tryz.prog gp) (hp:ClF B H0 H gp capp Sp p) (hn:xs.length≤9223372036854775807) (hS : ∀i,i<xs.length→Sp (fm xs i)) (hH:Hp B H0 H L w):Calls Tryz.prog 136 [.slice qxs xs.length cxs,.func (.func gp) #[] capp].toArray w fun e w'=>e = .returned (.int .i64 (idxF xs p))∧Hp B H0 H L w':=by
 refine Jx Tryz.func136 rfl 19 rfl rfl [(0,.slice qxs xs.length cxs),(1,.func (.func gp) #[] capp)] rfl hH ?_;clear hH;refine Je fun _ hK1 _=>(Jb (Jg (Jd rfl) rfl (Jf (Ja (hK1 (Je fun _ hK2 _=>(Je fun _ hK3 _=>(Jb (Jg (Jc rfl) rfl (Jg (Jo u34 rfl rfl) rfl (Jg (Jc rfl) rfl (Jf (Ja (hK3 (Jp (JD (σ:=Nat) (fun (k:Nat)=>[(8,.int .i64 (k:Int))]) (fun (k:Nat)=>H) (fun (k:Nat)=>L) (fun (k:Nat)=>k≤xs.length∧∀j,j<k→p (fm xs j)=false) (fun (k:Nat)=>xs.length - k) 0 ⟨by omega,fun j hj=>by omega⟩ ⟨rfl,trivial⟩ rfl rfl ?_))))))))))))))));rintro k hI _ hAg0;have hk:=hI.1;refine Je fun _ hK4 _=>(Jb (Jg (JJ rfl rfl) rfl (Jf (Ja (hK4 (Je fun _ hK5 _=>(Jq rfl (fun hc9=>?_) (fun hc9=>?_))))))))
 ·
  refine Jn (Ja (hK5 (Je fun _ hK6 _=>(Jp (Je fun _ hK7 _=>(Jb (Jg (Jc rfl) rfl (Jg (Jd rfl) rfl (Jf (Ja (hK7 (Je fun _ hK8 _=>(Jb (Jg (Jc rfl) rfl (Jg (Jc rfl) rfl (Jg (Jc rfl) rfl ?_))))))))))))))));refine Jg (JL u34 sz40 rfl rfl rfl (by omega) hxs.sm) rfl ?_;obtain ⟨qe15,ce15,he15,le15,Fe15⟩:=hxs k (by omega);refine Jg (JM (cs:=[_]) rfl (one_cell he15) (hxs.sm (i:=k) (by omega)) ag40) rfl (J.callV hgp rfl rfl rfl fun w hH=>(hp _ _ w _ _ _ (Le.refl _) (hS _ (by omega)) Fe15 hH).mono ?_);rintro _ w ⟨rfl,hH⟩;refine ⟨_,rfl,fun a hF=>JH hF hH ?_⟩;refine Jf (Ja (hK8 (Ei rfl (fun h16=>?_) (fun h16=>?_))))
  ·
   refine Je fun _ hK9 _=>(Jb (Jg (Jc rfl) rfl (Jg (Jd rfl) rfl (Jf (Ja (hK9 (Jt (JO (Jk (Jk (JO (Jk (Jr rfl (Res.tmp rfl) fun w hH=>?_)))))))))))));exact ⟨ri (idxF_hit (by omega) hI.2 h16).symm,hH⟩
  ·
   refine Jn (JF (Ja (hK6 (Jb (Jg (Jz rfl rfl (by first | exact nw _ (by omega) | rfl)) rfl (Jg (Jc rfl) rfl (Jf (Ja ?_))))))));exact hAg0 (k+1) ⟨by omega,upto hI.2 h16⟩ (by omega) 12 rfl rfl ⟨rfl,trivial⟩ rfl rfl
 ·
  refine JG (Jj (Jj (JK (Ja (hK2 (Je fun _ hK10 _=>(Jb (Jg (Jd rfl) rfl (Jf (Ja (hK10 (Jt (Jr rfl (Res.tmp rfl) fun w hH=>?_)))))))))))));exact ⟨ri (idxF_miss (fun j hj=>hI.2 j (by omega))).symm,hH⟩
theorem ContainsFuncF_c {B:World} {H0 H:HP} {L:List SA} {w:World} {qxs:Option Addr} {cxs:Nat} {xs:List (List Term)} {gp:Nat} {capp:Array Value} {Sp:List Term→Prop} {p:List Term→Bool} (hxs:Forms H qxs xs) (hgp:Fn Tryz.prog gp) (hp:ClF B H0 H gp capp Sp p) (hn:xs.length≤9223372036854775807) (hS : ∀i,i<xs.length→Sp (fm xs i)) (hH:Hp B H0 H L w):Calls Tryz.prog 104 [.slice qxs xs.length cxs,.func (.func gp) #[] capp].toArray w fun e w'=>e = .returned (.bool (xs.any p))∧Hp B H0 H L w':=by
 refine Jx Tryz.func104 rfl 9 rfl rfl [(0,.slice qxs xs.length cxs),(1,.func (.func gp) #[] capp)] rfl hH ?_;clear hH;refine Je fun _ hK1 _=>(Jb (Jg (Jd rfl) rfl (Jf (Ja (hK1 (Je fun _ hK2 _=>(Jb (Jg (Jc rfl) rfl (Jg (Jc rfl) rfl (Ju fn136 rfl rfl fun w hH=>(IndexFuncF_c hxs hgp hp (by omega) hS hH).mono ?_))))))))));rintro _ w ⟨rfl,hH⟩;refine ⟨_,rfl,fun a hF=>JH hF hH ?_⟩;refine Jg (PR.geq rfl rfl) rfl (Jg (Jd rfl) rfl (Jf (Ja (hK2 (Jt (Jr rfl (Res.tmp rfl) fun w hH=>?_))))));exact ⟨rb (idxF_ge xs p),hH⟩
theorem isOfDegree_c {B:World} {H0 H:HP} {L:List SA} {w:World} {qds:Option Addr} {cds:Nat} {ds:List Int} {qts:Option Addr} {cts:Nat} {ts:List Term} {x:Int} (hds:Ints H qds ds) (hts:Terms H qts ts) (hn:ds.length≤8) (hd : ∀j,0≤ds.getD j 0∧ds.getD j 0≤12) (hl:ts.length≤9223372036854775807) (hH:Hp B H0 H L w):Calls Tryz.prog 134 [.slice qds ds.length cds,.agg [.slice qts ts.length cts].toArray,.int .i64 x].toArray w fun e w'=>e = .returned (.bool (degOk ds ts x))∧Hp B H0 H L w':=by
 refine Jx Tryz.func134 rfl 25 rfl rfl [(0,.slice qds ds.length cds),(1,.agg [.slice qts ts.length cts].toArray),(2,.int .i64 x)] rfl hH ?_;clear hH;refine Je fun _ hK1 _=>(Jb (JW rfl rfl rfl fun g4=>(Jg (Jd rfl) rfl (Jf (Ja (hK1 (Je fun _ hK2 _=>(Jb (Jg (Jc rfl) rfl (Jg (Jm rfl At.z (by simpa [*] using ag40)) rfl (Ju fn54 rfl rfl fun w hH=>(degreeOf_c hds hts hn hd (by omega) hH).mono ?_)))))))))));rintro _ w ⟨rfl,hH⟩;refine ⟨_,rfl,fun a hF=>JH hF hH ?_⟩;refine Jg (Jc rfl) rfl (Jg (JI rfl rfl) rfl (Jg (JI rfl rfl) rfl (Jg (Jd rfl) rfl (Jg (Jd rfl) rfl (Jf (Ja (hK2 (Je fun _ hK3 _=>(Jb (Jg (Jc rfl) rfl (Jg (Jc rfl) rfl (Ek (jd:=16) rfl (fun hg16=>?_) (fun hg16=>?_)))))))))))))
 ·
  try have hg16p:=of_decide_eq_true hg16
  refine JV (Jc rfl) rfl rfl rfl hg16 (JV (EL rfl rfl) rfl rfl rfl hg16 (JV (Jc rfl) rfl rfl rfl hg16 (Ek (jd:=19) rfl (fun hg19=>?_) (fun hg19=>?_))))
  ·
   try have hg19p:=of_decide_eq_true hg19
   refine JQ rfl rfl rfl hg19 (JQ rfl rfl rfl hg19 (JQ rfl rfl rfl hg19 (JV (JY rfl hg19 rfl) rfl rfl rfl hg16 (Jg (JY rfl hg16 rfl) rfl (Jg (Jd rfl) rfl (Jf (Ja (hK3 (Jt (Jr rfl (Res.tmp rfl) fun w hH=>?_))))))))));replace hH:=hH.tail;exact ⟨rb (by unfold degOk;rw [hg16,hg19];rfl),hH⟩
  ·
   try have hg19p:=of_decide_eq_false hg19
   refine JV (Jc rfl) rfl rfl rfl hg19 (JV (Jc rfl) rfl rfl rfl hg19 (JV (EL rfl rfl) rfl rfl rfl hg19 (JV (JX rfl hg19 rfl) rfl rfl rfl hg16 (Jg (JY rfl hg16 rfl) rfl (Jg (Jd rfl) rfl (Jf (Ja (hK3 (Jt (Jr rfl (Res.tmp rfl) fun w hH=>?_))))))))));replace hH:=hH.tail;exact ⟨rb (by unfold degOk;rw [hg16,hg19];simp),hH⟩
 ·
  try have hg16p:=of_decide_eq_false hg16
  refine JQ rfl rfl rfl hg16 (JQ rfl rfl rfl hg16 (JQ rfl rfl rfl hg16 (J.gu rfl rfl rfl (J.gu rfl rfl rfl (J.gu rfl rfl rfl (JQ rfl rfl rfl hg16 (Jg (JX rfl hg16 rfl) rfl (Jg (Jd rfl) rfl (Jf (Ja (hK3 (Jt (Jr rfl (Res.tmp rfl) fun w hH=>?_)))))))))))));replace hH:=hH.tail;exact ⟨rb (by unfold degOk;rw [hg16];rfl),hH⟩
theorem ag36:Agg Tryz.prog 36 2:=⟨_,u36,rfl,by kernel_rfl⟩
theorem fn104:Fn Tryz.prog 104:=⟨_,Tryz.func104,by kernel_rfl,rfl⟩
theorem fn106:Fn Tryz.prog 106:=⟨_,Tryz.func106,by kernel_rfl,rfl⟩
theorem fn109:Fn Tryz.prog 109:=⟨_,Tryz.func109,by kernel_rfl,rfl⟩
theorem fn115:Fn Tryz.prog 115:=⟨_,Tryz.func115,by kernel_rfl,rfl⟩
theorem fn133:Fn Tryz.prog 133:=⟨_,Tryz.func133,by kernel_rfl,rfl⟩
theorem fn134:Fn Tryz.prog 134:=⟨_,Tryz.func134,by kernel_rfl,rfl⟩
theorem fn135:Fn Tryz.prog 135:=⟨_,Tryz.func135,by kernel_rfl,rfl⟩
theorem fn91:Fn Tryz.prog 91:=⟨_,Tryz.func91,by kernel_rfl,rfl⟩
theorem fn92:Fn Tryz.prog 92:=⟨_,Tryz.func92,by kernel_rfl,rfl⟩
theorem fn93:Fn Tryz.prog 93:=⟨_,Tryz.func93,by kernel_rfl,rfl⟩
theorem imOk_yes {ds:List Int} {fs:List (List Term)} {i:Nat} (h1:isForm ds (fm fs i)=true) (h2:homog ds (fm fs i)=true) (h3:degF ds (fm fs i) = -1∨degF ds (fm fs i)=ds.getD i 0+1):imOk ds fs i=true:=by
 unfold imOk degOk;rw [h1,h2]
 rcases h3 with h | h <;> rw [decide_eq_true h] <;> simp
theorem imOk_no1 {ds:List Int} {fs:List (List Term)} {i:Nat} (h1:isForm ds (fm fs i)=false):imOk ds fs i=false:=by unfold imOk;rw [h1];rfl
theorem imOk_no2 {ds:List Int} {fs:List (List Term)} {i:Nat} (h1:homog ds (fm fs i)=false):imOk ds fs i=false:=by unfold imOk degOk;rw [h1];simp
theorem imOk_no3 {ds:List Int} {fs:List (List Term)} {i:Nat} (h1 : ¬degF ds (fm fs i) = -1) (h2 : ¬degF ds (fm fs i)=ds.getD i 0+1):imOk ds fs i=false:=by unfold imOk degOk;rw [decide_eq_false h1,decide_eq_false h2];simp
theorem l02Is_c {B:World} {H0 H:HP} {L:List SA} {w:World} {qad qaf:Option Addr} {cad caf:Nat} {ad:List Int} {af:List (List Term)} (had:Ints H qad ad) (haf:Forms H qaf af) (hn8:ad.length≤1048576) (hn9:af.length≤1048576) (hl9 : ∀i,i<af.length→(fm af i).length≤1048576) (hH:Hp B H0 H L w):Calls Tryz.prog 63 [.agg [.slice qad ad.length cad,.slice qaf af.length caf].toArray].toArray w fun e w'=>e = .returned (.bool (isAlg ad af))∧Hp B H0 H L w':=by
 refine Jx Tryz.func63 rfl 86 rfl rfl [(0,.agg [.slice qad ad.length cad,.slice qaf af.length caf].toArray)] rfl hH ?_;clear hH;refine Je fun _ hK1 _=>(Jb (JW rfl rfl rfl fun g1=>(Jg (Jd rfl) rfl (Jf (Ja (hK1 (Je fun _ hK2 _=>(Je fun _ hK3 _=>(Jb (Jg (Jl u36 rfl sz22 rfl) rfl (Jg (Js rfl At.z rfl pl22) rfl (Ju fn115 rfl rfl fun w hH=>(l01Degrees_c had (by omega) hH).mono ?_))))))))))));rintro _ w ⟨rfl,hH⟩;refine ⟨_,rfl,fun a hF=>JH hF hH ?_⟩;refine Jg (Em rfl) rfl (Jg (Jc rfl) rfl (Ek (jd:=11) rfl (fun hg11=>?_) (fun hg11=>?_)))
 ·
  try have hg11p:=of_decide_eq_true hg11
  refine JQ rfl rfl rfl hg11 (JQ rfl rfl rfl hg11 (JQ rfl rfl rfl hg11 (JQ rfl rfl rfl hg11 (JQ rfl rfl rfl hg11 (JQ rfl rfl rfl hg11 (JQ rfl rfl rfl hg11 (Jg (JY rfl hg11 rfl) rfl (Jf (Ja (hK3 (Ew rfl (Je fun _ hK4 _=>(Jb (Jg (Jd rfl) rfl (Jf ?_)))))))))))))));refine Ja (hK4 (Jt (Jk (Jr rfl (Res.tmp rfl) fun w hH=>?_))));replace hH:=hH.tail;exact ⟨rb (by unfold isAlg;rw [show isDeg ad=false by simpa using hg11];rfl),hH⟩
 ·
  try have hg11p:=of_decide_eq_false hg11
  refine JV (Jl u36 rfl sz34 rfl) rfl rfl rfl hg11 (JV (Js rfl At.z rfl pl34) rfl rfl rfl hg11 (JV (Jo u34 rfl rfl) rfl rfl rfl hg11 (JV (Jl u36 rfl sz22 rfl) rfl rfl rfl hg11 (JV (Js rfl At.z rfl pl22) rfl rfl rfl hg11 (JV (Jo u22 rfl rfl) rfl rfl rfl hg11 (JV (Eo rfl rfl) rfl rfl rfl hg11 (Jg (JX rfl hg11 rfl) rfl (Jf (Ja (hK3 (Jq rfl (fun hc19=>?_) (fun hc19=>?_))))))))))))
  ·
   refine Je fun _ hK5 _=>(Jb (Jg (Jd rfl) rfl (Jf (Ja (hK5 (Jt (Jk (Jr rfl (Res.tmp rfl) fun w hH=>?_))))))));replace hH:=hH.tail;exact ⟨rb (by unfold isAlg;rw [decide_eq_false (show ¬af.length=ad.length by omega)];simp),hH⟩
  ·
   have hD:isDeg ad=true:=by simpa using hg11
   have hn:=isDeg_len hD;have hd:=isDeg_bd hD
   have hlen:af.length=ad.length:=by omega
   have hpos9 : ∀j,j<ad.length→0≤ad.getD j 0:=fun j _=>(hd j).1;refine Jn (Ja (hK2 (Je fun _ hK6 _=>(Je fun _ hK7 _=>(Jb (Jg (Jd rfl) rfl (Jf (Ja (hK7 (Jp (JD (σ:=Nat) (fun (i:Nat)=>[(3,.int .i64 (i:Int))]) (fun (i:Nat)=>H) (fun (i:Nat)=>obj g1 (.cells [.slice qad ad.length cad,.slice qaf af.length caf].toArray 36 (0,0))::L) (fun (i:Nat)=>i≤af.length∧∀j,j<i→imOk ad af j=true) (fun (i:Nat)=>af.length - i) 0 ⟨by omega,fun j hj=>by omega⟩ ⟨rfl,trivial⟩ rfl rfl ?_)))))))))));rintro i ⟨hi,hI⟩ _ hAg0;refine Je fun _ hK8 _=>(Je fun _ hK9 _=>(Jb (Jg (Jc rfl) rfl (Jg (Jl u36 rfl sz34 rfl) rfl (Jg (Js rfl At.z rfl pl34) rfl (Jg (Jo u34 rfl rfl) rfl (Jg (JJ rfl rfl) rfl (Jf (Ja (hK9 (Jq rfl (fun hc24=>?_) (fun hc24=>?_))))))))))))
   ·
    have hl0:=hl9 i (by omega);have hdi:=hd i;refine Jn (Ja (hK8 (Je fun _ hK10 _=>(Jp (Je fun _ hK11 _=>(Je fun _ hK12 _=>(Er [[], [0], [], [2], [], [3,4], [5]] (by kernel_rfl) (JA (fun gh=>Jl u36 rfl sz22 rfl) (JA (fun gh=>Js rfl At.z rfl pl22) (JA (fun gh=>Jl u36 rfl sz34 rfl) (JA (fun gh=>Js rfl At.z rfl pl34) (JA (fun gh=>Jc rfl) (JA (fun gh=>JL u34 sz40 rfl rfl rfl (by omega) haf.sm) ?_)))))))))))));obtain ⟨qe33,ce33,he33,le33,Fe33⟩:=haf i (by omega);refine JA (fun gh=>JM (cs:=[_]) rfl (one_cell he33) (haf.sm (i:=i) (by omega)) ag40) (Ec 7 1 foll0 (by kernel_rfl) rfl rfl fun gh=>(En (us':=(27,_)::(28,_)::(29,_)::(30,_)::(31,_)::(32,_)::(33,_)::_) (L':=_) rfl rfl (Ju fn91 rfl rfl fun w hH=>(l01Is_c had Fe33 (by omega) hpos9 (by omega) hH).mono ?_)));rintro _ w ⟨rfl,hH⟩;refine ⟨_,rfl,fun a hF=>JH hF hH ?_⟩;refine Jf (Eb (JC (Em rfl) rfl (Ed (Ja (hK12 (Ei rfl (fun h35=>?_) (fun h35=>?_)))))))
    ·
     refine Je fun _ hK13 _=>(Jb (Jg (Jd rfl) rfl (Jf (Ja (hK13 (Jt (Jk (JO (Jk (Jk (JO (Jk (Jr rfl (Res.tmp rfl) fun w hH=>?_)))))))))))));replace hH:=hH.tail;exact ⟨rb (by unfold isAlg;rw [imsOk_bad (i:=i) (by omega) (imOk_no1 (by simpa using h35))];simp),hH⟩
    ·
     have hfo:isForm ad (fm af i)=true:=by simpa using h35
     refine Jn (Ja (hK11 (Je fun _ hK14 _=>(Er [[], [0], [], [2], [], [3,4], [5]] (by kernel_rfl) (JA (fun gh=>Jl u36 rfl sz22 rfl) (JA (fun gh=>Js rfl At.z rfl pl22) (JA (fun gh=>Jl u36 rfl sz34 rfl) (JA (fun gh=>Js rfl At.z rfl pl34) (JA (fun gh=>Jc rfl) (JA (fun gh=>JL u34 sz40 rfl rfl rfl (by omega) haf.sm) ?_))))))))));obtain ⟨qe43,ce43,he43,le43,Fe43⟩:=haf i (by omega);refine JA (fun gh=>JM (cs:=[_]) rfl (one_cell he43) (haf.sm (i:=i) (by omega)) ag40) (Ec 7 1 foll0 (by kernel_rfl) rfl rfl fun gh=>(En (us':=(37,_)::(38,_)::(39,_)::(40,_)::(41,_)::(42,_)::(43,_)::_) (L':=_) rfl rfl (Ju fn92 rfl rfl fun w hH=>(l01Degree_c had Fe43 hn hd (by omega) hH).mono ?_)));rintro _ w ⟨rfl,hH⟩;refine ⟨_,rfl,fun a hF=>JH hF hH ?_⟩;refine Jf (Eb (JC (Jc rfl) rfl (JC (JI rfl rfl) rfl (JC (JI rfl rfl) rfl (JC (Jd rfl) rfl (JC (Jd rfl) rfl (Ed (Ja (hK14 (Je fun _ hK15 _=>(Jb (Jg (Jc rfl) rfl (Jg (Em rfl) rfl (Jg (Jc rfl) rfl (Ek (jd:=49) rfl (fun h49=>?_) (fun h49=>?_))))))))))))))))
     ·
      try have h49p:=of_decide_eq_true h49
      refine JQ rfl rfl rfl h49 (JQ rfl rfl rfl h49 (JQ rfl rfl rfl h49 (JQ rfl rfl rfl h49 (JQ rfl rfl rfl h49 (JQ rfl rfl rfl h49 (JQ rfl rfl rfl h49 (JQ rfl rfl rfl h49 (JQ rfl rfl rfl h49 (J.gu rfl rfl rfl (J.gu rfl rfl rfl (J.gu rfl rfl rfl (J.gu rfl rfl rfl (J.gu rfl rfl rfl (J.gu rfl rfl rfl ?_))))))))))))));refine J.gu rfl rfl rfl (J.gu rfl rfl rfl (JQ rfl rfl rfl h49 (Jg (JY rfl h49 rfl) rfl (Jf (Ja (hK15 (Ew rfl (Je fun _ hK16 _=>(Jb (Jg (Jd rfl) rfl (Jf (Ja (hK16 (Jt (JO (Jk ?_))))))))))))))));refine Jk (JO (Jk (Jr rfl (Res.tmp rfl) fun w hH=>?_)));replace hH:=hH.tail;exact ⟨rb (by unfold isAlg;rw [imsOk_bad (i:=i) (by omega) (imOk_no2 (by simpa using h49))];simp),hH⟩
     ·
      try have h49p:=of_decide_eq_false h49
      refine JV (Jl u36 rfl sz34 rfl) rfl rfl rfl h49 (JV (Js rfl At.z rfl pl34) rfl rfl rfl h49 (JV (Jc rfl) rfl rfl rfl h49 (JV (JL u34 sz40 rfl rfl rfl (by omega) haf.sm) rfl rfl rfl h49 (JV (EM u40 rfl sz38 rfl (haf.sm (i:=i) (by omega))) rfl rfl rfl h49 ?_))));obtain ⟨qe55,ce55,he55,le55,Fe55⟩:=haf i (by omega);refine JV (JE rfl he55 pl38) rfl rfl rfl h49 (JV (Jo u38 rfl rfl) rfl rfl rfl h49 (JV (EK rfl rfl) rfl rfl rfl h49 (JV (Jc rfl) rfl rfl rfl h49 (Ek (jd:=58) rfl (fun h58=>?_) (fun h58=>?_)))))
      ·
       try have h58p:=of_decide_eq_true h58
       refine JV (Jc rfl) rfl rfl rfl h58 (JV (Jl u36 rfl sz22 rfl) rfl rfl rfl h58 (JV (Js rfl At.z rfl pl22) rfl rfl rfl h58 (JV (Jc rfl) rfl rfl rfl h58 (JV (JL u22 sz2 rfl rfl rfl (by omega) had.sm) rfl rfl rfl h58 (JV (JE rfl (had _ (by omega)) pl2) rfl rfl rfl h58 (JV (Jz rfl rfl (by first | exact nw _ (by omega) | rfl)) rfl rfl rfl h58 (JV (Eo rfl rfl) rfl rfl rfl h58 (JV (JY rfl h58 rfl) rfl rfl rfl h49 (Jg (JX rfl h49 rfl) rfl (Jf (Ja (hK15 (Jq rfl (fun h68=>?_) (fun h68=>?_))))))))))))))
       ·
        refine Je fun _ hK17 _=>(Jb (Jg (Jd rfl) rfl (Jf (Ja (hK17 (Jt (JO (Jk (Jk (JO (Jk (Jr rfl (Res.tmp rfl) fun w hH=>?_))))))))))));replace hH:=hH.tail;exact ⟨rb (by unfold isAlg;rw [imsOk_bad (i:=i) (by omega) (imOk_no3 (fun e=>(degF_neg hn hd (haf.wfss.fm i) (by simpa using h49)).1 e (by omega)) h68)];simp),hH⟩
       ·
        refine Jn (JF (Ja (hK10 (Jb (Jg (Jc rfl) rfl (Jg (Jz rfl rfl (by first | exact nw _ (by omega) | rfl)) rfl (Jg (Jd rfl) rfl (Jf (Ja ?_)))))))));exact hAg0 (i+1) ⟨by omega,upto hI (imOk_yes hfo (by simpa using h49) (.inr (Decidable.not_not.1 h68)))⟩ (by omega) 53 rfl rfl ⟨rfl,trivial⟩ rfl rfl
      ·
       try have h58p:=of_decide_eq_false h58
       refine JQ rfl rfl rfl h58 (JQ rfl rfl rfl h58 (JQ rfl rfl rfl h58 (JQ rfl rfl rfl h58 (JQ rfl rfl rfl h58 (JQ rfl rfl rfl h58 (JQ rfl rfl rfl h58 (JQ rfl rfl rfl h58 (JV (JX rfl h58 rfl) rfl rfl rfl h49 (Jg (JX rfl h49 rfl) rfl (Jf (Ja (hK15 (EE rfl (Jn (JF ?_)))))))))))))));refine Ja (hK10 (Jb (Jg (Jc rfl) rfl (Jg (Jz rfl rfl (by first | exact nw _ (by omega) | rfl)) rfl (Jg (Jd rfl) rfl (Jf (Ja ?_)))))));exact hAg0 (i+1) ⟨by omega,upto hI (imOk_yes hfo (by simpa using h49) (.inl ((degF_neg hn hd (haf.wfss.fm i) (by simpa using h49)).2 (by omega))))⟩ (by omega) 53 rfl rfl ⟨rfl,trivial⟩ rfl rfl
   ·
    have hM9:=imsOk_good (ds:=ad) (fs:=af) (fun j hj=>hI j (by omega));have hA:=AlgOk.of hD hlen hM9 haf.wfss;refine JG (Jj (Jj (JK (Ja (hK6 (Je fun _ hK18 _=>(Je fun _ hK19 _=>(Jb (Jg (Jd rfl) rfl (Jf (Ja (hK19 (Jp (JD (σ:=Nat) (fun (k:Nat)=>[(6,.int .i64 (k:Int))]) (fun (k:Nat)=>H) (fun (k:Nat)=>obj g1 (.cells [.slice qad ad.length cad,.slice qaf af.length caf].toArray 36 (0,0))::L) (fun (k:Nat)=>k≤af.length∧∀j,j<k→(dS ad af (toS (fm af j))).length=0) (fun (k:Nat)=>af.length - k) 0 ⟨by omega,fun j hj=>by omega⟩ ⟨rfl,trivial⟩ rfl rfl ?_))))))))))))));rintro k ⟨hk,hJ⟩ _ hAg1;refine Je fun _ hK20 _=>(Je fun _ hK21 _=>(Jb (Jg (Jc rfl) rfl (Jg (Jl u36 rfl sz34 rfl) rfl (Jg (Js rfl At.z rfl pl34) rfl (Jg (Jo u34 rfl rfl) rfl (Jg (JJ rfl rfl) rfl (Jf (Ja (hK21 (Jq rfl (fun h73=>?_) (fun h73=>?_))))))))))))
    ·
     have hkl:k<af.length:=by omega
     refine Jn (Ja (hK20 (Je fun _ hK22 _=>(Jp (Je fun _ hK23 _=>(Er [[], [], [1], [], [2,3], [4]] (by kernel_rfl) (JA (fun gh=>Jm rfl At.z (by simpa [*] using ag36)) (JA (fun gh=>Jl u36 rfl sz34 rfl) (JA (fun gh=>Js rfl At.z rfl pl34) (JA (fun gh=>Jc rfl) (JA (fun gh=>JL u34 sz40 rfl rfl rfl (by omega) haf.sm) ?_)))))))))));obtain ⟨qe81,ce81,he81,le81,Fe81⟩:=haf k (by omega);refine JA (fun gh=>JM (cs:=[_]) rfl (one_cell he81) (haf.sm (i:=k) (by omega)) ag40) (Ec 6 1 foll0 (by kernel_rfl) rfl rfl fun gh=>(En (us':=(76,_)::(77,_)::(78,_)::(79,_)::(80,_)::(81,_)::_) (L':=_) rfl rfl (Ju fn93 rfl rfl fun w hH=>(l02D_c had haf Fe81 hn hd hA.fok hA.hl hA.kex (hA.fok k hkl).1 (hA.kex k hkl) (by omega) hA.len (hA.len k hkl) hH).mono ?_)));rintro _ w ⟨qo82,co82,rfl,hH⟩;refine ⟨_,rfl,fun a hF=>JH hF hH ?_⟩;refine Jf (Eb (JC (PR.fieldV u40 rfl pl38 rfl rfl) rfl (JC (Jo u38 rfl rfl) rfl (JC (EK rfl rfl) rfl (Ed (Ja (hK23 (Jq rfl (fun h85=>?_) (fun h85=>?_)))))))))
     ·
      refine Je fun _ hK24 _=>(Jb (Jg (Jd rfl) rfl (Jf (Ja (hK24 (Jt (JO (Jk (Jk (JO (Jk (Jr rfl (Res.tmp rfl) fun w hH=>?_))))))))))));replace hH:=hH.tail;replace hH:=hH.tail;exact ⟨rb (by unfold isAlg;rw [noD_bad (i:=k) (by omega) (by rw [ofS_len] at h85;omega)];simp),hH⟩
     ·
      refine Jn (JF (Ja (hK22 (Jb (Jg (Jc rfl) rfl (Jg (Jz rfl rfl (by first | exact nw _ (by omega) | rfl)) rfl (Jg (Jd rfl) rfl (Jf (Ja (JN .z ?_))))))))));exact hAg1 (k+1) ⟨by omega,upto hJ (by rw [ofS_len] at h85;omega)⟩ (by omega) 19 rfl rfl ⟨rfl,trivial⟩ rfl rfl
    ·
     refine JG (Jj (Jj (JK (Ja (hK18 (Je fun _ hK25 _=>(Jb (Jg (Jd rfl) rfl (Jf (Ja (hK25 (Jt (Jr rfl (Res.tmp rfl) fun w hH=>?_)))))))))))));replace hH:=hH.tail;exact ⟨rb (by unfold isAlg;rw [hD,decide_eq_true hlen,hM9,noD_good (fun j hj=>hJ j (by omega))];rfl),hH⟩
def noDf (ds:List Int) (fs:List (List Term)) (ts:List Term):Bool:=decide ((dS ds fs (toS ts)).length>0)
theorem noD_any {ds:List Int} {fs:List (List Term)}:noD ds fs = !(fs.any (noDf ds fs)):=by
 cases h:fs.any (noDf ds fs) with
 | true=>
  obtain ⟨x,hx,hp⟩:=List.any_eq_true.1 h;obtain ⟨j,hj,rfl⟩:=List.mem_iff_getElem.1 hx;rw [fm_eq hj] at hp;rw [noD_bad hj (by unfold noDf at hp;have:=of_decide_eq_true hp;omega)]
  rfl
 | false=>
  rw [noD_good fun j hj=>by
   have:=List.any_eq_false.1 h _ (fm_mem hj);unfold noDf at this;rw [decide_eq_true_eq] at this
   omega]
  rfl
theorem IsAlgebra1_c {B:World} {H0 H:HP} {L:List SA} {w:World} {qts:Option Addr} {cts:Nat} {ts:List Term} {ba:Nat} {qad qaf:Option Addr} {cad caf:Nat} {ad:List Int} {af:List (List Term)} {Mi Ms:Int} (hts:Terms H qts ts) (pad:CellAt H ba 0 (.slice qad ad.length cad)) (paf:CellAt H ba 1 (.slice qaf af.length caf)) (had:Ints H qad ad) (haf:Forms H qaf af) (hn:ad.length≤8) (hd : ∀j,0≤ad.getD j 0∧ad.getD j 0≤12) (hf:Fok Mi af) (hl:af.length=ad.length) (hs:Sok Ms (toS ts)) (ho:Occ af.length (toS ts)) (hM:0≤Mi∧Ms+Mi+Ms≤1000000) (hll:ts.length≤1000000000) (hH:Hp B H0 H L w):Calls Tryz.prog 135 [.agg [.slice qts ts.length cts].toArray,.pointer (some ⟨ba,0,none⟩)].toArray w fun e w'=>e = .returned (.bool (noDf ad af ts))∧Hp B H0 H L w':=by
 refine Jx Tryz.func135 rfl 9 rfl rfl [(0,.agg [.slice qts ts.length cts].toArray),(1,.pointer (some ⟨ba,0,none⟩))] rfl hH ?_;clear hH;refine Je fun _ hK1 _=>(Jb (JW rfl rfl rfl fun g2=>(Jg (Jd rfl) rfl (Jf (Ja (hK1 (Je fun _ hK2 _=>(Jb (Jg (Jm rfl At.z (by simpa [*] using ag40)) rfl (Ju fn57 rfl rfl fun w hH=>(sumOf_c hts hs (by omega) hH).mono ?_))))))))));rintro _ w ⟨bo5,rfl,hH⟩;refine ⟨_,rfl,fun a hF=>JH hF hH ?_⟩;refine Ju fn109 rfl rfl fun w hH=>hH.lend .z fun Hl1 hle1 hA1 hB1 hH=>(d_c (pad.le hle1) (paf.le hle1) (had.le hle1) (haf.le hle1) (omap_H hA1) hs hn hd hf hl ho hM hH).mono ?_;rintro _ w ⟨bo6,rfl,hH⟩;replace hH:=hB1 _ _ hH;refine ⟨_,rfl,fun a hF=>JH hF hH ?_⟩;refine Jg (PR.lenO u92 rfl (.s .z) rfl) rfl (Jg (EK rfl rfl) rfl (Jg (Jd rfl) rfl (Jf (Ja (hK2 (Jt (Jr rfl (Res.tmp rfl) fun w hH=>?_)))))));replace hH:=hH.tail;replace hH:=hH.tail;replace hH:=hH.tail;exact ⟨rb (by unfold noDf;exact decide_eq_decide.2 (by omega)),hH⟩
theorem IsAlgebra_c {B:World} {H0 H:HP} {L:List SA} {w:World} {qad qaf:Option Addr} {cad caf:Nat} {ad:List Int} {af:List (List Term)} (had:Ints H qad ad) (haf:Forms H qaf af) (hn8:ad.length≤1048576) (hn9:af.length≤1048576) (hl9 : ∀i,i<af.length→(fm af i).length≤1048576) (hH:Hp B H0 H L w):Calls Tryz.prog 103 [.agg [.slice qad ad.length cad,.slice qaf af.length caf].toArray].toArray w fun e w'=>e = .returned (.bool (isAlg ad af))∧Hp B H0 H L w':=by
 refine Jx Tryz.func103 rfl 50 rfl rfl [(0,.agg [.slice qad ad.length cad,.slice qaf af.length caf].toArray)] rfl hH ?_;have hw0:=hH.old;have hw1:=hH.le;clear hH;refine Je fun _ hK1 _=>(Jb (JW rfl rfl rfl fun g1=>(Jg (Jd rfl) rfl (Jf (Ja (hK1 (Je fun _ hK2 _=>(Je fun _ hK3 _=>(Jb (Jg (Jl u36 rfl sz22 rfl) rfl (Jg (Js rfl At.z rfl pl22) rfl (Ju fn133 rfl rfl fun w hH=>(AreDegrees_c had (by omega) hH).mono ?_))))))))))));rintro _ w ⟨rfl,hH⟩;refine ⟨_,rfl,fun a hF=>JH hF hH ?_⟩;refine Jg (Em rfl) rfl (Jg (Jc rfl) rfl (Ek (jd:=9) rfl (fun hg9=>?_) (fun hg9=>?_)))
 ·
  try have hg9p:=of_decide_eq_true hg9
  refine JQ rfl rfl rfl hg9 (JQ rfl rfl rfl hg9 (JQ rfl rfl rfl hg9 (JQ rfl rfl rfl hg9 (JQ rfl rfl rfl hg9 (JQ rfl rfl rfl hg9 (JQ rfl rfl rfl hg9 (Jg (JY rfl hg9 rfl) rfl (Jf (Ja (hK3 (Ew rfl (Je fun _ hK4 _=>(Jb (Jg (Jd rfl) rfl (Jf ?_)))))))))))))));refine Ja (hK4 (Jt (Jk (Jr rfl (Res.tmp rfl) fun w hH=>?_))));replace hH:=hH.tail;exact ⟨rb (by unfold isAlg;rw [show isDeg ad=false by simpa using hg9];rfl),hH⟩
 ·
  try have hg9p:=of_decide_eq_false hg9
  refine JV (Jl u36 rfl sz34 rfl) rfl rfl rfl hg9 (JV (Js rfl At.z rfl pl34) rfl rfl rfl hg9 (JV (Jo u34 rfl rfl) rfl rfl rfl hg9 (JV (Jl u36 rfl sz22 rfl) rfl rfl rfl hg9 (JV (Js rfl At.z rfl pl22) rfl rfl rfl hg9 (JV (Jo u22 rfl rfl) rfl rfl rfl hg9 (JV (Eo rfl rfl) rfl rfl rfl hg9 (Jg (JX rfl hg9 rfl) rfl (Jf (Ja (hK3 (Jq rfl (fun hc19=>?_) (fun hc19=>?_))))))))))))
  ·
   refine Je fun _ hK5 _=>(Jb (Jg (Jd rfl) rfl (Jf (Ja (hK5 (Jt (Jk (Jr rfl (Res.tmp rfl) fun w hH=>?_))))))));replace hH:=hH.tail;exact ⟨rb (by unfold isAlg;rw [decide_eq_false (show ¬af.length=ad.length by omega)];simp),hH⟩
  ·
   have hD:isDeg ad=true:=by simpa using hg9
   have hn:=isDeg_len hD;have hd:=isDeg_bd hD
   have hlen:af.length=ad.length:=by omega
   have hpos9 : ∀j,j<ad.length→0≤ad.getD j 0:=fun j _=>(hd j).1;refine Jn (Ja (hK2 (Je fun _ hK6 _=>(Je fun _ hK7 _=>(Jb (Jg (Jl u36 rfl sz34 rfl) rfl (Jg (Js rfl At.z rfl pl34) rfl (Jg (Jo u34 rfl rfl) rfl (Jg (Jc rfl) rfl (Jf (Ja (hK7 (Jp (JD (σ:=Nat) (fun (k:Nat)=>[(21,.int .i64 (k:Int))]) (fun (k:Nat)=>H) (fun (k:Nat)=>obj g1 (.cells [.slice qad ad.length cad,.slice qaf af.length caf].toArray 36 (0,0))::L) (fun (k:Nat)=>k≤af.length∧∀j,j<k→imOk ad af j=true) (fun (k:Nat)=>af.length - k) 0 ⟨by omega,fun j hj=>by omega⟩ ⟨rfl,trivial⟩ rfl rfl ?_))))))))))))));rintro k ⟨hk,hI⟩ _ hAg0;refine Je fun _ hK8 _=>(Jb (Jg (JJ rfl rfl) rfl (Jf (Ja (hK8 (Je fun _ hK9 _=>(Jq rfl (fun hc24=>?_) (fun hc24=>?_))))))))
   ·
    have hl0:=hl9 k (by omega);have hdi:=hd k;refine Jn (Ja (hK9 (Je fun _ hK10 _=>(Jp (Je fun _ hK11 _=>(Jb (Jg (Jc rfl) rfl (Jg (JL u34 sz40 rfl rfl rfl (by omega) haf.sm) rfl ?_))))))));obtain ⟨qe25,ce25,he25,le25,Fe25⟩:=haf k (by omega);refine Jg (JM (cs:=[_]) rfl (one_cell he25) (haf.sm (i:=k) (by omega)) ag40) rfl (JP ze40 rfl fun g4=>(Jg (Jd rfl) rfl (JB rfl rfl (by first | exact bytesC_one _ | exact intsC_one _ | exact Term.c_one _ | simp [Value.oneCell']) (by simpa [*] using sz40) (by simp [*]) At.z (Jf (Ja (hK11 (Je fun _ hK12 _=>(Er [[], [0], [], [1,2], [3], [4], [5], [6,5], [5], [5], [9,5], [5], [10,11,5], [12,5], [13,5]] (by kernel_rfl) (JA (fun gh=>Jl u36 rfl sz22 rfl) (JA (fun gh=>Js rfl (.s .z) rfl pl22) (JA (fun gh=>Jm rfl At.z (by simpa [*] using ag40)) (HJ.call fn106 (fun gh=>rfl) (fun w X hH=>isForm_c had Fe25 (by omega) (by omega) hH) (JA (fun gh=>Em rfl) (JA (fun gh=>Jc rfl) (EV 5 rfl (fun h31=>?_) (fun h31=>?_))))))))))))))))
    ·
     try have h31p:=of_decide_eq_true h31
     refine Ee rfl (fun gh=>rfl) h31 (Ee rfl (fun gh=>rfl) h31 (Ee rfl (fun gh=>rfl) h31 (Ee rfl (fun gh=>rfl) h31 (Ee rfl (fun gh=>rfl) h31 (Ee rfl (fun gh=>rfl) h31 (Ee rfl (fun gh=>rfl) h31 (Ee rfl (fun gh=>rfl) h31 (Ee rfl (fun gh=>rfl) h31 (Ec 15 1 foll0 (by kernel_rfl) rfl rfl fun gh=>(En (us':=(26,_)::(27,_)::(28,_)::(29,_)::(30,_)::(31,_)::(32,_)::(33,_)::(34,_)::(35,_)::(36,_)::(37,_)::(38,_)::(39,_)::(40,_)::_) (L':=_) rfl rfl (JQ rfl rfl rfl h31 (Jf (Eb (JS.gn rfl rfl rfl h31 ?_))))))))))))));refine JC (JY rfl h31 rfl) rfl (Ed (Ja (hK12 (Ew rfl (Je fun _ hK13 _=>(Jb (Jg (Jd rfl) rfl (Jf (Ja (hK13 (Jt (JO (Jk (Jk (JO (Jk ?_))))))))))))))));refine Jr rfl (Res.tmp rfl) fun w hH=>?_;replace hH:=hH.tail;replace hH:=hH.tail;exact ⟨rb (by unfold isAlg;rw [imsOk_bad (i:=k) (by omega) (imOk_no1 (by simpa using h31))];simp),hH⟩
    ·
     try have h31p:=of_decide_eq_false h31
     refine Eh (fun gh=>Jl u36 rfl sz22 rfl) rfl (fun gh=>rfl) h31 (Eh (fun gh=>Js rfl (.s .z) rfl pl22) rfl (fun gh=>rfl) h31 (Eh (fun gh=>Jm rfl At.z (by simpa [*] using ag40)) rfl (fun gh=>rfl) h31 (Eh (fun gh=>Jl u36 rfl sz22 rfl) rfl (fun gh=>rfl) h31 (Eh (fun gh=>Js rfl (.s .z) rfl pl22) rfl (fun gh=>rfl) h31 (Eh (fun gh=>Jc rfl) rfl (fun gh=>rfl) h31 (Eh (fun gh=>JL u22 sz2 rfl rfl rfl (by omega) had.sm) rfl (fun gh=>rfl) h31 (Eh (fun gh=>JE rfl (had _ (by omega)) pl2) rfl (fun gh=>rfl) h31 (Eh (fun gh=>Jz rfl rfl (by first | exact nw _ (by omega) | rfl)) rfl (fun gh=>rfl) h31 (Ec 15 1 foll0 (by kernel_rfl) rfl rfl fun gh=>(En (us':=(26,_)::(27,_)::(28,_)::(29,_)::(30,_)::(31,_)::(32,_)::(33,_)::(34,_)::(35,_)::(36,_)::(37,_)::(38,_)::(39,_)::(40,_)::_) (L':=_) rfl rfl (EW fn134 rfl rfl h31 rfl rfl fun w hH=>(isOfDegree_c had Fe25 hn hd (by omega) hH).mono ?_)))))))))));rintro _ w ⟨rfl,hH⟩;refine ⟨_,rfl,fun a hF=>JH hF hH ?_⟩;refine Jf (Eb (JS.gy (Em rfl) rfl rfl rfl h31 (JC (JX rfl h31 rfl) rfl (Ed (Ja (hK12 (Ei rfl (fun h43=>?_) (fun h43=>?_))))))))
     ·
      refine Je fun _ hK14 _=>(Jb (Jg (Jd rfl) rfl (Jf (Ja (hK14 (Jt (JO (Jk (Jk (JO (Jk (Jr rfl (Res.tmp rfl) fun w hH=>?_))))))))))));replace hH:=hH.tail;replace hH:=hH.tail;exact ⟨rb (by unfold isAlg;rw [imsOk_bad (i:=k) (by omega) (by unfold imOk;rw [show degOk ad (fm af k) (ad.getD k 0+1)=false by simpa using h43];simp)];simp),hH⟩
     ·
      refine Jn (JF (Ja (hK10 (Jb (Jg (Jz rfl rfl (by first | exact nw _ (by omega) | rfl)) rfl (Jg (Jc rfl) rfl (Jf (Ja (JN .z ?_)))))))));exact hAg0 (k+1) ⟨by omega,upto hI (by unfold imOk;rw [show isForm ad (fm af k)=true by simpa using h31,show degOk ad (fm af k) (ad.getD k 0+1)=true by simpa using h43];rfl)⟩ (by omega) 27 rfl rfl ⟨rfl,trivial⟩ rfl rfl
   ·
    have hM9:=imsOk_good (ds:=ad) (fs:=af) (fun j hj=>hI j (by omega));have hA:=AlgOk.of hD hlen hM9 haf.wfss;refine JG (Jj (Jj (JK (Ja (hK6 (Je fun _ hK15 _=>(Jb (Jg (Jl u36 rfl sz34 rfl) rfl (Jg (Js rfl At.z rfl pl34) rfl (Jg (PR.makeFunc (ys:=[]) (zs:=[_]) rfl rfl) rfl (J.freezeRow .z fun H3 hle3 hc3=>?_)))))))))));have had3:=had.le hle3;have haf3:=haf.le hle3;have hcl:ClF B H0 H3 135 #[.pointer (some ⟨g1,0,none⟩)] (fun ts=>isForm ad ts=true∧Wfs ts) (noDf ad af):=fun H' L w q c x hle hS hx hH=>IsAlgebra1_c (Mi:=20) (Ms:=20) hx (CellAt.le (hc3 0 _ rfl) hle) (CellAt.le (hc3 1 _ rfl) hle) (had3.le hle) (haf3.le hle) hn hd hA.fok hA.hl (isForm_sok hS.2 hS.1) (Ex.occ (isForm_kex hd hn hS.2 hS.1) hA.hl) (by omega) (by have:=isForm_len4 hS.1;omega) hH;refine Ju fn104 rfl rfl fun w hH=>(ContainsFuncF_c haf3 fn135 hcl (by omega) (fun i hi=>⟨hA.ok i hi,hA.wf.fm i⟩) hH).mono ?_;rintro _ w ⟨rfl,hH⟩;refine ⟨_,rfl,fun a hF=>JH hF hH ?_⟩;refine Jg (Em rfl) rfl (Jg (Jd rfl) rfl (Jf (Ja (hK15 (Jt (Jr rfl (Res.tmp rfl) fun w hH=>?_))))));exact ⟨rb (by unfold isAlg;rw [hD,decide_eq_true hlen,hM9,noD_any];rfl),hH.weaken hle3 hw0 hw1⟩
end Go.Proofs.YtelcehjliighfaaGreat.G
